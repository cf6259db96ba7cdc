/- slices.Clone of bytes. -/
import Derived.Test.YtgeijcielakeeaaAppK
namespace Go.Proofs.Ytgeijcielakeeaa
open Go.RowKit
set_option linter.unusedVariables false
set_option linter.unusedSimpArgs false

set_option maxHeartbeats 4000000 in
set_option maxRecDepth 100000 in
theorem clone_any (a : Option Addr) (n cap : Nat) (c : List UInt8) (w : World) (hnil : a = none → n = 0 ∧ cap = 0) (hn : n ≤ 140737488355328) (h : BytesIn w a n c) :
    Calls Try.prog 19 #[.slice a n cap] w fun r w' => ∃ v, r = .returned v ∧ Fresh w.heap.size v c w' ∧ Ext w w' := by
  have heq := fun w a n cap => run_eql_slice_nil (P := Try.prog) w 29 5 a n cap Try.underlying29
  cases a with
  | none =>
    obtain ⟨h0, rfl⟩ := bytes_nil h
    obtain ⟨_, hc0⟩ := hnil rfl
    subst h0 hc0
    go_enter Try.func19, Try.ntmps19
    go_wp2_with fail
    go_ret
    exact ⟨_, rfl, ⟨none, 0, rfl, Nat.le_refl _, Nat.zero_le _, fun _ => ⟨rfl, rfl⟩, bytes_none _ _, fun ad e => by cases e⟩, Below.refl _ _⟩
  | some ad =>
    have hb := h.ext (ext_alloc w (.cells #[] 5))
    have ho := own_lit w 5 #[] 0 rfl (by decide)
    replace h := hide h
    replace hb := hide hb
    have hn' : 0 + n ≤ 140737488355328 := by omega
    replace hn := hide hn
    replace hn' := hide hn'
    replace ho := hide ho
    go_enter Try.func19, Try.ntmps19
    go_wp2_with (at_builtin; (refine wpList_app _ rfl _ _ rfl w.heap.size 0 (.slice (some ⟨w.heap.size, 0, none⟩) 0 0) [] rfl ho.out (some ad) n cap c rfl hb.out hn'.out (ext_alloc w _).size ?_); intro v1 w1 hown1 hgrow1 hnil1; rw [Nat.zero_add, List.nil_append] at hown1; have hx1 := ext_grown (ext_alloc w (.cells #[] 5)) hgrow1 (fun k hk => by simp [Value.ownBlock] at hk; omega))
    go_ret
    exact ⟨_, rfl, own_fresh hown1, hx1⟩
end Go.Proofs.Ytgeijcielakeeaa
