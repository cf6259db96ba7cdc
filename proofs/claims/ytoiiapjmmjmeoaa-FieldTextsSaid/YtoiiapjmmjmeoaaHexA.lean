/- The walks of strings.Builder (lines of the shelf's own worked walks, turned to this program). -/
import Derived.Test.YtoiiapjmmjmeoaaApp
import Derived.Lib.Builder
import Derived.Lib.AppendStr
import Derived.Lib.UnsafeStr
import Derived.Laws.Externs
import Derived.BigQuiet
import Derived.Deep.QuietTactic
import Derived.Deep.RegionWith
namespace Go.Proofs.Ytoiiapjmmjmeoaa
open Go.RowKit
set_option linter.unusedVariables false
set_option linter.unusedSimpArgs false

theorem info_builder : (Try.prog.info? 69).map (·.size) = some 2 := by kernel_rfl
theorem lies_builder : liesAt Try.prog Try.prog.depth 69 (2 / Try.prog.cellsOf 69) 0 69 1 = true := by kernel_rfl
set_option maxHeartbeats 1000000 in
theorem copyCheck_any (B b : Nat) (bs : List Value) (w : World) (h : Lib.IsBuilder 69 5 B b bs w) :
    Calls Try.prog 46 #[.pointer (some ⟨b, 0, none⟩)] w fun r w' => r = .returned (.tuple #[]) ∧ Lib.BuilderAt 69 5 B b (.pointer (some ⟨b, 0, none⟩)) bs w' ∧ Below B w w' := by
  obtain ⟨j, hj, hjs⟩ := Option.map_eq_some_iff.1 info_builder
  rcases h with h | h
  · have h0 := h.cell0
    have hsh := h.shape
    have hfz := h.frozen0
    have k1 := Lib.run_to_unsafe w ⟨b, 0, none⟩ Try.underlying67 Try.underlying81 hj (by rw [hjs]; decide) hsh (Nat.zero_lt_succ 1)
    have k2 := Lib.run_from_unsafe w ⟨b, 0, none⟩ Try.underlying81 Try.underlying67 hj hsh lies_builder
    have k3 : (callFunc 54 #[.pointer (some ⟨b, 0, none⟩)]).run Try.prog w = .ok (.value (.pointer (some ⟨b, 0, none⟩))) w := by
      rw [run_callFunc_extern Try.func54 (by kernel_rfl) (by kernel_rfl) (by kernel_rfl) (e := Extern.AbiNoEscape.same) (by kernel_rfl), Lib.run_noEscape]
      rfl
    have hend : Lib.BuilderAt 69 5 B b (.pointer (some ⟨b, 0, none⟩)) bs (w.setCell ⟨b, 0, none⟩ (.pointer (some ⟨b, 0, none⟩))) ∧ Below B w (w.setCell ⟨b, 0, none⟩ (.pointer (some ⟨b, 0, none⟩))) := ⟨h.used _, (Below.refl B w).setCell (p := ⟨b, 0, none⟩) h.1 _⟩
    replace hend := hide hend
    clear h hsh
    go_enter Try.func46, Try.ntmps46
    go_wp2_with fail
    go_end0
    exact ⟨rfl, hend.out⟩
  · have h0 := h.cell0
    have k1 := Lib.run_neq_ptr_same (P := Try.prog) w ⟨b, 0, none⟩ Try.underlying67 hj
    have hend : Lib.BuilderAt 69 5 B b (.pointer (some ⟨b, 0, none⟩)) bs w := h
    replace hend := hide hend
    clear h
    go_enter Try.func46, Try.ntmps46
    go_wp2_with fail
    go_end0
    exact ⟨rfl, hend.out, Below.refl _ _⟩
theorem wrote {B b : Nat} {bs : List Value} {c : Int} {w w1 w2 : World} {v v' : Value} (hB : B ≤ b) (hbk : w1.heap[b]? = some (.cells #[.pointer (some ⟨b, 0, none⟩), v] 69 (0, 0))) (hown : w1.ownsRow B 5 1 v bs.length bs) (hne : v.ownBlock ≠ some b) (hb1 : Below B w w1) (hBw : B ≤ w.heap.size)
    (hgrow : (w1.alloc (.cells #[.int .u8 c] 5)).grownBy w2 v.ownBlock) (hown' : w2.ownsRow B 5 1 v' (bs.length + 1) (bs ++ [.int .u8 c])) :
    w2.heap[b]? = some (.cells #[.pointer (some ⟨b, 0, none⟩), v] 69 (0, 0)) ∧ w2.ownsRow B 5 1 v' (bs.length + 1) (bs ++ [.int .u8 c]) ∧ Below B w w2 ∧ ∃ g cap, v' = .slice (some ⟨g, 0, none⟩) (bs.length + 1) cap := by
  have hlt := lt_of_block hbk
  refine ⟨?_, hown', ?_, ?_⟩
  · rw [hgrow.block b (by simp; omega) (fun e => hne e.symm), Lib.alloc_old w1 _ b hlt]
    exact hbk
  · exact (hb1.alloc (by have := hb1.size; omega) _).grown hgrow (by have := hb1.size; simp; omega) (fun k hk => (hown.lt k hk).1)
  · rcases hown'.2 with ⟨_, h0⟩ | ⟨g, cap, cur, hv, _⟩
    · omega
    · exact ⟨g, cap, hv⟩
set_option maxHeartbeats 1000000 in
set_option maxRecDepth 100000 in
theorem writeByte_any (B b : Nat) (bs : List Value) (c : Int) (w : World) (h : Lib.IsBuilder 69 5 B b bs w) (hlen : bs.length + 1 ≤ 140737488355328) (hBw : B ≤ w.heap.size) :
    Calls Try.prog 38 #[.pointer (some ⟨b, 0, none⟩), .int .u8 c] w fun e w' => e = .returned .nilIface ∧ Lib.BuilderAt 69 5 B b (.pointer (some ⟨b, 0, none⟩)) (bs ++ [.int .u8 c]) w' ∧ Below B w w' := by
  obtain ⟨i0, hi, hz0, hz1, hz2⟩ := info_parts info_u8
  have hcc := copyCheck_any B b bs w h
  replace hcc := hide hcc
  clear h
  go_enter Try.func38, Try.ntmps38
  go_wp2_with (first
    | (go_at_call 46; (with_reducible refine hcc.out.mono ?_); rintro r w1 ⟨rfl, h1, hb1⟩; obtain ⟨hB, v, hbk, hown, hne⟩ := h1; have c0 : w1.cell? ⟨b, 0, none⟩ = some (.pointer (some ⟨b, 0, none⟩)) := (by rw [Lib.cell_of_heap hbk]; rfl); have c1 : w1.cell? ⟨b, 1, none⟩ = some v := (by rw [Lib.cell_of_heap hbk]; rfl); replace hbk := hide hbk)
    | (at_builtin; (refine wpList_append_own _ rfl _ _ 22 rfl B 5 i0 (.int .u8 0) 1 1 Try.underlying22 hi hz0 hz1 hz2 rfl (by decide) v bs.length bs rfl (hown.alloc _) ⟨w1.heap.size, 0, none⟩ 1 1 [.int .u8 c] rfl rfl (World.news_of_block (heap_alloc_new _ _)) (by intro u hu; simp at hu; subst hu; rfl) (by unfold maxLen; omega) (by omega) (by have := hb1.size; simp; omega) ?_); intro v' w2 hown' hgrow hn0; clear hn0; obtain ⟨hb2, hown2, hbel, g, cap, rfl⟩ := wrote hB hbk.out hown hne hb1 hBw hgrow hown'; have d0 : w2.cell? ⟨b, 0, none⟩ = some (.pointer (some ⟨b, 0, none⟩)) := (by rw [Lib.cell_of_heap hb2]; rfl); have d1 : w2.cell? ⟨b, 1, none⟩ = some v := (by rw [Lib.cell_of_heap hb2]; rfl); have f1 : w2.frozen? ⟨b, 1, none⟩ = false := Lib.frozen_of_heap hb2 1; replace hb2 := hide hb2; replace hown2 := hide hown2; clear hown' hgrow))
  go_ret
  exact ⟨rfl, Lib.BuilderAt.put hB hb2.out (bs' := bs ++ [.int .u8 c]) (by simpa using hown2.out) (by decide), hbel.setCell (p := ⟨b, 1, none⟩) hB _⟩
end Go.Proofs.Ytoiiapjmmjmeoaa
