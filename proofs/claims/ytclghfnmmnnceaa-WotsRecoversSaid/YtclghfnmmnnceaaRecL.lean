/- The law on what comes of any bytes: its walk. -/
import Derived.Test.YtclghfnmmnnceaaRecR
import Derived.Test.YtclghfnmmnnceaaRecW
import Derived.Test.YtclghfnmmnnceaaKnown6
namespace Go.Proofs.Ytclghfnmmnnceaa
open Go.RowKit
set_option linter.unusedVariables false
set_option linter.unusedSimpArgs false

theorem exec_build_H (ρ : Operand → Value) (d : Option Tmp) (ps : Array (Nat × Operand)) (t : TypeId) (p : String) (af : Array Edge) (gd : Option (Nat × Bool)) (w : World) : (execOp ρ ⟨d, .build 27 ps, t, p, af, gd⟩).run Try.prog w = buildStep Try.prog 27 (ps.map fun x => (x.1, ρ x.2)) w := exec_build 27 ρ d ps t p af gd w
theorem build_f0 (w : World) : buildStep Try.prog 27 #[] w = .ok (.value (.agg (bcells (zeros 32)))) w := buildStep_eq w _ _ _ (by kernel_rfl)
attribute [local go_sem ↓] exec_store_Hash exec_build_H build_f0
attribute [local go_sem ↓] loadCells_blk
attribute [local go_sem] run_blkLoad rowAt_drew rowAt_old rowAt_new size_bcells bc_whole equal_hash
set_option maxHeartbeats 8000000 in
set_option maxRecDepth 100000 in
theorem wotsRecovers_walk (a : Option Addr) (n cap : Nat) (c : List UInt8) (h : Bs 32) (w : World) (hn : n ≤ cap) (hcap : cap ≤ maxLen) (hb : BytesIn w a n c) : Calls Try.prog 4 #[.slice a n cap, .agg (bcells h)] w fun e w' => e = .returned (.bool true) ∧ Ext w w' := by
  have hA := heap_alloc_new w (.cells (bcells h) 27)
  have hx := ext_alloc w (.cells (bcells h) 27)
  have rA := rowAt_whole hA (size_bcells h)
  have hz32 : (bcells (zeros 32)).size = 32 := size_bcells _
  have hez := bsEq_self (zeros 32)
  have hbx := hb.ext hx
  have hnm : n ≤ maxLen := by omega
  have hlen := hb.1
  rw [bcells_zeros] at hz32
  clear hb hA
  replace hx := hide hx
  replace hbx := hide hbx
  by_cases h1 : 2000 < n
  · have h1' : (2000 : Int) < n := by omega
    replace hlen := hide hlen
    go_enter Try.func4, Try.ntmps4
    go_wp2_with (go_at_call 10; (with_reducible refine (known06 _).mono ?_); rintro r w6 ⟨rfl, hx6⟩)
    go_ret
    exact ⟨rfl, hx.out.then hx6⟩
  · have h1' : ¬ (2000 : Int) < n := by omega
    by_cases h2 : n = 1088
    · subst h2
      have hR := fun w' h1 => recover_any a cap c hlen h w' hn hcap h1
      have hV := fun w' h1 => refRecover_any a cap c hlen h w' h1
      generalize restB (nodesOf c hlen) (digN h) = P at *
      have hself := bsEq_self P
      replace hR := hide hR
      replace hV := hide hV
      clear hlen
      go_enter Try.func4, Try.ntmps4
      go_wp2_with (go_at_call 11; (with_reducible refine (hR.out _ hbx.out).mono ?_); rintro r w2 ⟨rfl, hx2⟩; have hst2 := store_new_H P w2 _ rfl _ hz32; have hP2 := heap_alloc_new w2 (.cells (bcells P) 27); have rP2 := rowAt_whole hP2 (size_bcells _); have hx3 := hx2.then (ext_alloc w2 (.cells (bcells P) 27)); have rA3 := rowAt_ext hx3 rA; have hb3 := hbx.out.ext hx3)
      replace hx3 := hx.out.then hx3
      clear hst2 hP2 hx2 hbx hR rA hx
      generalize w2.alloc (.cells (bcells P) 27) = W at *
      generalize w2.heap.size = G at *
      replace hb3 := hide (hb3.ext (ext_drew W))
      go_region_with (first
        | (go_at_call 12; (with_reducible refine (hV.out _ hb3.out).mono ?_); rintro r w4 ⟨rfl, hx4⟩; replace hx4 : Ext W w4 := Ext.then (b := W.drew) ((Below.refl _ _).drew) hx4; have rP4 := rowAt_ext hx4 rP2)
        | (go_at_call 10; (with_reducible refine (known06 _).mono ?_); rintro r w6 ⟨rfl, hx6⟩; have rP6 := rowAt_ext hx6 rP4))
      all_goals
        go_wp2_with fail
        go_ret
        exact ⟨rfl, hx3.then (hx4.then hx6)⟩
    · have h2' : ¬ (n : Int) = 1088 := by omega
      have hR := fun w' => recover_no a n cap h w' h2 hnm
      replace hR := hide hR
      replace hlen := hide hlen
      go_enter Try.func4, Try.ntmps4
      go_wp2_with (first
        | (go_at_call 11; (with_reducible refine (hR.out _).mono ?_); rintro r w2 ⟨rfl, hx2⟩; have hst2 := store_new_H (zeros 32) w2 _ rfl _ hz32; have hx3 := hx.out.then (hx2.then (ext_alloc w2 (.cells (bcells (zeros 32)) 27))))
        | (go_at_call 10; (with_reducible refine (known06 _).mono ?_); rintro r w6 ⟨rfl, hx6⟩))
      go_ret
      exact ⟨rfl, hx3.then hx6⟩
end Go.Proofs.Ytclghfnmmnnceaa
