/- The walk of the reference's Recover. -/
import Derived.Test.YtclghfnmmnnceaaEndsR
namespace Go.Proofs.Ytclghfnmmnnceaa
open Go.RowKit
set_option linter.unusedVariables false
set_option linter.unusedSimpArgs false

attribute [local go_sem ↓] exec_store_Hash exec_store_Secret zero_Secret
attribute [local go_sem ↓] loadCells_blk
attribute [local go_sem] run_blkLoad rowAt_drew rowAt_old rowAt_new size_bcells size_scells bc_whole sc_whole
set_option maxHeartbeats 4000000 in
set_option maxRecDepth 100000 in
theorem refRecover_any (a : Option Addr) (cap : Nat) (c : List UInt8) (hc : c.length = 1088) (h : Bs 32) (w : World) (hb : BytesIn w a 1088 c) : Calls Try.prog 12 #[.slice a 1088 cap, .agg (bcells h)] w fun r w' => r = .returned (.agg (bcells (restB (nodesOf c hc) (digN h)))) ∧ Ext w w' := by
  have hR := heap_alloc2_new w (.cells (bcells h) 27) (.cells (bcells (zeros 32)) 27)
  have hA := heap_alloc2_old w (.cells (bcells h) 27) (.cells (bcells (zeros 32)) 27)
  have hx := ext_two w (.cells (bcells h) 27) (.cells (bcells (zeros 32)) 27)
  have hz := size_bcells (zeros 32)
  rw [bcells_zeros] at hz hR hx hA
  have hbx := hb.ext hx
  have hN := fun w' hb => nodes_any a cap c hc w' hb
  clear hb
  replace hR := hide hR
  replace hx := hide hx
  replace hbx := hide hbx
  replace hN := hide hN
  go_enter Try.func12, Try.ntmps12
  go_wp2_with (first
    | (go_at_call 28; (with_reducible refine (hN.out _ hbx.out).mono ?_); rintro r w1 ⟨rfl, hx1⟩; have hst1 := store_new_S (nodesOf c hc) noS w1 _ rfl))
  have hA1 := (hx1.block _ (lt_of_block hA)).trans hA
  have hR1 := (hx1.block _ (lt_of_block hR.out)).trans hR.out
  have hx1 := hx.out.then (hx1.then (ext_alloc w1 (.cells (scells (nodesOf c hc)) 25)))
  have hA2 := ((ext_alloc w1 (.cells (scells (nodesOf c hc)) 25)).block _ (lt_of_block hA1)).trans hA1
  have hR2 := ((ext_alloc w1 (.cells (scells (nodesOf c hc)) 25)).block _ (lt_of_block hR1)).trans hR1
  have hS2 := heap_alloc_new w1 (.cells (scells (nodesOf c hc)) 25)
  generalize w1.alloc (.cells (scells (nodesOf c hc)) 25) = W at *
  have rS := rowAt_whole hS2 (size_scells _)
  have rH := rowAt_whole hA2 (size_bcells h)
  have e0 : hashB (80 :: joinB (eachB (nodesOf c hc) (digN h) (fun _ => 3)) 68) = restB (nodesOf c hc) (digN h) := rfl
  have hWk := fun g cp w' hN => walk_down (nodesOf c hc) g cp (digN h) w' hN (fun i _ => digN_le h i)
  generalize eachB (nodesOf c hc) (digN h) (fun _ => 3) = E at *
  have hJ := fun w' => publicText_any E w'
  have hJl : (80 :: joinB E 68).length = 1089 := by rw [List.length_cons, length_joinB]
  generalize 80 :: joinB E 68 = J at *
  clear hst1 hA1 hR1 hA2 hS2 hA hR hbx hN hx
  replace hWk := hide hWk
  replace hJ := hide hJ
  replace e0 := hide e0
  replace hR2 := hide hR2
  go_region_with (first
    | (go_at_call 32; (with_reducible refine (refDigits_any h _).mono ?_); rintro r w3 ⟨g, cp, rfl, ho, hx3⟩; have hN := (HasInts.of_own (length_digL h) ho).nats; have rS3 := rowAt_ext hx3 rS; clear ho)
    | (go_at_call 31; (with_reducible refine (hWk.out g cp _ hN).mono ?_); rintro r w4 ⟨rfl, hx4⟩)
    | (go_at_call 30; (with_reducible refine (hJ.out _).mono ?_); rintro r w5 ⟨⟨v, rfl, a5, cap5, rfl, hc1, hc2, hc3, hb, hc5⟩, hx5⟩; rw [hJl] at hb hc3; replace hx5 : Ext W w5 := Ext.then (b := W.drew) ((Below.refl _ _).drew) (hx3.then (hx4.then hx5)); clear hc1 hc2 hc5)
    | (go_at_call 29; (with_reducible refine (refSB_any a5 1089 cap5 J _ (by omega) hb (fun e => (hc3 e).2)).mono ?_); rintro r w6 ⟨rfl, hx6⟩; rw [e0.out]; replace hx6 := hx5.then hx6; have hR6 := (hx6.block _ (lt_of_block hR2.out)).trans hR2.out; have hst6 := store_cells_hash w6 (w.heap.size + 1) 27 _ hz (restB (nodesOf c hc) (digN h)) hR6))
  all_goals go_wp2_with ((with_reducible show bodyPost _ _ _ _ _ _); refine ret_row (P := Try.prog) 4 27 32 _ _ rfl rfl Try.underlying27 rfl (by kernel_rfl) _ _ rfl (rowAt_whole (setRow_heap _ _ _ _ _ _ hR6) (size_bcells _)) ⟨rfl, below_setRow (hx1.then hx6) (by omega) _⟩)
end Go.Proofs.Ytclghfnmmnnceaa
