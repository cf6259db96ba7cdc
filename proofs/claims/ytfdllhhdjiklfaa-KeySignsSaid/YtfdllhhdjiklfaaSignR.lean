/- The walk of the reference's Sign. -/
import Derived.Test.YtfdllhhdjiklfaaZE
import Derived.Test.YtfdllhhdjiklfaaZD
namespace Go.Proofs.Ytfdllhhdjiklfaa
open Go.RowKit
set_option linter.unusedVariables false
set_option linter.unusedSimpArgs false

attribute [local go_sem ↓] exec_store_Hash exec_store_Secret zero_Secret
attribute [local go_sem ↓] loadCells_blk
attribute [local go_sem] run_blkLoad rowAt_drew rowAt_old rowAt_new size_bcells size_scells bc_whole sc_whole
set_option maxHeartbeats 4000000 in
set_option maxRecDepth 100000 in
theorem refSign_tail (S : Nat → Bs 16) (h : Bs 32) (w : World) : Calls Try.prog 36 #[.agg (scells S), .agg (bcells h)] w fun r w' => (∃ g cap, r = .returned (.slice (some ⟨g, 1, none⟩) 1088 cap) ∧ w.heap.size ≤ g ∧ 1088 ≤ cap ∧ cap ≤ maxLen ∧ ∃ cur : Array Value, w'.heap[g]? = some (.cells cur 5 (0, 0)) ∧ 1 + cap ≤ cur.size ∧ (cur.toList.drop 1).take 1088 = (signB S (digN h)).map cb) ∧ Ext w w' := by
  have e0 : joinB (eachB S (fun _ => 0) (digN h)) 68 = signB S (digN h) := rfl
  have hS := heap_alloc2_old w (.cells (scells S) 77) (.cells (bcells h) 23)
  have hH := heap_alloc2_new w (.cells (scells S) 77) (.cells (bcells h) 23)
  have hx := ext_two w (.cells (scells S) 77) (.cells (bcells h) 23)
  have rS := rowAt_whole hS (size_scells S)
  have rH := rowAt_whole hH (size_bcells h)
  clear hS hH
  go_enter Try.func36, Try.ntmps36
  go_upto_region 1 with fail
  generalize (w.alloc (.cells (scells S) 77)).alloc (.cells (bcells h) 23) = W at *
  have rS0 := rowAt_ext (ext_alloc W (.cells (scells noS) 77)) rS
  have rH0 := rowAt_ext (ext_alloc W (.cells (scells noS) 77)) rH
  have hD3 := fun i (_ : i < 68) => digN_le h i
  replace hD3 := hide hD3
  go_cut [5] (fun s5 wx => ∃ X, s5 = .pointer (some ⟨X, 0, none⟩) ∧ wx.heap[X]? = some (.cells (scells (eachB S (fun _ => 0) (digN h))) 77 (0, 0)) ∧ Ext w wx)
  case first =>
    go_region_with (first
      | (go_at_call 44; first
          | ((with_reducible refine (refDigits_any h W.drew).mono ?_); rintro r w1 ⟨g, cp, rfl, ho, hx1⟩; have hN := (HasInts.of_own (length_digL h) ho).nats; have hxW : Ext W w1 := Ext.then (b := W.drew) ((Below.refl _ _).drew) hx1; have rS1 := rowAt_ext hxW rS; have rS2 := rowAt_ext (ext_alloc w1 (.cells (scells noS) 77)) rS1; have hZ1 := trivial; clear ho; replace hN := hide hN)
          | ((with_reducible refine (refDigits_any h (W.alloc (.cells (scells noS) 77)).drew).mono ?_); rintro r w1 ⟨g, cp, rfl, ho, hx1⟩; have hN := (HasInts.of_own (length_digL h) ho).nats; have hxW : Ext W w1 := Ext.then (b := (W.alloc (.cells (scells noS) 77)).drew) (ext_alloc W _).drew hx1; have rS1 := rowAt_ext hxW rS; have hZ0 : (W.alloc (.cells (scells noS) 77)).drew.heap[W.heap.size]? = some (.cells (scells noS) 77 (0, 0)) := heap_alloc_new W _; have hZ1 := (hx1.block _ (lt_of_block hZ0)).trans hZ0; clear ho hZ0; replace hN := hide hN))
      | (go_at_call 43; first
          | ((with_reducible refine (walk_up S g cp (digN h) w1 hN.out hD3.out).mono ?_); rintro r w2 ⟨rfl, hx2⟩; have hxW2 := hxW.then hx2; have hst2 := store_cells_secret (w2.alloc (.cells (scells noS) 77)) w2.heap.size _ _ (size_scells _) (eachB S (fun _ => 0) (digN h)) (heap_alloc_new w2 _); rw [setRow_new] at hst2; try (have hZ2 := (hx2.block _ (lt_of_block hZ1)).trans hZ1; have hst3 := store_cells_secret w2 W.heap.size _ _ (size_scells _) (eachB S (fun _ => 0) (digN h)) hZ2))
          | ((with_reducible refine (walk_up S g cp (digN h) (w1.alloc (.cells (scells noS) 77)) (hN.out.ext (ext_alloc w1 _)) hD3.out).mono ?_); rintro r w2 ⟨rfl, hx2⟩; have hxW2 := hxW.then ((ext_alloc w1 _).then hx2); have hZ2 := (hx2.block _ (lt_of_block (heap_alloc_new w1 _))).trans (heap_alloc_new w1 _); have hst2 := store_cells_secret w2 w1.heap.size _ _ (size_scells _) (eachB S (fun _ => 0) (digN h)) hZ2)))
    all_goals
      go_wp2_with fail
      go_meet
      first
        | exact ⟨_, rfl, heap_alloc_new w2 _, hx.then (hxW2.then (ext_alloc _ _))⟩
        | exact ⟨_, rfl, setRow_heap _ _ _ _ _ _ hZ2, below_setRow (hx.then hxW2) (hx.then hxW).size _⟩
        | exact ⟨_, rfl, setRow_heap _ _ _ _ _ _ hZ2, below_setRow (hx.then hxW2) hx.size _⟩
  case rest =>
    obtain ⟨X, rfl, hX, hxc⟩ := hcut
    have rX := rowAt_whole hX (size_scells _)
    clear rS rH rS0 rH0 hX hD3 hx
    generalize eachB S (fun _ => 0) (digN h) = E at *
    have hJ := fun w' => publicText_own E w'
    have hJl : (80 :: joinB E 68).length = 1089 := by rw [List.length_cons, length_joinB]
    have hcut : (80 :: joinB E 68).drop 1 = signB S (digN h) := e0
    generalize 80 :: joinB E 68 = J at *
    replace hJ := hide hJ
    replace e0 := hide e0
    replace hcut := hide hcut
    go_wp2_with (go_at_call 42; (with_reducible refine (hJ.out _).mono ?_); rintro r w5 ⟨⟨v, rfl, hown⟩, hx5⟩; rcases hown.2 with ⟨_, hc0⟩ | ⟨g5, cap5, cur, rfl, hbg, hg, hc1, hc2, hsz, htk⟩; (exact absurd hc0 (by decide)); clear hown)
    go_ret
    refine ⟨⟨g5, cap5 - 1, rfl, Nat.le_trans hxc.size hbg, by omega, by omega, cur, hg, by omega, ?_⟩, hxc.then hx5⟩
    rw [← hcut.out, List.map_drop, ← htk, List.drop_take]
theorem refSign_any (S : Nat → Bs 16) (h : Bs 32) (w : World) : Calls Try.prog 36 #[.agg (scells S), .agg (bcells h)] w fun r w' => (∃ g cap, r = .returned (.slice (some ⟨g, 1, none⟩) 1088 cap) ∧ BytesIn w' (some ⟨g, 1, none⟩) 1088 (signB S (digN h))) ∧ Ext w w' :=
  (refSign_tail S h w).mono fun r w' ⟨⟨g, cap, hr, _, h1, _, cur, h2, h3, h4⟩, hx⟩ => ⟨⟨g, cap, hr, by
    have hl : (signB S (digN h)).length = 1088 := length_joinB _ 68
    refine ⟨hl, fun _ => ⟨_, rfl, fun j hj => ?_⟩⟩
    rw [add_flat, cell_of_row _ _ _ _ _ _ h2, ← Array.getElem?_toList, ← List.getElem?_drop, ← List.getElem?_take_of_lt hj, h4, List.getElem?_map]
    simp [List.getD, List.getElem?_eq_getElem (show j < (signB S (digN h)).length by omega)]⟩, hx⟩
end Go.Proofs.Ytfdllhhdjiklfaa
