/- The walk of the reference's Step. -/
import Derived.Test.YtclghfnmmnnceaaHalfR
namespace Go.Proofs.Ytclghfnmmnnceaa
open Go.RowKit
set_option linter.unusedVariables false
set_option linter.unusedSimpArgs false

theorem store_cells_node (w : World) (g : Nat) (t : TypeId) (Z : Array Value) (hZ : Z.size = 16) (b : Bs 16) (h : w.heap[g]? = some (.cells Z t (0, 0))) : (storeCells ⟨g, 0, none⟩ (bcells b).toList).run Try.prog w = .ok () (w.setRow g (bcells b)) := by
  have h1 := run_storeCells_from (P := Try.prog) g t (bcells b).toList 0 Z w h (by rw [hZ]; simp [size_bcells]) (fun v hv => (Array.all_eq_true_iff_forall_mem.1 (one_bcells b)) v (by simpa using hv))
  rw [h1]
  simp
attribute [local go_sem ↓] exec_store_Bg zero_Bg exec_store_Node exec_store_Hash
attribute [local go_sem ↓] loadCells_blk
attribute [local go_sem] run_blkLoad rowAt_drew rowAt_old rowAt_new size_bcells bc_whole
set_option maxHeartbeats 4000000 in
set_option maxRecDepth 100000 in
theorem refStep_any (x : Bs 16) (i k : Nat) (w : World) : Calls Try.prog 13 #[.agg (bcells x), .int .i64 (i : Int), .int .i64 (k : Int)] w fun r w' => r = .returned (.agg (bcells (stepB x i k))) ∧ Ext w w' := by
  have e0 : halfB (hashB (stepT x i k)) = stepB x i k := rfl
  have hT := fun w' => stepText_any x i k w'
  generalize stepT x i k = c at e0 hT
  have hA := heap_alloc2_old w (.cells (bcells x) 23) (.cells (bcells (zeros 16)) 23)
  have hx := ext_two w (.cells (bcells x) 23) (.cells (bcells (zeros 16)) 23)
  have hZ := heap_alloc2_new w (.cells (bcells x) 23) (.cells (bcells (zeros 16)) 23)
  have hzZ := size_bcells (zeros 16)
  rw [bcells_zeros16] at hx hZ hzZ hA
  have r1 := rowAt_whole hA (size_bcells x)
  replace hZ := hide hZ
  replace e0 := hide e0
  replace hT := hide hT
  replace hzZ := hide hzZ
  clear hA
  go_enter Try.func13, Try.ntmps13
  go_wp2_with fail
  generalize ((w.alloc (.cells (bcells x) 23)).alloc _) = W at *
  replace hx := hide hx
  go_region_with (first
    | (go_at_call 34; (with_reducible refine (begin_w _).mono ?_); rintro r w1 ⟨rfl, hx1⟩; have r2 := rowAt_ext hx1 r1)
    | (go_at_call 35; (with_reducible refine (hT.out _).mono ?_); rintro r w2 ⟨⟨g, cp, rfl, hb⟩, hx2⟩; replace hx2 := hx1.then hx2)
    | (go_at_call 33; (with_reducible refine (half_any (some ⟨g, 0, none⟩) 19 cp c (by omega) _ hb (fun e => by cases e)).mono ?_); rintro r w3 ⟨rfl, hx3⟩; rw [e0.out]; replace hx3 := hx2.then hx3; have hZ3 := (hx3.block _ (lt_of_block hZ.out)).trans hZ.out; have hst3 := store_cells_node w3 (w.heap.size + 1) 23 _ hzZ.out (stepB x i k) hZ3))
  all_goals go_wp2_with ((with_reducible show bodyPost _ _ _ _ _ _); refine ret_row (P := Try.prog) 6 23 16 _ _ rfl rfl Try.underlying23 rfl (by kernel_rfl) _ _ rfl (rowAt_whole (setRow_heap _ _ _ _ _ _ hZ3) (size_bcells _)) ⟨rfl, below_setRow (hx.out.then (Ext.then (b := W.drew) ((Below.refl _ _).drew) hx3)) (by omega) _⟩)
end Go.Proofs.Ytclghfnmmnnceaa
