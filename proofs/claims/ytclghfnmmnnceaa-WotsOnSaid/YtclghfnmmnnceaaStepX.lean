/- The walk of wots.Step. -/
import Derived.Test.YtclghfnmmnnceaaStepW
namespace Go.Proofs.Ytclghfnmmnnceaa
open Go.RowKit
set_option linter.unusedVariables false
set_option linter.unusedSimpArgs false

attribute [local go_sem ↓] exec_store_Hash exec_store_Node
attribute [local go_sem ↓] loadCells_blk
attribute [local go_sem] node_at run_blkLoad rowAt_drew rowAt_old rowAt_new size_bcells bc_whole half_extract
set_option maxHeartbeats 4000000 in
set_option maxRecDepth 100000 in
theorem stepYes (x : Bs 16) (i k : Nat) (hi : i < 68) (hk : k < 3) (w : World) : Calls Try.prog 9 #[.agg (bcells x), .int .i64 (i : Int), .int .i64 (k : Int)] w fun r w' => r = .returned (.tuple #[.agg (bcells (stepB x i k)), .int .i64 0]) ∧ Ext w w' := by
  have d1 : decide ((i : Int) < 0) = false := by simp
  have d2 : decide ((68 : Int) ≤ i) = false := by simp; omega
  have d3 : decide ((k : Int) < 0) = false := by simp
  have d4 : decide ((3 : Int) ≤ k) = false := by simp; omega
  have d5 : decide (68 ≤ i) = false := by simp; omega
  have d6 : decide (3 ≤ k) = false := by simp; omega
  have hx := ext_two w (.cells (bcells x) 23) (.cells (bcells (zeros 16)) 23)
  have hZ := heap_alloc2_new w (.cells (bcells x) 23) (.cells (bcells (zeros 16)) 23)
  have hzZ := size_bcells (zeros 16)
  rw [bcells_zeros16] at hx hZ hzZ
  replace hx := hide hx
  replace hZ := hide hZ
  replace hzZ := hide hzZ
  go_enter Try.func9, Try.ntmps9
  go_wp2_with (first
    | (go_at_call 24; (with_reducible refine (step_any x i k (by omega) (by omega) _).mono ?_); rintro r w4 ⟨rfl, hx4⟩; have hZ4 := (hx4.block _ (lt_of_block hZ.out)).trans hZ.out; have hst4 := store_over (P := Try.prog) w4 (w.heap.size + 1) 23 16 (bcells (stepB x i k)) _ 23 (size_bcells _) hzZ.out (by kernel_rfl) (one_bcells _) hZ4)
    | ((with_reducible show bodyPost _ _ _ _ _ _); refine ret_row2 (P := Try.prog) 6 7 23 16 _ _ _ rfl rfl Try.underlying23 rfl (by kernel_rfl) _ _ rfl rfl (rowAt_whole (setRow_heap _ _ _ _ _ _ hZ4) (size_bcells _)) ⟨rfl, below_setRow (hx.out.then hx4) (by omega) _⟩))
set_option maxHeartbeats 4000000 in
set_option maxRecDepth 100000 in
theorem stepNo (x : Bs 16) (i k : Int) (h : i < 0 ∨ 68 ≤ i ∨ k < 0 ∨ 3 ≤ k) (w : World) : Calls Try.prog 9 #[.agg (bcells x), .int .i64 i, .int .i64 k] w fun r w' => r = .returned (.tuple #[.agg (bcells (zeros 16)), .int .i64 2]) ∧ Ext w w' := by
  have hx := ext_two w (.cells (bcells x) 23) (.cells (bcells (zeros 16)) 23)
  have hZ := heap_alloc2_new w (.cells (bcells x) 23) (.cells (bcells (zeros 16)) 23)
  have hst := store_self (P := Try.prog) _ (w.heap.size + 1) 23 16 (bcells (zeros 16)) 23 (size_bcells _) (by kernel_rfl) (one_bcells _) hZ
  have hrow := rowAt_whole hZ (size_bcells (zeros 16))
  rw [bcells_zeros16] at hst hZ hx hrow
  replace hZ := hide hZ
  replace hx := hide hx
  rw [bcells_zeros16]
  by_cases h1 : i < 0
  · have d1 : decide (i < 0) = true := by simpa using h1
    go_enter Try.func9, Try.ntmps9
    go_wp2_with ((with_reducible show bodyPost _ _ _ _ _ _); refine ret_row2 (P := Try.prog) 6 7 23 16 _ _ _ rfl rfl Try.underlying23 rfl (by kernel_rfl) _ _ rfl rfl hrow ⟨rfl, hx.out⟩)
  · have d1 : decide (i < 0) = false := by simpa using h1
    by_cases h2 : 68 ≤ i
    · have d2 : decide (68 ≤ i) = true := by simpa using h2
      go_enter Try.func9, Try.ntmps9
      go_wp2_with ((with_reducible show bodyPost _ _ _ _ _ _); refine ret_row2 (P := Try.prog) 6 7 23 16 _ _ _ rfl rfl Try.underlying23 rfl (by kernel_rfl) _ _ rfl rfl hrow ⟨rfl, hx.out⟩)
    · have d2 : decide (68 ≤ i) = false := by simpa using h2
      by_cases h3 : k < 0
      · have d3 : decide (k < 0) = true := by simpa using h3
        go_enter Try.func9, Try.ntmps9
        go_wp2_with ((with_reducible show bodyPost _ _ _ _ _ _); refine ret_row2 (P := Try.prog) 6 7 23 16 _ _ _ rfl rfl Try.underlying23 rfl (by kernel_rfl) _ _ rfl rfl hrow ⟨rfl, hx.out⟩)
      · have d3 : decide (k < 0) = false := by simpa using h3
        have h4 : 3 ≤ k := by omega
        have d4 : decide (3 ≤ k) = true := by simpa using h4
        go_enter Try.func9, Try.ntmps9
        go_wp2_with ((with_reducible show bodyPost _ _ _ _ _ _); refine ret_row2 (P := Try.prog) 6 7 23 16 _ _ _ rfl rfl Try.underlying23 rfl (by kernel_rfl) _ _ rfl rfl hrow ⟨rfl, hx.out⟩)
end Go.Proofs.Ytclghfnmmnnceaa
