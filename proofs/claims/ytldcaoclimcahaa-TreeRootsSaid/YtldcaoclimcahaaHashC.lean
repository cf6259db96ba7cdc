/- Two hashes compared; a hash stored into a block that was just made. -/
import Derived.Test.YtldcaoclimcahaaText
namespace Go.Proofs.Ytldcaoclimcahaa
open Go.RowKit
set_option linter.unusedVariables false
set_option linter.unusedSimpArgs false

theorem equal_hash (w : World) (a b : Bs 32) : (Op.equalIn 10000 28 (.agg (bcells a)) (.agg (bcells b))).run Try.prog w = .ok (bsEq a b) w :=
  equalIn_Bs w 9998 28 5 32 Try.underlying28 Try.underlying5 (by kernel_rfl) a b
theorem bsEq_self {n : Nat} (a : Bs n) : bsEq a a = true := by rw [bsEq_iff]
attribute [local go_sem ↓] exec_store_Hash loadCells_blk equal_hash
attribute [local go_sem] run_blkLoad rowAt_drew rowAt_new rowAt_old size_bcells bc_whole bsEq_self
theorem equal_any (a b : Bs 32) (w : World) : Calls Try.prog 24 #[.agg (bcells a), .agg (bcells b)] w fun r w' => r = .returned (.bool (bsEq a b)) ∧ Ext w w' := by
  go_enter Try.func24, Try.ntmps24
  go_wp2_with fail
  go_ret
  exact ⟨rfl, by go_grown⟩
theorem bb_at {n : Nat} {w : World} {g : Nat} {h : Bs n} (hr : rowAt w g 0 n = some (bcells h)) (j : Nat) (hj : j < n) : w.cell? ⟨g, j, none⟩ = some (.int .u8 ((h.1.getD j 0).toNat : Int)) := by
  have := cell_of_rowAt' hr j hj
  rw [Nat.zero_add] at this
  rw [this]
  have h1 := h.2
  simp [bcells, Extern.Stop.cell, List.getD, List.getElem?_eq_getElem (show j < h.1.length by omega)]
theorem store_new_H (o : Bs 32) (w : World) (N : Nat) (hN : w.heap.size = N) (z : Array Value) (hz : z.size = 32) : storeStep Try.prog 28 (.pointer (some ⟨N, 0, none⟩)) (.agg (bcells o)) (w.alloc (.cells z 28)) = .ok .skip (w.alloc (.cells (bcells o) 28)) := by
  subst hN
  rw [store_over (P := Try.prog) _ w.heap.size 28 32 (bcells o) z 28 (size_bcells o) hz (by kernel_rfl) (one_bcells _) (heap_alloc_new w _), setRow_new]
end Go.Proofs.Ytldcaoclimcahaa
