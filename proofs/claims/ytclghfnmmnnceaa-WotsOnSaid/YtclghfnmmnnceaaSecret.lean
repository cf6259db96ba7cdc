/- Secrets: made as noughts, stored whole, a node of them stored and loaded. -/
import Derived.Test.YtclghfnmmnnceaaStepW
namespace Go.Proofs.Ytclghfnmmnnceaa
open Go.RowKit
set_option linter.unusedVariables false
set_option linter.unusedSimpArgs false

def noS : Nat → Bs 16 := fun _ => zeros 16
set_option maxRecDepth 100000 in
theorem zero_Secret (w : World) : (zeroValue 25).run Try.prog w = .ok (.agg (scells noS)) w := run_zeroValue w _ _ (by kernel_rfl)
theorem exec_store_Secret (ρ : Operand → Value) (d : Option Tmp) (x y : Operand) (t : TypeId) (p : String) (af : Array Edge) (gd : Option (Nat × Bool)) (w : World) : (execOp ρ ⟨d, .store 25 x y, t, p, af, gd⟩).run Try.prog w = storeStep Try.prog 25 (ρ x) (ρ y) w := exec_store 25 ρ d x y t p af gd w
/-- A node is stored into a secret's block. -/
theorem store_node (w : World) (g i : Nat) (hi : i < 68) (S : Nat → Bs 16) (x : Bs 16) (t : TypeId) (h : w.heap[g]? = some (.cells (scells S) t (0, 0))) :
    storeStep Try.prog 23 (.pointer (some ⟨g, i * 16, none⟩)) (.agg (bcells x)) w = .ok .skip (w.setRow g (scells (upd S i x))) := by
  have hf : rowFree w g (i * 16) 16 = true := by unfold rowFree; rw [h]; simp only [size_scells]; simp; omega
  rw [storeStep_row w g (i * 16) 23 16 (bcells x) (size_bcells x) (by kernel_rfl), hf, one_bcells, if_pos (show (true && true) = true from rfl)]
  unfold setRowAt; rw [h]
  simp only
  rw [splice_scells S i x hi]
/-- Its cells alone. -/
theorem store_node_cells (w : World) (g i : Nat) (hi : i < 68) (S : Nat → Bs 16) (x : Bs 16) (t : TypeId) (h : w.heap[g]? = some (.cells (scells S) t (0, 0))) :
    (storeCells ⟨g, i * 16, none⟩ (bcells x).toList).run Try.prog w = .ok () (w.setRow g (scells (upd S i x))) := by
  have h1 := run_storeCells_at (P := Try.prog) g (i * 16) t (bcells x).toList 0 (scells S) w h (by rw [size_scells]; simp [size_bcells]; omega) (fun v hv => (Array.all_eq_true_iff_forall_mem.1 (one_bcells x)) v (by simpa using hv))
  rw [← splice_scells S i x hi]
  simpa [spliceA] using h1
end Go.Proofs.Ytclghfnmmnnceaa
