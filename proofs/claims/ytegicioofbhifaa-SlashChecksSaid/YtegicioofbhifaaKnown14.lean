/- A vote of epochs that is made; what is known of breaking votes; breaking is even. -/
import Derived.Test.YtegicioofbhifaaSlashW
namespace Go.Proofs.Ytegicioofbhifaa
open Go.RowKit
set_option linter.unusedVariables false
set_option linter.unusedSimpArgs false

theorem exec_build_Vote (ρ : Operand → Value) (d : Option Tmp) (ps : Array (Nat × Operand)) (t : TypeId) (p : String) (af : Array Edge) (gd : Option (Nat × Bool)) (w : World) : (execOp ρ ⟨d, .build 50 ps, t, p, af, gd⟩).run Try.prog w = buildStep Try.prog 50 (ps.map fun x => (x.1, ρ x.2)) w := exec_build 50 ρ d ps t p af gd w
theorem exec_build_Point (ρ : Operand → Value) (d : Option Tmp) (ps : Array (Nat × Operand)) (t : TypeId) (p : String) (af : Array Edge) (gd : Option (Nat × Bool)) (w : World) : (execOp ρ ⟨d, .build 48 ps, t, p, af, gd⟩).run Try.prog w = buildStep Try.prog 48 (ps.map fun x => (x.1, ρ x.2)) w := exec_build 48 ρ d ps t p af gd w
theorem exec_store_Vote (ρ : Operand → Value) (d : Option Tmp) (x y : Operand) (t : TypeId) (p : String) (af : Array Edge) (gd : Option (Nat × Bool)) (w : World) : (execOp ρ ⟨d, .store 50 x y, t, p, af, gd⟩).run Try.prog w = storeStep Try.prog 50 (ρ x) (ρ y) w := exec_store 50 ρ d x y t p af gd w
/-- A vote of epochs. -/
def epVt (s t : Int) : Vt := ⟨1, s, zeros 32, t, zeros 32, none, 0, 0⟩
theorem build_Point (w : World) (e : Int) : buildStep Try.prog 48 #[(0, .int .u64 e)] w = .ok (.value (.agg (ptCells e (zeros 32)))) w :=
  buildStep_eq w _ _ _ (by kernel_rfl)
theorem build_Vote (w : World) (s t : Int) : buildStep Try.prog 50 #[(0, .int .i64 1), (1, .agg (ptCells s (zeros 32))), (2, .agg (ptCells t (zeros 32)))] w = .ok (.value (.agg (vtCells (epVt s t)))) w :=
  buildStep_eq w _ _ _ (by kernel_rfl)
theorem store_Vote (w : World) (z v : Vt) : storeStep Try.prog 50 (.pointer (some ⟨w.heap.size, 0, none⟩)) (.agg (vtCells v)) (w.alloc (.cells (vtCells z) 50)) = .ok .skip (w.alloc (.cells (vtCells v) 50)) := by
  rw [storeStep_row _ _ _ 50 68 (vtCells v) (size_vtCells v) (by kernel_rfl), rowFree_new _ _ _ _ _ _ rfl, one_vtCells, setRowAt_new _ _ _ _ _ _ _ rfl, spliceA_full _ _ (by rw [size_vtCells, size_vtCells]), size_vtCells]
  rfl
theorem zero_Vote (w : World) : (zeroValue 50).run Try.prog w = .ok (.agg (vtCells ⟨0, 0, zeros 32, 0, zeros 32, none, 0, 0⟩)) w :=
  run_zeroValue w _ _ (by kernel_rfl)
attribute [local go_sem ↓] exec_build_Vote exec_build_Point exec_store_Vote build_Point build_Vote store_Vote zero_Vote
attribute [local go_sem] rowAt_new rowAt_old rowAt_drew size_vtCells vt_whole

set_option maxHeartbeats 400000 in
set_option maxRecDepth 100000 in
theorem vote_any (s t : Int) (w : World) :
    Calls Try.prog 46 #[.int .u64 s, .int .u64 t] w fun e w' => e = .returned (.agg (vtCells (epVt s t))) ∧ Ext w w' := by
  go_enter Try.func46, Try.ntmps46
  go_wp2_with ((with_reducible show bodyPost _ _ _ _ _ _); refine ret_row (P := Try.prog) 4 50 68 (vtCells (epVt s t)) _ rfl rfl Try.underlying50 rfl (by kernel_rfl) _ _ rfl ?_ ?_)
  · simp [go_sem]
  · first | (go_grown; done) | exact ⟨rfl, by go_grown⟩

set_option maxHeartbeats 400000 in
set_option maxRecDepth 100000 in
theorem known14 (w : World) : Calls Try.prog 20 #[] w fun e w' => e = .returned (.bool true) ∧ Ext w w' := by
  have k1 : brB (epVt 5 7) (epVt 6 7) = true := by decide
  have k2 : brB (epVt 5 9) (epVt 6 8) = true := by decide
  have k3 : brB (epVt 5 7) (epVt 7 8) = false := by decide
  go_enter Try.func20, Try.ntmps20
  go_wp2_with (first | (go_at_call 46; (with_reducible refine (vote_any _ _ _).mono ?_); rintro e w' ⟨rfl, hv⟩) | (go_at_call 45; (with_reducible refine (breaks_any _ _ _).mono ?_); rintro e w' ⟨rfl, hb⟩))
  go_ret
  exact ⟨rfl, (by repeat (first | exact Below.refl _ _ | with_reducible assumption | refine Ext.then (by assumption) ?_))⟩

theorem brB_symm (a b : Vt) : brB b a = brB a b := by
  have h : ∀ (e : Int) (n : Bs 32) (e' : Int) (n' : Bs 32), ptEq e n e' n' = ptEq e' n' e n := by
    intro e n e' n'; unfold ptEq bsEq; rw [Bool.eq_iff_iff]; simp only [Bool.and_eq_true, beq_iff_eq]; exact ⟨fun h => ⟨h.1.symm, h.2.symm⟩, fun h => ⟨h.1.symm, h.2.symm⟩⟩
  unfold brB
  rw [h b.se, h b.te, Bool.or_comm (roundB b a), show (b.te == a.te) = (a.te == b.te) from by rw [Bool.eq_iff_iff]; simp only [beq_iff_eq]; exact eq_comm]
end Go.Proofs.Ytegicioofbhifaa
