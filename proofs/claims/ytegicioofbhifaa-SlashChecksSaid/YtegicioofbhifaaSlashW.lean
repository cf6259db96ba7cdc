/- The walks of slash.Breaks and the reference's. -/
import Derived.Test.YtegicioofbhifaaZA
import Derived.WalkSpells
import Derived.WalkLawsBesides
namespace Go.Proofs.Ytegicioofbhifaa
open Go.RowKit
set_option linter.unusedVariables false
set_option linter.unusedSimpArgs false

theorem exec_Vote (ρ : Operand → Value) (d : Option Tmp) (x : Operand) (t : TypeId) (p : String) (af : Array Edge) (gd : Option (Nat × Bool)) (w : World) : (execOp ρ ⟨d, .load 50 x, t, p, af, gd⟩).run Try.prog w = loadStep Try.prog 50 (ρ x) w := exec_load 50 ρ d x t p af gd w
theorem exec_Point (ρ : Operand → Value) (d : Option Tmp) (x : Operand) (t : TypeId) (p : String) (af : Array Edge) (gd : Option (Nat × Bool)) (w : World) : (execOp ρ ⟨d, .load 48 x, t, p, af, gd⟩).run Try.prog w = loadStep Try.prog 48 (ρ x) w := exec_load 48 ρ d x t p af gd w
theorem step_Vote (w : World) (g o : Nat) : loadStep Try.prog 50 (.pointer (some ⟨g, o, none⟩)) w = match rowAt w g o 68 with | some cs => .ok (.value (.agg cs)) w | none => ((loadVar 50 ⟨g, o, none⟩).run Try.prog w).andThen fun a w' => .ok (.value a) w' := loadStep_row w g o 50 68 _ Try.underlying50 rfl (by kernel_rfl)
theorem step_Point (w : World) (g o : Nat) : loadStep Try.prog 48 (.pointer (some ⟨g, o, none⟩)) w = match rowAt w g o 33 with | some cs => .ok (.value (.agg cs)) w | none => ((loadVar 48 ⟨g, o, none⟩).run Try.prog w).andThen fun a w' => .ok (.value a) w' := loadStep_row w g o 48 33 _ Try.underlying48 rfl (by kernel_rfl)
attribute [local go_sem ↓] exec_Vote exec_Point step_Vote step_Point equalIn_Point
attribute [local go_sem] rowAt_new rowAt_old rowAt_drew size_vtCells vt_whole vt_source vt_target vt_se' vt_te'

def roundB (a b : Vt) : Bool := decide (a.se < b.se ∧ b.te < a.te)

set_option maxHeartbeats 400000 in
theorem refRound_any (a b : Vt) (w : World) :
    Calls Try.prog 50 #[.agg (vtCells a), .agg (vtCells b)] w fun e w' => e = .returned (.bool (roundB a b)) ∧ Ext w w' := by
  by_cases h : a.se < b.se
  · have hd : decide (a.se < b.se) = true := by simpa using h
    go_enter Try.func50, Try.ntmps50
    go_wp2
    go_ret
    exact ⟨ret_bool (by unfold roundB; simp [h]), by go_grown⟩
  · have hd : decide (a.se < b.se) = false := by simpa using h
    go_enter Try.func50, Try.ntmps50
    go_wp2
    go_ret
    exact ⟨ret_bool (by unfold roundB; simp; omega), by go_grown⟩

set_option maxHeartbeats 400000 in
theorem round_any (a b : Vt) (w : World) :
    Calls Try.prog 85 #[.agg (vtCells a), .agg (vtCells b)] w fun e w' => e = .returned (.bool (roundB a b)) ∧ Ext w w' := by
  by_cases h : a.se < b.se
  · have hd : decide (a.se < b.se) = true := by simpa using h
    go_enter Try.func85, Try.ntmps85
    go_wp2
    go_ret
    exact ⟨ret_bool (by unfold roundB; simp [h]), by go_grown⟩
  · have hd : decide (a.se < b.se) = false := by simpa using h
    go_enter Try.func85, Try.ntmps85
    go_wp2
    go_ret
    exact ⟨ret_bool (by unfold roundB; simp; omega), by go_grown⟩

/-- Do two votes break the rules? -/
def brB (a b : Vt) : Bool := !(ptEq a.se a.sn b.se b.sn && ptEq a.te a.tn b.te b.tn) && ((a.te == b.te) || (roundB a b || roundB b a))

theorem ext2 {w w' : World} {A B : Array Value} {t : TypeId} (h : Ext ((w.alloc (.cells A t)).alloc (.cells B t)) w') (o n : Nat) :
    rowAt w' w.heap.size o n = rowAt ((w.alloc (.cells A t)).alloc (.cells B t)) w.heap.size o n ∧ rowAt w' (w.heap.size + 1) o n = rowAt ((w.alloc (.cells A t)).alloc (.cells B t)) (w.heap.size + 1) o n :=
  ⟨rowAt_below h (by simp; omega) o n, rowAt_below h (by simp) o n⟩
set_option maxHeartbeats 4000000 in
set_option maxRecDepth 100000 in
theorem refBreaks_any (a b : Vt) (w : World) :
    Calls Try.prog 23 #[.agg (vtCells a), .agg (vtCells b)] w fun e w' => e = .returned (.bool (brB a b)) ∧ Ext w w' := by
  cases h1 : ptEq a.se a.sn b.se b.sn <;> cases h2 : ptEq a.te a.tn b.te b.tn <;> cases h3 : (a.te == b.te) <;> cases h4 : roundB a b
  all_goals
    go_enter Try.func23, Try.ntmps23
    go_wp2_with (first | (go_at_call 50; refine (refRound_any _ _ _).mono ?_; rintro e w' ⟨rfl, hx⟩; try (have hq := ext2 hx 0 68; simp [go_sem] at hq; obtain ⟨hq1, hq2⟩ := hq)))
    go_ret
    exact ⟨ret_bool (by simp [brB, h1, h2, h3, h4]), (by first | (go_grown; done) | (refine Ext.then (b := (w.alloc (.cells (vtCells a) 50)).alloc (.cells (vtCells b) 50)) (by go_grown) ?_; first | exact hx | exact Ext.then (by assumption) hx))⟩

set_option maxHeartbeats 4000000 in
set_option maxRecDepth 100000 in
theorem breaks_any (a b : Vt) (w : World) :
    Calls Try.prog 45 #[.agg (vtCells a), .agg (vtCells b)] w fun e w' => e = .returned (.bool (brB a b)) ∧ Ext w w' := by
  cases h1 : ptEq a.se a.sn b.se b.sn <;> cases h2 : ptEq a.te a.tn b.te b.tn <;> cases h3 : (a.te == b.te) <;> cases h4 : roundB a b
  all_goals
    go_enter Try.func45, Try.ntmps45
    go_wp2_with (first | (go_at_call 85; refine (round_any _ _ _).mono ?_; rintro e w' ⟨rfl, hx⟩; try (have hq := ext2 hx 0 68; simp [go_sem] at hq; obtain ⟨hq1, hq2⟩ := hq)))
    go_ret
    exact ⟨ret_bool (by simp [brB, h1, h2, h3, h4]), (by first | (go_grown; done) | (refine Ext.then (b := (w.alloc (.cells (vtCells a) 50)).alloc (.cells (vtCells b) 50)) (by go_grown) ?_; first | exact hx | exact Ext.then (by assumption) hx))⟩
end Go.Proofs.Ytegicioofbhifaa
