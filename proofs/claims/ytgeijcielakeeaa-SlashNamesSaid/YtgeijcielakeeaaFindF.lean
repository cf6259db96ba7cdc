/- The closure that slash.Find hands over; slices.IndexFunc with it; slash.clone. -/
import Derived.Test.YtgeijcielakeeaaArgsV
import Derived.Test.YtgeijcielakeeaaKnown14
import Derived.BigQuiet
import Derived.Deep.RegionLaw
import Derived.Deep.QuietTactic
namespace Go.Proofs.Ytgeijcielakeeaa
open Go.RowKit
set_option linter.unusedVariables false
set_option linter.unusedSimpArgs false
set_option maxRecDepth 100000

theorem exec_HashF (ρ : Operand → Value) (d : Option Tmp) (x : Operand) (t : TypeId) (p : String) (af : Array Edge) (gd : Option (Nat × Bool)) (w : World) : (execOp ρ ⟨d, .load 26 x, t, p, af, gd⟩).run Try.prog w = loadStep Try.prog 26 (ρ x) w := exec_load 26 ρ d x t p af gd w
theorem exec_SignedF (ρ : Operand → Value) (d : Option Tmp) (x : Operand) (t : TypeId) (p : String) (af : Array Edge) (gd : Option (Nat × Bool)) (w : World) : (execOp ρ ⟨d, .load 33 x, t, p, af, gd⟩).run Try.prog w = loadStep Try.prog 33 (ρ x) w := exec_load 33 ρ d x t p af gd w
theorem step_HashF (w : World) (g o : Nat) : loadStep Try.prog 26 (.pointer (some ⟨g, o, none⟩)) w = match rowAt w g o 32 with | some cs => .ok (.value (.agg cs)) w | none => ((loadVar 26 ⟨g, o, none⟩).run Try.prog w).andThen fun a w' => .ok (.value a) w' := loadStep_row w g o 26 32 _ Try.underlying26 rfl (by kernel_rfl)
theorem step_SignedF (w : World) (g o : Nat) : loadStep Try.prog 33 (.pointer (some ⟨g, o, none⟩)) w = match rowAt w g o 101 with | some cs => .ok (.value (.agg cs)) w | none => ((loadVar 33 ⟨g, o, none⟩).run Try.prog w).andThen fun a w' => .ok (.value a) w' := loadStep_row w g o 33 101 _ Try.underlying33 rfl (by kernel_rfl)
theorem equal_hashF (w : World) (x y : Bs 32) : (Op.equalIn 10000 26 (.agg (bcells x)) (.agg (bcells y))).run Try.prog w = .ok (bsEq x y) w :=
  equalIn_Bs w 9998 26 5 32 Try.underlying26 Try.underlying5 (by kernel_rfl) x y
/-- A row inside a row. -/
theorem rowAt_sub {w : World} {g n : Nat} {cs : Array Value} (h : rowAt w g 0 n = some cs) (o p : Nat) (hp : o + p ≤ n) (hn : cs.size = n) : rowAt w g o p = some (cs.extract o (o + p)) := by
  unfold rowAt at h ⊢
  split at h
  · split at h
    · simp only [Option.some.injEq] at h
      subst h
      simp only [Array.size_extract] at hn
      rw [if_pos (by omega)]
      simp only [Array.extract_extract, Nat.zero_add, Option.some.injEq]
      congr 1
      omega
    · cases h
  · cases h
attribute [local go_sem ↓] exec_Vote step_Vote exec_HashF step_HashF exec_SignedF step_SignedF
attribute [local go_sem] rowAt_new rowAt_old rowAt_drew size_vtCells vt_whole size_sgCells sg_whole sg_vote sg_key equal_hashF
/-- Is y's key x's, and do their votes break the rules? -/
def hitB (x y : Sg) : Bool := bsEq y.k x.k && brB x.v y.v
set_option maxHeartbeats 4000000 in
theorem findF_any (x y : Sg) (g : Nat) (w : World) (hx : rowAt w g 0 101 = some (sgCells x)) :
    Calls Try.prog 14 #[.agg (sgCells y), .pointer (some ⟨g, 0, none⟩)] w fun e w' => e = .returned (.bool (hitB x y)) ∧ Ext w w' := by
  have hE := ext_alloc w (.cells (sgCells y) 33)
  have rX := rowAt_ext hE hx
  have rY : rowAt (w.alloc (.cells (sgCells y) 33)) w.heap.size 0 101 = some (sgCells y) := by simp [go_sem]
  have x1 := rowAt_sub rX 0 68 (by omega) (size_sgCells x)
  have x2 := rowAt_sub rX 68 32 (by omega) (size_sgCells x)
  have y1 := rowAt_sub rY 0 68 (by omega) (size_sgCells y)
  have y2 := rowAt_sub rY 68 32 (by omega) (size_sgCells y)
  rw [sg_vote] at x1 y1
  rw [sg_key] at x2 y2
  replace hE := hide hE
  cases hk : bsEq y.k x.k
  · go_enter Try.func14, Try.ntmps14
    go_wp2
    go_ret
    exact ⟨ret_bool (by simp [hitB, hk]), hE.out⟩
  · go_enter Try.func14, Try.ntmps14
    go_wp2_with (go_at_call 11; (with_reducible refine (breaks_any x.v y.v _).mono ?_); rintro e w' ⟨rfl, hb⟩)
    go_ret
    exact ⟨ret_bool (by simp [hitB, hk]), hE.out.then hb⟩
end Go.Proofs.Ytgeijcielakeeaa
