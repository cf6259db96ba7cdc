/- Slices that hold numbers; hashes built of cells. -/
import Derived.Test.YtclghfnmmnnceaaWotsR
import Derived.Test.YtclghfnmmnnceaaWotsP
import Derived.Deep.RegionWith
import Derived.Deep.DeepCutAuto
import Derived.BigQuiet
import Derived.Deep.QuietTactic
namespace Go.Proofs.Ytclghfnmmnnceaa
open Go.RowKit
set_option linter.unusedVariables false
set_option linter.unusedSimpArgs false

theorem exec_build_Hash (ρ : Operand → Value) (d : Option Tmp) (ps : Array (Nat × Operand)) (t : TypeId) (p : String) (af : Array Edge) (gd : Option (Nat × Bool)) (w : World) : (execOp ρ ⟨d, .build 27 ps, t, p, af, gd⟩).run Try.prog w = buildStep Try.prog 27 (ps.map fun x => (x.1, ρ x.2)) w := exec_build 27 ρ d ps t p af gd w
theorem exec_load_Hash (ρ : Operand → Value) (d : Option Tmp) (x : Operand) (t : TypeId) (p : String) (af : Array Edge) (gd : Option (Nat × Bool)) (w : World) : (execOp ρ ⟨d, .load 27 x, t, p, af, gd⟩).run Try.prog w = loadStep Try.prog 27 (ρ x) w := exec_load 27 ρ d x t p af gd w
theorem step_load_Hash (w : World) (g o : Nat) : loadStep Try.prog 27 (.pointer (some ⟨g, o, none⟩)) w = match rowAt w g o 32 with | some cs => .ok (.value (.agg cs)) w | none => ((loadVar 27 ⟨g, o, none⟩).run Try.prog w).andThen fun a w' => .ok (.value a) w' := loadStep_row w g o 27 32 _ Try.underlying27 rfl (by kernel_rfl)
def hash27 : Bs 32 := ⟨27 :: List.replicate 31 0, by decide⟩
theorem build_27 (w : World) : buildStep Try.prog 27 #[(0, .int .u8 27)] w = .ok (.value (.agg (bcells hash27))) w :=
  buildStep_eq w _ _ _ (by kernel_rfl)

/-- A slice that is known to hold numbers. -/
def HasInts (w : World) (g : Nat) (D : List Int) : Prop := ∀ i, i < 68 → w.cell? ⟨g, i, none⟩ = some (.int .i64 (D.getD i 0))
theorem HasInts.of_own {w : World} {base g cap : Nat} {D : List Int} (hl : D.length = 68) (h : w.ownsRow base 3 1 (.slice (some ⟨g, 0, none⟩) 68 cap) 68 (D.map (Value.int .i64))) : HasInts w g D := by
  intro i hi
  rw [h.cellAt i (by omega), List.getElem?_map, List.getElem?_eq_getElem (by omega)]
  simp [List.getD, List.getElem?_eq_getElem (show i < D.length by omega)]
theorem HasInts.ext {w w' : World} (h : Ext w w') {g : Nat} {D : List Int} (hi : HasInts w g D) : HasInts w' g D := by
  intro i hlt
  have := hi i hlt
  exact (h.cell (p := ⟨g, i, none⟩) (block_lt_of_cell this)).trans this

theorem digits_ints (h : Bs 32) (w : World) :
    Calls Try.prog 8 #[.agg (bcells h)] w fun e w' => ∃ g cap, e = .returned (.slice (some ⟨g, 0, none⟩) 68 cap) ∧ HasInts w' g (digL h) ∧ Ext w w' :=
  (digits_any h w).mono fun e w' ⟨g, cap, he, ho, hx⟩ => ⟨g, cap, he, HasInts.of_own (length_digL h) ho, hx⟩
theorem cell_of_rowAt {n : Nat} {w : World} {g : Nat} {h : Bs n} (hr : rowAt w g 0 n = some (bcells h)) (j : Nat) (hj : j < n) : w.cell? ⟨g, j, none⟩ = some (.int .u8 ((h.1.getD j 0).toNat : Int)) := by
  unfold rowAt at hr
  split at hr
  · rename_i row t fr hg
    split at hr
    · simp only [Option.some.injEq] at hr
      have e := congrArg (fun x => x[j]?) hr
      simp only [Array.getElem?_extract] at e
      rw [if_pos (by omega), Nat.zero_add] at e
      rw [cell_of_row w g j row t fr hg, e]
      simp [bcells, Extern.Stop.cell, List.getD, List.getElem?_eq_getElem (show j < h.1.length by rw [h.2]; omega)]
    · simp at hr
  · simp at hr
end Go.Proofs.Ytclghfnmmnnceaa
