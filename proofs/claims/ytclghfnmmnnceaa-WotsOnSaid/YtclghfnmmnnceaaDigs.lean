/- Digits as numbers from 0 to 3. -/
import Derived.Test.YtclghfnmmnnceaaWotsK
import Derived.Test.YtclghfnmmnnceaaChain
namespace Go.Proofs.Ytclghfnmmnnceaa
open Go.RowKit
set_option linter.unusedVariables false
set_option linter.unusedSimpArgs false

theorem digL_range (h : Bs 32) : ∀ d ∈ digL h, 0 ≤ d ∧ d ≤ 3 := by
  intro d hd
  rw [digL, List.mem_append] at hd
  rcases hd with hd | hd
  · exact dgs_range _ d hd
  · simp only [four, List.mem_cons, List.not_mem_nil, or_false] at hd
    rcases hd with rfl | rfl | rfl | rfl <;> omega
def digN (h : Bs 32) (i : Nat) : Nat := ((digL h).getD i 0).toNat
theorem digN_int (h : Bs 32) (i : Nat) : (digL h).getD i 0 = (digN h i : Int) := by
  unfold digN
  by_cases hi : i < (digL h).length
  · have := digL_range h ((digL h)[i]) (List.getElem_mem hi)
    rw [List.getD_eq_getElem?_getD, List.getElem?_eq_getElem hi, Option.getD_some]; omega
  · rw [List.getD_eq_getElem?_getD, List.getElem?_eq_none (by omega)]; rfl
theorem digN_le (h : Bs 32) (i : Nat) : digN h i ≤ 3 := by
  unfold digN
  by_cases hi : i < (digL h).length
  · have := digL_range h ((digL h)[i]) (List.getElem_mem hi)
    rw [List.getD_eq_getElem?_getD, List.getElem?_eq_getElem hi, Option.getD_some]; omega
  · rw [List.getD_eq_getElem?_getD, List.getElem?_eq_none (by omega)]; simp
theorem HasInts.digit {w : World} {g : Nat} {h : Bs 32} (hi : HasInts w g (digL h)) (i : Nat) (hlt : i < 68) : w.cell? ⟨g, i, none⟩ = some (.int .i64 (digN h i : Int)) := by
  rw [hi i hlt, digN_int]
end Go.Proofs.Ytclghfnmmnnceaa
