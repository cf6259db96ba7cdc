/- Trees, plainly: rows, roots and paths. -/
import Derived.Test.YtldcaoclimcahaaPath
namespace Go.Proofs.Ytldcaoclimcahaa
set_option linter.unusedVariables false
set_option linter.unusedSimpArgs false

/-- A tree's rows, from the leaves up. -/
def rowT : Nat → (Nat → Bs 32) → Nat → Bs 32
  | 0, H, x => H x
  | k + 1, H, x => nodeB (rowT k H (2 * x)) (rowT k H (2 * x + 1))
theorem row_root : ∀ (k : Nat) (H : Nat → Bs 32) (x : Nat), rowT k H x = rootT k (fun j => H (x * p2 k + j))
  | 0, H, x => by simp [rowT, rootT, p2]
  | k + 1, H, x => by
    rw [rowT, row_root k H (2 * x), row_root k H (2 * x + 1), rootT]
    have e1 : (fun j => H (2 * x * p2 k + j)) = fun j => H (x * p2 (k + 1) + j) := by
      funext j; rw [p2_succ]; congr 2; rw [Nat.mul_comm 2 x, Nat.mul_assoc, Nat.mul_comm 2 (p2 k)]
    have e2 : (fun j => H ((2 * x + 1) * p2 k + j)) = fun j => H (x * p2 (k + 1) + (p2 k + j)) := by
      funext j; rw [p2_succ, Nat.add_mul, Nat.one_mul, Nat.add_assoc]; congr 2; rw [Nat.mul_comm 2 x, Nat.mul_assoc, Nat.mul_comm 2 (p2 k)]
    rw [e1, e2]
theorem root_row (K : Nat) (H : Nat → Bs 32) : rootT K H = rowT K H 0 := by
  rw [row_root]; simp
/-- The neighbour's number. -/
def beside (x : Nat) : Nat := x + 1 - 2 * (x % 2)
/-- A leaf's path by the rows. -/
def pathR (K : Nat) (H : Nat → Bs 32) (i : Nat) : List (Bs 32) := (List.range K).map fun k => rowT k H (beside (i / p2 k))
theorem p2_add (a b : Nat) : p2 (a + b) = p2 a * p2 b := Nat.pow_add ..
theorem path_rows : ∀ (K : Nat) (H : Nat → Bs 32) (i : Nat), i < p2 K → (pathT K H i).reverse = pathR K H i
  | 0, H, i, h => by simp [pathT, pathR]
  | K + 1, H, i, h => by
    have hp := p2_pos K
    have hs := p2_succ K
    unfold pathR
    rw [List.range_succ, List.map_append, List.map_singleton, pathT]
    by_cases hi : i < p2 K
    · rw [if_pos hi, List.reverse_cons, path_rows K H i hi, Nat.div_eq_of_lt hi, row_root]
      simp only [beside, Nat.zero_add, Nat.zero_mod, Nat.mul_zero, Nat.sub_zero, Nat.one_mul]
      rfl
    · have hi2 : i - p2 K < p2 K := by omega
      have hq : i / p2 K = 1 := by
        rw [show i = (i - p2 K) + p2 K by omega, Nat.add_div_right _ hp, Nat.div_eq_of_lt hi2]
      rw [if_neg hi, List.reverse_cons, path_rows K _ _ hi2, hq]
      have e0 : rowT K H (beside 1) = rootT K H := by rw [root_row]; rfl
      rw [e0]
      congr 1
      unfold pathR
      apply List.map_congr_left
      intro k hk
      rw [List.mem_range] at hk
      have hkp := p2_pos k
      obtain ⟨d, rfl⟩ : ∃ d, K = k + (d + 1) := ⟨K - k - 1, by omega⟩
      have hK : p2 (k + (d + 1)) = p2 k * (2 * p2 d) := by rw [p2_add, p2_succ, Nat.mul_comm (p2 d) 2]
      have hdiv : i / p2 k = (i - p2 (k + (d + 1))) / p2 k + 2 * p2 d := by
        rw [show i = (i - p2 (k + (d + 1))) + p2 k * (2 * p2 d) by omega, Nat.add_mul_div_left _ _ hkp, hK]
        congr 2
        omega
      rw [hdiv]
      generalize (i - p2 (k + (d + 1))) / p2 k = y
      have hb : beside (y + 2 * p2 d) = beside y + 2 * p2 d := by unfold beside; omega
      rw [hb, row_root, row_root]
      congr 1
      funext j
      congr 1
      rw [hK, Nat.add_mul, Nat.mul_comm (2 * p2 d) (p2 k)]
      omega
theorem climb_rows (H : Nat → Bs 32) (i : Nat) : ∀ k, climbB (fun k => rowT k H (beside (i / p2 k))) (H i) i k = rowT k H (i / p2 k)
  | 0 => by simp [climbB, rowT, p2]
  | k + 1 => by
    rw [climbB, climb_rows H i k, div_p2]
    generalize i / p2 k = q
    unfold stepB
    rw [rowT]
    by_cases hq : q % 2 = 0
    · rw [if_pos hq]
      have e1 : 2 * (q / 2) = q := by omega
      have e2 : beside q = q + 1 := by unfold beside; omega
      rw [e1, e2]
    · rw [if_neg hq]
      have e1 : 2 * (q / 2) + 1 = q := by omega
      have e2 : beside q = 2 * (q / 2) := by unfold beside; omega
      rw [e1, e2]
end Go.Proofs.Ytldcaoclimcahaa
