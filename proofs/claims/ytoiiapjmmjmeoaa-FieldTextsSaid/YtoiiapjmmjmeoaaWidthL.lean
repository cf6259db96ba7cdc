/- Numbers and their bytes: plain laws. No program in sight. -/
import Derived.Test.YtoiiapjmmjmeoaaPow
namespace Go.Proofs.Ytoiiapjmmjmeoaa
open Go.RowKit
set_option linter.unusedVariables false
set_option linter.unusedSimpArgs false

theorem p256_succ (k : Nat) : p256 (k + 1) = p256 k * 256 := Nat.pow_succ ..
theorem p256_add (a b : Nat) : p256 (a + b) = p256 a * p256 b := Nat.pow_add ..
theorem p256_mono {a b : Nat} (h : a ≤ b) : p256 a ≤ p256 b := Nat.pow_le_pow_right (by omega) h
theorem p256_8 : p256 8 = 18446744073709551616 := rfl
theorem getN_putL (n : Nat) : ∀ s, getN (putL n s) = n % p256 s
  | 0 => by rw [show p256 0 = 1 from rfl, Nat.mod_one]; rfl
  | s + 1 => by
    have hp := p256_pos s
    rw [putL, getN, length_putL, getN_putL n s, UInt8.toNat_ofNat', p256_succ, Nat.mod_mul, Nat.mul_comm, Nat.add_comm]
theorem getN_append (a b : List UInt8) : getN (a ++ b) = getN a * p256 b.length + getN b := by
  induction a with
  | nil => simp [getN]
  | cons x a ih => rw [List.cons_append, getN, getN, ih, List.length_append, p256_add, Nat.add_mul, Nat.mul_assoc, Nat.add_assoc]
theorem putL_get (n : Nat) : ∀ (s k : Nat), k < s → (putL n s).getD k 0 = UInt8.ofNat (n / p256 (s - 1 - k))
  | 0, k, h => absurd h (by omega)
  | s + 1, 0, _ => by rw [putL]; simp
  | s + 1, k + 1, h => by
    rw [putL, List.getD_cons_succ, putL_get n s k (by omega)]
    congr 3; omega
theorem putL_zero (n s k need : Nat) (hn : n < p256 need) (h : k + need < s + 1) (h1 : k < s) (hk : k < s - need) : (putL n s).getD k 0 = 0 := by
  rw [putL_get n s k h1, Nat.div_eq_of_lt (Nat.lt_of_lt_of_le hn (p256_mono (by omega)))]; rfl
theorem putL_wide (n s : Nat) (h : n < p256 s) : putL n (s + 1) = 0 :: putL n s := by
  rw [putL, Nat.div_eq_of_lt h]; rfl
/-- How many bytes a number needs. -/
def NeedIs (n i : Nat) : Prop := 1 ≤ i ∧ i ≤ 8 ∧ (i = 1 ∨ p256 (i - 1) ≤ n)
theorem need_step {n i : Nat} (h : NeedIs n i) (hn : n < 18446744073709551616) (h0 : 0 < n / p256 i) : NeedIs n (i + 1) := by
  have hp := p256_pos i
  have hle : p256 i ≤ n := by
    rcases Nat.lt_or_ge n (p256 i) with h1 | h1
    · rw [Nat.div_eq_of_lt h1] at h0; omega
    · exact h1
  refine ⟨by omega, ?_, .inr (by rw [Nat.add_sub_cancel]; exact hle)⟩
  rcases Nat.lt_or_ge i 8 with h1 | h1
  · omega
  · have := p256_mono h1
    rw [p256_8] at this
    omega
theorem need_end {n i : Nat} (h0 : n / p256 i = 0) : n < p256 i := by
  have hp := p256_pos i
  rcases Nat.lt_or_ge n (p256 i) with h1 | h1
  · exact h1
  · have := Nat.div_pos h1 hp
    omega
theorem need_less {n i s : Nat} (h : NeedIs n i) (hs : 1 ≤ s) (hlt : s < i) : p256 s ≤ n := by
  obtain ⟨h1, h2, h3 | h3⟩ := h
  · omega
  · exact Nat.le_trans (p256_mono (by omega)) h3
theorem getN_four (c : List UInt8) (h : c.length ≤ 4) : getN c < 4294967296 := by
  have h1 := getN_lt c
  have h2 := p256_mono h
  rw [show p256 4 = 4294967296 from rfl] at h2
  omega
end Go.Proofs.Ytoiiapjmmjmeoaa
