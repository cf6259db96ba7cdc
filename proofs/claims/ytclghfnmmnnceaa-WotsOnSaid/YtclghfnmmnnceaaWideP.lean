/- Numbers by digits of 16 bits: sums of a row, products, which is above; roots; the first primes. No program in sight. -/
import Derived.Test.YtclghfnmmnnceaaShaP
namespace Go.Proofs.Ytclghfnmmnnceaa
set_option linter.unusedVariables false
set_option linter.unusedSimpArgs false

/-- The number that digits are, the lowest first. -/
def valW : List Nat → Nat
  | [] => 0
  | d :: l => d + 65536 * valW l
def SmallW (l : List Nat) : Prop := ∀ d ∈ l, d < 65536
theorem valW_lt : ∀ (l : List Nat), SmallW l → valW l < 65536 ^ l.length
  | [], _ => by simp [valW]
  | d :: l, h => by
    have h1 := valW_lt l (fun x hx => h x (by simp [hx]))
    have h2 := h d (by simp)
    rw [valW, List.length_cons, Nat.pow_succ]
    omega
/-- A row of products added to digits. -/
def rowAdd (x : Nat) : List Nat → List Nat → Nat → List Nat
  | p :: ps, b :: bs, c => ((p + x * b + c) % 65536) :: rowAdd x ps bs ((p + x * b + c) / 65536)
  | [], _, _ => []
  | p :: ps, [], _ => p :: ps
theorem length_rowAdd (x : Nat) : ∀ (ps bs : List Nat) (c : Nat), (rowAdd x ps bs c).length = ps.length
  | [], _, _ => rfl
  | p :: ps, [], _ => rfl
  | p :: ps, b :: bs, c => by simp [rowAdd, length_rowAdd x ps bs]
theorem small_rowAdd (x : Nat) : ∀ (ps bs : List Nat) (c : Nat), ps.length ≤ bs.length → SmallW (rowAdd x ps bs c)
  | [], _, _, _ => by intro d hd; simp [rowAdd] at hd
  | p :: ps, [], _, h => by simp at h
  | p :: ps, b :: bs, c, h => by
    intro d hd
    simp only [rowAdd, List.mem_cons] at hd
    rcases hd with rfl | hd
    · exact Nat.mod_lt _ (by omega)
    · exact small_rowAdd x ps bs _ (by simpa using h) d hd
theorem val_rowAdd (x : Nat) : ∀ (ps bs : List Nat) (c : Nat), ps.length ≤ bs.length → valW (rowAdd x ps bs c) % 65536 ^ ps.length = (valW ps + x * valW bs + c) % 65536 ^ ps.length
  | [], _, _, _ => by simp [rowAdd, valW, Nat.mod_one]
  | p :: ps, [], _, h => by simp at h
  | p :: ps, b :: bs, c, h => by
    have ih := val_rowAdd x ps bs ((p + x * b + c) / 65536) (by simpa using h)
    simp only [rowAdd, valW, List.length_cons, Nat.pow_succ]
    rw [Nat.mul_comm (65536 ^ ps.length) 65536]
    have e : p + 65536 * valW ps + x * (b + 65536 * valW bs) + c = (p + x * b + c) % 65536 + 65536 * (valW ps + x * valW bs + (p + x * b + c) / 65536) := by
      have h1 := Nat.mod_add_div (p + x * b + c) 65536
      have h2 : x * (b + 65536 * valW bs) = x * b + 65536 * (x * valW bs) := by rw [Nat.mul_add, Nat.mul_left_comm]
      rw [h2]
      generalize (p + x * b + c) / 65536 = q at *
      generalize (p + x * b + c) % 65536 = r at *
      generalize x * valW bs = u at *
      omega
    rw [e]
    have key : ∀ (r A B M : Nat), r < 65536 → A % M = B % M → (r + 65536 * A) % (65536 * M) = (r + 65536 * B) % (65536 * M) := by
      intro r A B M hr hAB
      have hz : ∀ A, (r + 65536 * A) % (65536 * M) = r + 65536 * (A % M) := by
        intro A
        rcases Nat.eq_zero_or_pos M with rfl | hM
        · simp
        · have h1 : r + 65536 * A = (r + 65536 * (A % M)) + 65536 * M * (A / M) := by
            have := Nat.mod_add_div A M
            rw [Nat.mul_assoc, Nat.add_assoc, ← Nat.mul_add, this]
          rw [h1, Nat.add_mul_mod_self_left]
          apply Nat.mod_eq_of_lt
          have h2 := Nat.mod_lt A hM
          have h3 := Nat.mul_le_mul_left 65536 (show A % M + 1 ≤ M by omega)
          omega
      rw [hz A, hz B, hAB]
    exact key _ _ _ _ (Nat.mod_lt _ (by omega)) ih
/-- A product's digits: so many rows. -/
def timesF (a b : List Nat) : Nat → List Nat
  | 0 => List.replicate 12 0
  | i + 1 => (timesF a b i).take i ++ rowAdd (a.getD i 0) ((timesF a b i).drop i) b 0
theorem length_timesF (a b : List Nat) (i : Nat) (hi : i ≤ 12) : (timesF a b i).length = 12 := by
  induction i with
  | zero => rfl
  | succ i ih => rw [timesF, List.length_append, length_rowAdd, List.length_take, List.length_drop, ih (by omega)]; omega
theorem small_timesF (a b : List Nat) (hb : b.length = 12) (i : Nat) (hi : i ≤ 12) : SmallW (timesF a b i) := by
  induction i with
  | zero => intro d hd; simp [timesF] at hd; omega
  | succ i ih =>
    intro d hd
    rw [timesF, List.mem_append] at hd
    rcases hd with hd | hd
    · exact ih (by omega) d (List.mem_of_mem_take hd)
    · exact small_rowAdd _ _ _ _ (by rw [List.length_drop, length_timesF a b i (by omega), hb]; omega) d hd
theorem valW_app : ∀ (l m : List Nat), valW (l ++ m) = valW l + 65536 ^ l.length * valW m
  | [], m => by simp [valW]
  | d :: l, m => by
    rw [List.cons_append, valW, valW_app l m, valW, List.length_cons, Nat.pow_succ, Nat.mul_comm (65536 ^ l.length) 65536, Nat.mul_add, Nat.mul_assoc]
    omega
theorem val_timesF (a b : List Nat) (ha : a.length = 12) (hb : b.length = 12) (i : Nat) (hi : i ≤ 12) : valW (timesF a b i) % 65536 ^ 12 = (valW (a.take i) * valW b) % 65536 ^ 12 := by
  induction i with
  | zero =>
    show valW (List.replicate 12 0) % 65536 ^ 12 = (0 * valW b) % 65536 ^ 12
    rw [Nat.zero_mul]; rfl
  | succ i ih =>
    have hl := length_timesF a b i (by omega)
    have h1 := val_rowAdd (a.getD i 0) ((timesF a b i).drop i) b 0 (by rw [List.length_drop, hl, hb]; omega)
    have h2 : valW (a.take (i + 1)) = valW (a.take i) + 65536 ^ i * a.getD i 0 := by
      rw [List.take_succ_eq_append_getElem (by omega), valW_app, List.length_take, Nat.min_eq_left (by omega)]
      simp [valW, List.getD, List.getElem?_eq_getElem (show i < a.length by omega)]
    have h3 : valW (timesF a b i) = valW ((timesF a b i).take i) + 65536 ^ i * valW ((timesF a b i).drop i) := by
      have := valW_app ((timesF a b i).take i) ((timesF a b i).drop i)
      rw [List.take_append_drop, List.length_take, Nat.min_eq_left (by omega)] at this
      exact this
    rw [timesF, valW_app, List.length_take, Nat.min_eq_left (by omega), h2, Nat.add_mul]
    rw [List.length_drop, hl] at h1
    have hp : (65536 : Nat) ^ 12 = 65536 ^ i * 65536 ^ (12 - i) := by rw [← Nat.pow_add, show i + (12 - i) = 12 by omega]
    rw [Nat.add_mod, hp, Nat.mul_mod_mul_left, h1, ← Nat.mul_mod_mul_left, ← hp, ← Nat.add_mod]
    have e : valW ((timesF a b i).take i) + 65536 ^ i * (valW ((timesF a b i).drop i) + a.getD i 0 * valW b + 0) = valW (timesF a b i) + 65536 ^ i * a.getD i 0 * valW b := by
      rw [h3, Nat.add_zero, Nat.mul_add, Nat.mul_assoc]; omega
    rw [e, Nat.add_mod, ih (by omega), ← Nat.add_mod]
/-- Which is above, by digits. -/
def gtL : List Nat → List Nat → Bool
  | x :: a, y :: b => gtL a b || (a == b && decide (y < x))
  | _, _ => false
theorem gtL_self : ∀ (a : List Nat), gtL a a = false
  | [] => rfl
  | x :: a => by simp [gtL, gtL_self a]
theorem gtL_val : ∀ (a b : List Nat), a.length = b.length → SmallW a → SmallW b → gtL a b = decide (valW b < valW a)
  | [], [], _, _, _ => by simp [gtL, valW]
  | x :: a, y :: b, h, ha, hb => by
    have ih := gtL_val a b (by simpa using h) (fun d hd => ha d (by simp [hd])) (fun d hd => hb d (by simp [hd]))
    have hx := ha x (by simp)
    have hy := hb y (by simp)
    rw [gtL, ih, valW, valW]
    by_cases e : a = b
    · subst e; simp
    · have hne : valW a ≠ valW b := by
        intro he
        exact e (valW_inj a b (by simpa using h) (fun d hd => ha d (by simp [hd])) (fun d hd => hb d (by simp [hd])) he)
      have e2 : (a == b) = false := by simpa using e
      rw [e2, Bool.false_and, Bool.or_false]
      congr 1
      apply propext
      omega
  | [], _ :: _, h, _, _ => by simp at h
  | _ :: _, [], h, _, _ => by simp at h
where valW_inj : ∀ (a b : List Nat), a.length = b.length → SmallW a → SmallW b → valW a = valW b → a = b
  | [], [], _, _, _, _ => rfl
  | x :: a, y :: b, h, ha, hb, he => by
    have hx := ha x (by simp)
    have hy := hb y (by simp)
    rw [valW, valW] at he
    have h1 : x = y := by omega
    have h2 : valW a = valW b := by omega
    rw [h1, valW_inj a b (by simpa using h) (fun d hd => ha d (by simp [hd])) (fun d hd => hb d (by simp [hd])) h2]
  | [], _ :: _, h, _, _, _ => by simp at h
  | _ :: _, [], h, _, _, _ => by simp at h
theorem gtL_drop : ∀ (i : Nat) (a b : List Nat), a.length = b.length → a.drop i ≠ b.drop i → gtL a b = gtL (a.drop i) (b.drop i)
  | 0, a, b, _, _ => by simp
  | i + 1, x :: a, y :: b, hl, h => by
    simp only [List.drop_succ_cons] at h ⊢
    have hne : (a == b) = false := by
      simp only [beq_eq_false_iff_ne, ne_eq]
      intro e; exact h (by rw [e])
    rw [gtL, hne, Bool.false_and, Bool.or_false, gtL_drop i a b (by simpa using hl) h]
  | i + 1, [], [], _, h => by simp at h
  | i + 1, [], _ :: _, hl, _ => by simp at hl
  | i + 1, _ :: _, [], hl, _ => by simp at hl
/-- A root, bit by bit. -/
def rootF (M pw : Nat) : Nat → Nat → Nat
  | 0, r => r
  | b + 1, r => rootF M pw b (if (r + 2 ^ b) ^ pw ≤ M then r + 2 ^ b else r)
def fracW (p pw : Nat) : UInt32 := UInt32.ofNat (rootF (p * 2 ^ (32 * pw)) pw 38 0)
/-- The numbers from 2 on that none ahead divides. -/
def prL : Nat → List Nat
  | 0 => []
  | k + 1 => if (prL k).all (fun p => (k + 2) % p != 0) then prL k ++ [k + 2] else prL k
/-- The primes' list is full at 311, not before. -/
theorem prL_few : ∀ k, k < 310 → (prL k).length < 64 := by decide +kernel
theorem prL_full : (prL 310).length = 64 := by decide +kernel
theorem prL_pos (k : Nat) : ∀ p ∈ prL k, 2 ≤ p ∧ p ≤ k + 1 := by
  induction k with
  | zero => intro p hp; simp [prL] at hp
  | succ k ih =>
    intro p hp
    rw [prL] at hp
    split at hp
    · rw [List.mem_append] at hp
      rcases hp with hp | hp
      · have := ih p hp; omega
      · simp at hp; omega
    · have := ih p hp; omega
theorem frac_k : (prL 310).map (fun p => fracW p 3) = k64 := by decide +kernel
theorem frac_h : ((prL 310).take 8).map (fun p => fracW p 2) = h8 := by decide +kernel
end Go.Proofs.Ytclghfnmmnnceaa
