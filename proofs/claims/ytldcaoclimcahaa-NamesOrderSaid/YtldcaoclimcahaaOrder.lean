/- The law on the order of texts: its plain part. -/
import Derived.Test.YtldcaoclimcahaaOf
namespace Go.Proofs.Ytldcaoclimcahaa
open Go.RowKit
set_option linter.unusedVariables false
set_option linter.unusedSimpArgs false

theorem sgB_lt (m n : Nat) (hm : m < 16) (hn : n < 16) : (sgB m < sgB n) ↔ m < n := by
  have h1 := sgB_toNat m hm
  have h2 := sgB_toNat n hn
  rw [UInt8.lt_iff_toNat_lt]
  unfold sg at h1 h2
  split at h1 <;> split at h2 <;> omega
theorem sgB_eq (m n : Nat) (hm : m < 16) (hn : n < 16) : (sgB m = sgB n) ↔ m = n := by
  have h1 := sgB_toNat m hm
  have h2 := sgB_toNat n hn
  rw [← UInt8.toNat_inj]
  unfold sg at h1 h2
  split at h1 <;> split at h2 <;> omega
theorem less_txL : ∀ (a b : List UInt8), a.length = b.length → Op.bytesLess (txL a) (txL b) = Op.bytesLess a b
  | [], [], _ => rfl
  | x :: a, y :: b, h => by
    have ih := less_txL a b (by simpa using h)
    have e : ∀ (x : UInt8) l, txL (x :: l) = sgB (x.toNat / 16) :: sgB (x.toNat % 16) :: txL l := fun _ _ => rfl
    have hx := UInt8.toNat_lt x
    have hy := UInt8.toNat_lt y
    rw [e, e, Op.bytesLess, Op.bytesLess, Op.bytesLess, ih]
    have l1 := sgB_lt (x.toNat / 16) (y.toNat / 16) (by omega) (by omega)
    have l2 := sgB_lt (x.toNat % 16) (y.toNat % 16) (by omega) (by omega)
    have q1 := sgB_eq (x.toNat / 16) (y.toNat / 16) (by omega) (by omega)
    have q2 := sgB_eq (x.toNat % 16) (y.toNat % 16) (by omega) (by omega)
    have l3 : (x < y) ↔ x.toNat < y.toNat := UInt8.lt_iff_toNat_lt
    have q3 : (x = y) ↔ x.toNat = y.toNat := UInt8.toNat_inj.symm
    rw [Bool.eq_iff_iff]
    simp only [Bool.or_eq_true, Bool.and_eq_true, decide_eq_true_eq, beq_iff_eq, l1, l2, q1, q2, l3, q3]
    generalize (Op.bytesLess a b = true) = P
    constructor
    · rintro (h | ⟨h, h' | ⟨h', hp⟩⟩)
      · exact .inl (by omega)
      · exact .inl (by omega)
      · exact .inr ⟨by omega, hp⟩
    · rintro (h | ⟨h, hp⟩)
      · by_cases hq : x.toNat / 16 = y.toNat / 16
        · exact .inr ⟨hq, .inl (by omega)⟩
        · exact .inl (by omega)
      · exact .inr ⟨by omega, .inr ⟨by omega, hp⟩⟩
  | [], _ :: _, h => by simp at h
  | _ :: _, [], h => by simp at h
theorem txL_inj : ∀ (a b : List UInt8), a.length = b.length → (txL a = txL b ↔ a = b)
  | [], [], _ => by simp
  | x :: a, y :: b, h => by
    have ih := txL_inj a b (by simpa using h)
    have e : ∀ (x : UInt8) l, txL (x :: l) = sgB (x.toNat / 16) :: sgB (x.toNat % 16) :: txL l := fun _ _ => rfl
    have hx := UInt8.toNat_lt x
    have hy := UInt8.toNat_lt y
    rw [e, e]
    simp only [List.cons.injEq, sgB_eq _ _ (show x.toNat / 16 < 16 by omega) (show y.toNat / 16 < 16 by omega), sgB_eq _ _ (show x.toNat % 16 < 16 by omega) (show y.toNat % 16 < 16 by omega), ih, ← UInt8.toNat_inj]
    constructor
    · rintro ⟨h1, h2, h3⟩; exact ⟨by omega, h3⟩
    · rintro ⟨h1, h3⟩; exact ⟨by omega, by omega, h3⟩
  | [], _ :: _, h => by simp at h
  | _ :: _, [], h => by simp at h
theorem less_snoc : ∀ (p q : List UInt8) (x y : UInt8), p.length = q.length → Op.bytesLess (p ++ [x]) (q ++ [y]) = if p = q then decide (x < y) else Op.bytesLess p q
  | [], [], x, y, _ => by simp [Op.bytesLess]
  | a :: p, b :: q, x, y, h => by
    have ih := less_snoc p q x y (by simpa using h)
    rw [List.cons_append, List.cons_append, Op.bytesLess, ih, Op.bytesLess]
    by_cases hab : a = b
    · subst hab
      by_cases hpq : p = q
      · subst hpq; simp
      · simp [hpq]
    · have : (a == b) = false := by simpa using hab
      rw [this, if_neg (show ¬ (a :: p = b :: q) from fun e => hab (List.cons.inj e).1)]
      simp [hab]
  | [], _ :: _, _, _, h => by simp at h
  | _ :: _, [], _, _, h => by simp at h
/-- The loop: is the first ahead, are they the same, as far as the first i bytes go? -/
def aheadB (a b : List UInt8) (i : Nat) : Bool := Op.bytesLess (a.take i) (b.take i)
def likeB (a b : List UInt8) (i : Nat) : Bool := decide (a.take i = b.take i)
theorem take_snoc (a : List UInt8) (i : Nat) (h : i < a.length) : a.take (i + 1) = a.take i ++ [a.getD i 0] := by
  rw [List.take_succ_eq_append_getElem h]; simp [List.getD, List.getElem?_eq_getElem h]
theorem like_step (a b : List UInt8) (i : Nat) (ha : i < a.length) (hb : i < b.length) : likeB a b (i + 1) = (likeB a b i && decide (a.getD i 0 = b.getD i 0)) := by
  unfold likeB
  rw [take_snoc a i ha, take_snoc b i hb, Bool.eq_iff_iff]
  simp only [decide_eq_true_eq, Bool.and_eq_true]
  constructor
  · intro h
    have := List.append_inj h (by simp; omega)
    exact ⟨this.1, by simpa using this.2⟩
  · rintro ⟨h1, h2⟩; rw [h1, h2]
theorem ahead_step (a b : List UInt8) (i : Nat) (ha : i < a.length) (hb : i < b.length) : aheadB a b (i + 1) = if likeB a b i = true then decide (a.getD i 0 < b.getD i 0) else aheadB a b i := by
  unfold aheadB likeB
  rw [take_snoc a i ha, take_snoc b i hb, less_snoc _ _ _ _ (by simp; omega)]
  simp
theorem less_self : ∀ (p : List UInt8), Op.bytesLess p p = false
  | [] => rfl
  | x :: p => by
    rw [Op.bytesLess, less_self p]
    simp
theorem ahead_like (a b : List UInt8) (i : Nat) (h : likeB a b i = true) : aheadB a b i = false := by
  unfold likeB at h
  unfold aheadB
  rw [of_decide_eq_true h]
  exact less_self _
end Go.Proofs.Ytldcaoclimcahaa
