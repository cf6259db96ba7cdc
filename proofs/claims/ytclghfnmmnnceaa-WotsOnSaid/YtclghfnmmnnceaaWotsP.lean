/- The plain law on digits: of two hashes whose first halves differ each has a digit that is less than the other's. No program in sight. -/
import Derived.Test.YtclghfnmmnnceaaWotsD
namespace Go.Proofs.Ytclghfnmmnnceaa
set_option linter.unusedVariables false
set_option linter.unusedSimpArgs false

/-- Has the first list a number that is less than the second's, among the first k? -/
def lessB (D E : List Int) : Nat → Bool
  | 0 => false
  | k + 1 => lessB D E k || decide (D.getD k 0 < E.getD k 0)
theorem lessB_iff (D E : List Int) (k : Nat) : lessB D E k = true ↔ ∃ i, i < k ∧ D.getD i 0 < E.getD i 0 := by
  induction k with
  | zero => simp [lessB]
  | succ k ih =>
    rw [lessB, Bool.or_eq_true, ih, decide_eq_true_iff]
    constructor
    · rintro (⟨i, h1, h2⟩ | h)
      · exact ⟨i, by omega, h2⟩
      · exact ⟨k, by omega, h⟩
    · rintro ⟨i, h1, h2⟩
      by_cases h : i = k
      · subst h; exact .inr h2
      · exact .inl ⟨i, by omega, h2⟩
/-- Are the first k bytes the same? -/
def sameB (a b : List UInt8) : Nat → Bool
  | 0 => true
  | k + 1 => sameB a b k && (a.getD k 0 == b.getD k 0)
theorem sameB_iff (a b : List UInt8) (k : Nat) (ha : k ≤ a.length) (hb : k ≤ b.length) : sameB a b k = true ↔ a.take k = b.take k := by
  induction k with
  | zero => simp [sameB]
  | succ k ih =>
    rw [sameB, Bool.and_eq_true, ih (by omega) (by omega), beq_iff_eq, List.take_succ_eq_append_getElem (by omega), List.take_succ_eq_append_getElem (by omega)]
    have e1 : a.getD k 0 = a[k] := by simp [List.getD, List.getElem?_eq_getElem (show k < a.length by omega)]
    have e2 : b.getD k 0 = b[k] := by simp [List.getD, List.getElem?_eq_getElem (show k < b.length by omega)]
    rw [e1, e2]
    constructor
    · rintro ⟨h1, h2⟩; rw [h1, h2]
    · intro h
      have := List.append_inj h (by simp; omega)
      exact ⟨this.1, by simpa using this.2⟩

theorem dg_inj {x y : UInt8} (h : dg x = dg y) : x = y := by
  simp only [dg, List.cons.injEq, and_true] at h
  have h1 := UInt8.toNat_lt x
  have h2 := UInt8.toNat_lt y
  rw [← UInt8.toNat_inj]
  omega
theorem dgs_inj : ∀ (a b : List UInt8), a.length = b.length → dgs a = dgs b → a = b
  | [], [], _, _ => rfl
  | x :: a, y :: b, hl, h => by
    have e : ∀ (x : UInt8) l, dgs (x :: l) = dg x ++ dgs l := fun x l => by simp [dgs]
    rw [e, e] at h
    have := List.append_inj h rfl
    rw [dg_inj this.1, dgs_inj a b (by simpa using hl) this.2]
  | [], _ :: _, h, _ => by simp at h
  | _ :: _, [], h, _ => by simp at h

theorem lacks_le : ∀ (X Y : List Int), X.length = Y.length → (∀ i, i < X.length → Y.getD i 0 ≤ X.getD i 0) → lacksOf X ≤ lacksOf Y ∧ (lacksOf X = lacksOf Y → X = Y)
  | [], [], _, _ => by simp
  | x :: X, y :: Y, hl, h => by
    have h0 := h 0 (by simp)
    have ih := lacks_le X Y (by simpa using hl) (fun i hi => by have := h (i + 1) (by simpa using hi); simpa using this)
    simp only [List.getD_cons_zero] at h0
    have e : ∀ (x : Int) l, lacksOf (x :: l) = (3 - x) + lacksOf l := fun x l => by simp [lacksOf]
    rw [e, e]
    refine ⟨by omega, fun he => ?_⟩
    have h1 : x = y := by omega
    rw [h1, ih.2 (by omega)]
  | [], _ :: _, h, _ => by simp at h
  | _ :: _, [], h, _ => by simp at h

theorem getD_app (X Y : List Int) (i : Nat) : (X ++ Y).getD i 0 = if i < X.length then X.getD i 0 else Y.getD (i - X.length) 0 := by
  split
  · rename_i h; simp [List.getD, List.getElem?_append_left h]
  · rename_i h; simp [List.getD, List.getElem?_append_right (by omega : X.length ≤ i)]

theorem some_less (a b : List UInt8) (ha : a.length = 16) (hb : b.length = 16) (hne : a ≠ b) : lessB (dgs a ++ four (lacksOf (dgs a))) (dgs b ++ four (lacksOf (dgs b))) 68 = true := by
  apply Classical.byContradiction
  intro hno
  have la : (dgs a).length = 64 := by rw [length_dgs, ha]
  have lb : (dgs b).length = 64 := by rw [length_dgs, hb]
  have hall : ∀ i, i < 68 → (dgs b ++ four (lacksOf (dgs b))).getD i 0 ≤ (dgs a ++ four (lacksOf (dgs a))).getD i 0 := by
    intro i hi
    apply Classical.byContradiction
    intro h
    exact hno ((lessB_iff _ _ _).2 ⟨i, hi, by omega⟩)
  have h1 : ∀ i, i < (dgs a).length → (dgs b).getD i 0 ≤ (dgs a).getD i 0 := by
    intro i hi
    have := hall i (by omega)
    rw [getD_app, getD_app, if_pos (by omega), if_pos (by omega)] at this
    exact this
  obtain ⟨h2, h3⟩ := lacks_le (dgs a) (dgs b) (by omega) h1
  have hq : ∀ j, j < 4 → (four (lacksOf (dgs b))).getD j 0 ≤ (four (lacksOf (dgs a))).getD j 0 := by
    intro j hj
    have := hall (64 + j) (by omega)
    rw [getD_app, getD_app, if_neg (by omega), if_neg (by omega), la, lb, Nat.add_sub_cancel_left] at this
    exact this
  have r1 := lacks_range (dgs a) (dgs_range a)
  have r2 := lacks_range (dgs b) (dgs_range b)
  rw [la] at r1
  rw [lb] at r2
  have q0 := hq 0 (by omega)
  have q1 := hq 1 (by omega)
  have q2 := hq 2 (by omega)
  have q3 := hq 3 (by omega)
  simp only [four, List.getD_cons_zero, List.getD_cons_succ] at q0 q1 q2 q3
  generalize lacksOf (dgs a) = y at *
  generalize lacksOf (dgs b) = z at *
  have e1 : y / 4 / 4 = y / 16 := by omega
  have e2 : y / 16 / 4 = y / 64 := by omega
  have e3 : z / 4 / 4 = z / 16 := by omega
  have e4 : z / 16 / 4 = z / 64 := by omega
  have e5 : y / 64 / 4 = 0 := by omega
  have e6 : z / 64 / 4 = 0 := by omega
  have he : y = z := by omega
  exact hne (dgs_inj a b (by omega) (h3 he))

theorem lessB_self (D : List Int) (k : Nat) : lessB D D k = false := by
  induction k with
  | zero => rfl
  | succ k ih => rw [lessB, ih]; simp

/-- The law. -/
theorem digits_law (a b : Bs 32) : (sameB a.1 b.1 16 = true ∧ lessB (digL a) (digL b) 68 = false ∧ lessB (digL b) (digL a) 68 = false) ∨ (sameB a.1 b.1 16 = false ∧ lessB (digL a) (digL b) 68 = true ∧ lessB (digL b) (digL a) 68 = true) := by
  have la := a.2
  have lb := b.2
  have hs := sameB_iff a.1 b.1 16 (by omega) (by omega)
  by_cases h : a.1.take 16 = b.1.take 16
  · left
    have : digL a = digL b := by unfold digL; rw [h]
    rw [this]
    exact ⟨hs.2 h, lessB_self _ _, lessB_self _ _⟩
  · right
    refine ⟨by rw [← Bool.not_eq_true, hs]; exact h, ?_, ?_⟩
    · exact some_less _ _ (by simp [la]) (by simp [lb]) h
    · exact some_less _ _ (by simp [lb]) (by simp [la]) (fun e => h e.symm)
theorem length_digL (a : Bs 32) : (digL a).length = 68 := by
  simp [digL, length_dgs, a.2, four]
end Go.Proofs.Ytclghfnmmnnceaa
