/- Whose votes break the rules: the pairs that are found. No program in sight. -/
import Derived.Test.YtgeijcielakeeaaIndexF
namespace Go.Proofs.Ytgeijcielakeeaa
set_option linter.unusedVariables false

theorem brB_self (a : Vt) : brB a a = false := by simp [brB, ptEq, bsEq]
theorem hitB_iff (x y : Sg) : hitB x y = true ↔ y.k = x.k ∧ brB x.v y.v = true := by unfold hitB; rw [Bool.and_eq_true, bsEq_iff]
/-- The place of the first vote behind i whose key is i's and that breaks the rules with it; -1 if there is none. (As an offset from i + 1.) -/
def offI (L : Nat → Sg) (n i : Nat) : Int := firstI (fun j => hitB (L i) (L (i + 1 + j))) (n - (i + 1))
/-- The pairs that are found among the first m places of n. -/
def findP (L : Nat → Sg) (n : Nat) : Nat → List (Nat × Nat)
  | 0 => []
  | i + 1 => if (findP L n i).any (fun p => bsEq (L p.1).k (L i).k) then findP L n i else if 0 ≤ offI L n i then findP L n i ++ [(i, i + 1 + (offI L n i).toNat)] else findP L n i
theorem firstI_spec (P : Nat → Bool) (n : Nat) : (firstI P n = -1 ∧ ∀ j, j < n → P j = false) ∨ ∃ k, k < n ∧ firstI P n = (k : Int) ∧ P k = true ∧ ∀ j, j < k → P j = false := by
  by_cases h : ∃ k, k < n ∧ P k = true
  · obtain ⟨k, hk, hp⟩ := h
    have : ∀ m, m ≤ n → (∀ j, j < m → P j = false) ∨ ∃ k, k < m ∧ P k = true ∧ ∀ j, j < k → P j = false := by
      intro m
      induction m with
      | zero => exact fun _ => .inl fun j hj => absurd hj (by omega)
      | succ m ih =>
        intro hm
        rcases ih (by omega) with h1 | ⟨k, h1, h2, h3⟩
        · cases hq : P m
          · exact .inl fun j hj => by
              by_cases e : j = m
              · subst e; exact hq
              · exact h1 j (by omega)
          · exact .inr ⟨m, by omega, hq, h1⟩
        · exact .inr ⟨k, by omega, h2, h3⟩
    rcases this n (Nat.le_refl _) with h1 | ⟨k', h1, h2, h3⟩
    · rw [h1 k hk] at hp; cases hp
    · exact .inr ⟨k', h1, firstI_hit h1 h2 h3, h2, h3⟩
  · have h1 : ∀ j, j < n → P j = false := fun j hj => by
      cases hq : P j
      · rfl
      · exact absurd ⟨j, hj, hq⟩ h
    exact .inl ⟨firstI_none h1, h1⟩
/-- What is found: rising places, each pair one of breaking votes, keys apart. -/
theorem findP_pair (L : Nat → Sg) (n : Nat) : ∀ m, m ≤ n → ∀ p ∈ findP L n m, p.1 < m ∧ p.1 < p.2 ∧ p.2 < n ∧ hitB (L p.1) (L p.2) = true := by
  intro m
  induction m with
  | zero => intro _ p hp; simp [findP] at hp
  | succ i ih =>
    intro hm p hp
    have old : p ∈ findP L n i → p.1 < i + 1 ∧ p.1 < p.2 ∧ p.2 < n ∧ hitB (L p.1) (L p.2) = true := fun h => let ⟨h1, h2⟩ := ih (by omega) p h; ⟨by omega, h2⟩
    rw [findP] at hp
    split at hp
    · exact old hp
    · split at hp
      · rename_i h0
        rcases List.mem_append.1 hp with h | h
        · exact old h
        · simp only [List.mem_singleton] at h
          subst h
          rcases firstI_spec (fun j => hitB (L i) (L (i + 1 + j))) (n - (i + 1)) with ⟨h1, _⟩ | ⟨k, h1, h2, h3, _⟩
          · rw [offI, h1] at h0; omega
          · have e : (offI L n i).toNat = k := by rw [offI, h2]; rfl
            simp only [e]
            exact ⟨by omega, by omega, by omega, h3⟩
      · exact old hp
theorem findP_apart (L : Nat → Sg) (n : Nat) : ∀ m, ((findP L n m).map fun p => (L p.1).k).Pairwise (· ≠ ·) := by
  intro m
  induction m with
  | zero => simp [findP]
  | succ i ih =>
    rw [findP]
    split
    · exact ih
    · rename_i hno
      split
      · rw [List.map_append, List.pairwise_append]
        refine ⟨ih, by simp, fun x hx y hy => ?_⟩
        simp only [List.map_cons, List.map_nil, List.mem_singleton] at hy
        subst hy
        obtain ⟨p, hp, rfl⟩ := List.mem_map.1 hx
        exact fun e => hno (List.any_eq_true.2 ⟨p, hp, (bsEq_iff _ _).2 e⟩)
      · exact ih
theorem findP_mono (L : Nat → Sg) (n : Nat) (p : Nat × Nat) : ∀ m m', m ≤ m' → p ∈ findP L n m → p ∈ findP L n m' := by
  intro m m' h hp
  induction m' with
  | zero => obtain rfl : m = 0 := by omega
            exact hp
  | succ i ih =>
    by_cases e : m = i + 1
    · subst e; exact hp
    · have := ih (by omega)
      rw [findP]
      split
      · exact this
      · split
        · exact List.mem_append_left _ this
        · exact this
/-- Whose vote breaks the rules with a later one of the same key: that key is found. -/
theorem findP_all (L : Nat → Sg) (n i j : Nat) (hij : i < j) (hj : j < n) (h : hitB (L i) (L j) = true) (m : Nat) (hm : i < m) : ∃ p ∈ findP L n m, (L p.1).k = (L i).k := by
  have key : ∃ p ∈ findP L n (i + 1), (L p.1).k = (L i).k := by
    rw [findP]
    split
    · rename_i h1
      obtain ⟨p, h2, h3⟩ := List.any_eq_true.1 h1
      exact ⟨p, h2, (bsEq_iff _ _).1 h3⟩
    · rcases firstI_spec (fun j => hitB (L i) (L (i + 1 + j))) (n - (i + 1)) with ⟨_, h1⟩ | ⟨k, h1, h2, _⟩
      · have := h1 (j - (i + 1)) (by omega)
        rw [show i + 1 + (j - (i + 1)) = j by omega, h] at this
        cases this
      · rw [if_pos (by rw [offI, h2]; omega)]
        exact ⟨_, List.mem_append_right _ (List.mem_singleton.2 rfl), rfl⟩
  obtain ⟨p, h1, h2⟩ := key
  exact ⟨p, findP_mono L n p (i + 1) m (by omega) h1, h2⟩
/-- A key is found just if two of its votes break the rules. -/
theorem findP_keys (L : Nat → Sg) (n : Nat) (h : Bs 32) : (∃ p ∈ findP L n n, (L p.1).k = h) ↔ ∃ i j, i < n ∧ j < n ∧ (L i).k = h ∧ (L j).k = h ∧ brB (L i).v (L j).v = true := by
  constructor
  · rintro ⟨p, hp, rfl⟩
    obtain ⟨h1, h2, h3, h4⟩ := findP_pair L n n (Nat.le_refl _) p hp
    have := (hitB_iff _ _).1 h4
    exact ⟨p.1, p.2, h1, h3, rfl, this.1, this.2⟩
  · rintro ⟨i, j, hi, hj, e1, e2, hb⟩
    rcases Nat.lt_trichotomy i j with h1 | h1 | h1
    · obtain ⟨p, h2, h3⟩ := findP_all L n i j h1 hj ((hitB_iff _ _).2 ⟨e2.trans e1.symm, hb⟩) n hi
      exact ⟨p, h2, h3.trans e1⟩
    · subst h1; rw [brB_self] at hb; cases hb
    · obtain ⟨p, h2, h3⟩ := findP_all L n j i h1 hi ((hitB_iff _ _).2 ⟨e1.trans e2.symm, by rw [brB_symm]; exact hb⟩) n hj
      exact ⟨p, h2, h3.trans e2⟩
end Go.Proofs.Ytgeijcielakeeaa
