/- Names, each once: what they are, how many. No program in sight. -/
import Derived.Test.YtgeijcielakeeaaRowsK
namespace Go.Proofs.Ytgeijcielakeeaa
set_option linter.unusedVariables false

theorem nameL_mem (K : Nat → Bs 32) (x : Bs 32) : ∀ n, x ∈ nameL K n ↔ ∃ i, i < n ∧ K i = x := by
  intro n
  induction n with
  | zero => simp [nameL]
  | succ n ih =>
    rw [nameL]
    split
    · rename_i h
      rw [ih]
      constructor
      · rintro ⟨i, hi, e⟩; exact ⟨i, by omega, e⟩
      · rintro ⟨i, hi, e⟩
        by_cases h1 : i = n
        · subst h1
          obtain ⟨y, hy, h2⟩ := List.any_eq_true.1 h
          have h3 := (bsEq_iff _ _).1 h2
          have h4 := ih.1 (by rw [← e, h3]; exact hy)
          exact h4
        · exact ⟨i, by omega, e⟩
    · rw [List.mem_append, ih]
      constructor
      · rintro (⟨i, hi, e⟩ | h)
        · exact ⟨i, by omega, e⟩
        · simp at h; exact ⟨n, by omega, h.symm⟩
      · rintro ⟨i, hi, e⟩
        by_cases h1 : i = n
        · subst h1; exact .inr (by simp [e])
        · exact .inl ⟨i, by omega, e⟩
theorem nameL_apart (K : Nat → Bs 32) : ∀ n, (nameL K n).Pairwise (· ≠ ·) := by
  intro n
  induction n with
  | zero => simp [nameL]
  | succ n ih =>
    rw [nameL]
    split
    · exact ih
    · rename_i h
      rw [List.pairwise_append]
      refine ⟨ih, by simp, fun x hx y hy e => h ?_⟩
      simp at hy
      subst hy
      exact List.any_eq_true.2 ⟨x, hx, (bsEq_iff _ _).2 e.symm⟩
theorem nameL_all (K : Nat → Bs 32) : ∀ n, (∀ i j, i < j → j < n → K i ≠ K j) → nameL K n = (List.range n).map K := by
  intro n
  induction n with
  | zero => intro _; rfl
  | succ n ih =>
    intro h
    rw [nameL, List.range_succ, List.map_append, ih fun i j h1 h2 => h i j h1 (by omega), if_neg]
    · rfl
    · intro h1
      obtain ⟨x, hx, h2⟩ := List.any_eq_true.1 h1
      obtain ⟨i, hi, rfl⟩ := List.mem_map.1 hx
      exact h i n (List.mem_range.1 hi) (by omega) ((bsEq_iff _ _).1 h2).symm
theorem nameL_congr (K K' : Nat → Bs 32) : ∀ n, (∀ i, i < n → K i = K' i) → nameL K n = nameL K' n := by
  intro n
  induction n with
  | zero => intro _; rfl
  | succ n ih => intro h; rw [nameL, nameL, ih fun i hi => h i (by omega), h n (by omega)]
/-- Those that come twice come once. -/
theorem nameL_twice (K : Nat → Bs 32) (n : Nat) (h : ∀ i, i < n → K (n + i) = K i) : ∀ j, j ≤ n → nameL K (n + j) = nameL K n := by
  intro j
  induction j with
  | zero => intro _; rfl
  | succ j ih =>
    intro hj
    rw [← Nat.add_assoc, nameL, ih (by omega), if_pos]
    exact List.any_eq_true.2 ⟨K j, (nameL_mem K _ n).2 ⟨j, by omega, rfl⟩, by rw [bsEq_iff]; exact h j (by omega)⟩
/-- Lists in which nothing comes twice, of the same things, are of one length. -/
theorem apart_le : ∀ (l m : List (Bs 32)), l.Pairwise (· ≠ ·) → (∀ x ∈ l, x ∈ m) → l.length ≤ m.length
  | [], m, _, _ => Nat.zero_le _
  | a :: l, m, hp, hm => by
    rw [List.pairwise_cons] at hp
    obtain ⟨s, t, rfl⟩ := List.append_of_mem (hm a (by simp))
    have := apart_le l (s ++ t) hp.2 fun x hx => by
      have h1 := hm x (by simp [hx])
      rw [List.mem_append, List.mem_cons] at h1
      rcases h1 with h1 | h1 | h1
      · exact List.mem_append_left _ h1
      · exact absurd h1.symm (hp.1 x hx)
      · exact List.mem_append_right _ h1
    simp only [List.length_append, List.length_cons] at this ⊢
    omega
theorem apart_same {l m : List (Bs 32)} (h1 : l.Pairwise (· ≠ ·)) (h2 : m.Pairwise (· ≠ ·)) (h : ∀ x, x ∈ l ↔ x ∈ m) : l.length = m.length :=
  Nat.le_antisymm (apart_le l m h1 fun x => (h x).1) (apart_le m l h2 fun x => (h x).2)
/-- The key of a piece of evidence that was found. -/
theorem ev_key_at {w : World} {L : Nat → Sg} {C : Nat → List UInt8} {ps : List (Nat × Nat)} {es : List Ev} (h : EvsAre w L C ps es) (i : Nat) (hi : i < ps.length) : (es.getD i ev0).k = (L (ps.getD i (0, 0)).1).k := by
  have hi' : i < es.length := by rw [h.1]; exact hi
  have := (h.2 i ps[i] es[i] (List.getElem?_eq_getElem hi) (List.getElem?_eq_getElem hi')).k
  simpa [List.getD, hi, hi'] using this
/-- Names of what is found: the keys of the pairs, each once as it is. -/
theorem names_found {w : World} {L : Nat → Sg} {C : Nat → List UInt8} {n m : Nat} {es : List Ev} (h : EvsAre w L C (findP L n m) es) : nameL (fun i => (es.getD i ev0).k) es.length = (findP L n m).map fun p => (L p.1).k := by
  have hap := findP_apart L n m
  have hk := ev_key_at h
  rw [h.1]
  rw [nameL_congr _ (fun i => (L ((findP L n m).getD i (0, 0)).1).k) _ hk]
  generalize findP L n m = P at *
  rw [nameL_all]
  · apply List.ext_getElem?
    intro i
    rw [List.getElem?_map, List.getElem?_map]
    by_cases hi : i < P.length
    · simp [hi]
    · simp [Nat.not_lt.1 hi]
  · intro i j hij hj
    rw [List.pairwise_iff_getElem] at hap
    have := hap i j (by simp; omega) (by simp; omega) hij
    simpa [List.getD, hj, show i < P.length by omega] using this
theorem names_twice {w : World} {L : Nat → Sg} {C : Nat → List UInt8} {n m : Nat} {es : List Ev} (h : EvsAre w L C (findP L n m) es) : (nameL (fun i => ((es ++ es).getD i ev0).k) (es.length + es.length)).length = (findP L n m).length := by
  rw [nameL_twice _ es.length _ es.length (Nat.le_refl _), nameL_congr _ (fun i => (es.getD i ev0).k), names_found h, List.length_map]
  · intro i hi
    simp [List.getD, List.getElem?_append_left hi]
  · intro i hi
    simp [List.getD, List.getElem?_append_left hi, List.getElem?_append_right]
end Go.Proofs.Ytgeijcielakeeaa
