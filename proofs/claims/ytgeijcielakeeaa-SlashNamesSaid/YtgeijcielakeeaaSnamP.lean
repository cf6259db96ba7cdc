/- A key is named just if two of its votes break the rules, in whatever order the votes stand. No program in sight. -/
import Derived.Test.YtgeijcielakeeaaNameP
namespace Go.Proofs.Ytgeijcielakeeaa
set_option linter.unusedVariables false

def keysP (L : Nat → Sg) (n : Nat) : List (Bs 32) := (findP L n n).map fun p => (L p.1).k
theorem keysP_mem (L : Nat → Sg) (n : Nat) (h : Bs 32) : h ∈ keysP L n ↔ ∃ i j, i < n ∧ j < n ∧ (L i).k = h ∧ (L j).k = h ∧ brB (L i).v (L j).v = true := by
  rw [← findP_keys, keysP, List.mem_map]
/-- The law's inner question. -/
def breakB (L : Nat → Sg) (i k j : Nat) : Bool := bsEq (L k).k (L i).k && (bsEq (L j).k (L i).k && brB (L j).v (L k).v)
def firstB (L : Nat → Sg) (i k : Nat) : Bool := bsEq (L k).k (L i).k && brB (L i).v (L k).v
def rowQ (L : Nat → Sg) (n i k : Nat) : Bool := firstB L i k || (List.range n).any fun j => breakB L i k j
def wantB (L : Nat → Sg) (n i : Nat) : Bool := (List.range n).any fun k => rowQ L n i k
theorem range_any (P : Nat → Bool) (n : Nat) : (List.range n).any P = true ↔ ∃ i, i < n ∧ P i = true := by
  rw [List.any_eq_true]
  exact ⟨fun ⟨i, h1, h2⟩ => ⟨i, List.mem_range.1 h1, h2⟩, fun ⟨i, h1, h2⟩ => ⟨i, List.mem_range.2 h1, h2⟩⟩
theorem range_any_succ (P : Nat → Bool) (n : Nat) : (List.range (n + 1)).any P = ((List.range n).any P || P n) := by
  rw [List.range_succ, List.any_append]; simp
theorem want_iff (L : Nat → Sg) (n i : Nat) (hi : i < n) : wantB L n i = true ↔ ∃ x y, x < n ∧ y < n ∧ (L x).k = (L i).k ∧ (L y).k = (L i).k ∧ brB (L x).v (L y).v = true := by
  unfold wantB rowQ firstB breakB
  rw [range_any]
  constructor
  · rintro ⟨k, hk, h⟩
    rw [Bool.or_eq_true, range_any] at h
    rcases h with h | ⟨j, hj, h⟩
    · rw [Bool.and_eq_true, bsEq_iff] at h
      exact ⟨i, k, hi, hk, rfl, h.1, h.2⟩
    · rw [Bool.and_eq_true, Bool.and_eq_true, bsEq_iff, bsEq_iff] at h
      exact ⟨j, k, hj, hk, h.2.1, h.1, h.2.2⟩
  · rintro ⟨x, y, hx, hy, e1, e2, h⟩
    refine ⟨y, hy, ?_⟩
    rw [Bool.or_eq_true, range_any]
    exact .inr ⟨x, hx, by rw [Bool.and_eq_true, Bool.and_eq_true, bsEq_iff, bsEq_iff]; exact ⟨e2, e1, h⟩⟩
theorem keys_want (L : Nat → Sg) (n i : Nat) (hi : i < n) : ((keysP L n).any fun x => bsEq x (L i).k) = wantB L n i := by
  rw [Bool.eq_iff_iff, want_iff L n i hi, List.any_eq_true, ← keysP_mem]
  exact ⟨fun ⟨x, h1, h2⟩ => (bsEq_iff _ _).1 h2 ▸ h1, fun h => ⟨_, h, (bsEq_iff _ _).2 rfl⟩⟩
section
variable {L M : Nat → Sg} {n m : Nat} {s : Nat → Nat} (hM : ∀ t, t < m → M t = L (s t)) (hs : ∀ t, t < m → s t < n) (ha : ∀ i, i < n → ∃ t, t < m ∧ s t = i)
include hM hs ha
theorem keys_shuffled (h : Bs 32) : h ∈ keysP M m ↔ h ∈ keysP L n := by
  rw [keysP_mem, keysP_mem]
  constructor
  · rintro ⟨x, y, hx, hy, e1, e2, hb⟩
    rw [hM x hx] at e1 hb
    rw [hM y hy] at e2 hb
    exact ⟨_, _, hs x hx, hs y hy, e1, e2, hb⟩
  · rintro ⟨x, y, hx, hy, e1, e2, hb⟩
    obtain ⟨t, ht, rfl⟩ := ha x hx
    obtain ⟨u, hu, rfl⟩ := ha y hy
    exact ⟨t, u, ht, hu, by rw [hM t ht]; exact e1, by rw [hM u hu]; exact e2, by rw [hM t ht, hM u hu]; exact hb⟩
theorem keys_want' (i : Nat) (hi : i < n) : ((keysP M m).any fun x => bsEq x (L i).k) = wantB L n i := by
  rw [← keys_want L n i hi, Bool.eq_iff_iff, List.any_eq_true, List.any_eq_true]
  constructor
  · rintro ⟨x, h1, h2⟩; exact ⟨x, (keys_shuffled hM hs ha x).1 h1, h2⟩
  · rintro ⟨x, h1, h2⟩; exact ⟨x, (keys_shuffled hM hs ha x).2 h1, h2⟩
theorem keys_len : (keysP M m).length = (keysP L n).length :=
  apart_same (findP_apart M m m) (findP_apart L n n) (keys_shuffled hM hs ha)
end
end Go.Proofs.Ytgeijcielakeeaa
