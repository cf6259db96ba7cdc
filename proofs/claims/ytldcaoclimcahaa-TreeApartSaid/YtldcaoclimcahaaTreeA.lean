/- The law on leaves apart: its plain part and its walk. -/
import Derived.Test.YtldcaoclimcahaaKnown7
import Derived.Test.YtldcaoclimcahaaTexts
import Derived.Test.YtldcaoclimcahaaClash
import Derived.Deep.AppendLies
namespace Go.Proofs.Ytldcaoclimcahaa
open Go.RowKit
set_option linter.unusedVariables false
set_option linter.unusedSimpArgs false

theorem SlicesOf.other {w : World} {row row' : Option Nat} {lo : Nat} {L : List Value} {ps : List (List UInt8)} (hs : SlicesOf w row lo L ps) (h : ∀ k, row' = some k → k < lo) : SlicesOf w row' lo L ps :=
  ⟨hs.1, fun j hj => let ⟨a, q, cap, e1, e2, e3, e4, e5⟩ := hs.2 j hj; ⟨a, q, cap, e1, e2, e3, e4, fun h0 ad ha => ⟨fun e => by have := h _ e; have := (e5 h0 ad ha).2; omega, (e5 h0 ad ha).2⟩⟩⟩
theorem SlicesOf.app {w : World} {row : Option Nat} {lo : Nat} {L L' : List Value} {ps ps' : List (List UInt8)} (hs : SlicesOf w row lo L ps) (hs' : SlicesOf w row lo L' ps') : SlicesOf w row lo (L ++ L') (ps ++ ps') := by
  have hl := hs.1
  have hl' := hs'.1
  refine ⟨by simp [hl, hl'], fun j hj => ?_⟩
  rw [List.length_append] at hj
  by_cases hjl : j < ps.length
  · obtain ⟨a', q', cap', e1, e2, e3, e4, e5⟩ := hs.2 j hjl
    refine ⟨a', q', cap', by rw [List.getElem?_append_left (by omega)]; exact e1, e2, e3, ?_, e5⟩
    have : (ps ++ ps').getD j [] = ps.getD j [] := by simp [List.getD, List.getElem?_append_left hjl]
    rw [this]; exact e4
  · obtain ⟨a', q', cap', e1, e2, e3, e4, e5⟩ := hs'.2 (j - ps.length) (by omega)
    refine ⟨a', q', cap', by rw [List.getElem?_append_right (by omega), hl]; exact e1, e2, e3, ?_, e5⟩
    have : (ps ++ ps').getD j [] = ps'.getD (j - ps.length) [] := by simp [List.getD, List.getElem?_append_right (show ps.length ≤ j by omega)]
    rw [this]; exact e4
theorem textsC_at (H : Nat → Bs 32) (leaf : Bs 32) (i : Nat) : ∀ (n j : Nat), j < n → (textsC H leaf i n).getD j [] = textC (climbB H leaf i j) (H j) (i / p2 j)
  | 0, j, h => absurd h (by omega)
  | n + 1, j, h => by
    have hl := length_textsC H leaf i n
    rw [textsC]
    by_cases hj : j < n
    · rw [← textsC_at H leaf i n j hj]
      simp [List.getD, List.getElem?_append_left (show j < (textsC H leaf i n).length by omega)]
    · obtain rfl : j = n := by omega
      have : (textsC H leaf i j ++ [textC (climbB H leaf i j) (H j) (i / p2 j)])[j]? = some (textC (climbB H leaf i j) (H j) (i / p2 j)) := by
        rw [List.getElem?_append_right (by omega), hl]; simp
      rw [List.getD, this]; rfl
theorem bs_ext {n : Nat} {a b : Bs n} (h : a.1 = b.1) : a = b := by
  cases a; cases b; simp only [Bs.mk.injEq]; exact h
theorem textC_inj {x y h : Bs 32} {q : Nat} (e : textC x h q = textC y h q) : x = y := by
  have hx := x.2
  have hy := y.2
  have hh := h.2
  apply bs_ext
  unfold textC textN at e
  by_cases hq : q % 2 = 1
  · rw [if_pos hq, if_pos hq] at e
    exact List.append_cancel_left e
  · rw [if_neg hq, if_neg hq] at e
    have := List.append_cancel_right e
    exact List.append_cancel_left this
/-- Where two leaves come to one root, there is a step at which unlike hashes come to one. -/
theorem climb_meet (H : Nat → Bs 32) (a b : Bs 32) (i : Nat) : ∀ n, climbB H a i n = climbB H b i n → a ≠ b → ∃ j, j < n ∧ climbB H a i j ≠ climbB H b i j ∧ climbB H a i (j + 1) = climbB H b i (j + 1)
  | 0, h, hne => absurd h hne
  | n + 1, h, hne => by
    by_cases hn : climbB H a i n = climbB H b i n
    · obtain ⟨j, h1, h2, h3⟩ := climb_meet H a b i n hn hne
      exact ⟨j, by omega, h2, h3⟩
    · exact ⟨n, by omega, hn, h⟩
theorem apart_clash (H : Nat → Bs 32) (a b : Bs 32) (i n : Nat) (h : climbB H a i n = climbB H b i n) (hne : a ≠ b) : ∃ i0 k0, i0 < k0 ∧ k0 < n + n ∧ hashB ((textsC H a i n ++ textsC H b i n).getD i0 []) = hashB ((textsC H a i n ++ textsC H b i n).getD k0 []) ∧ (textsC H a i n ++ textsC H b i n).getD i0 [] ≠ (textsC H a i n ++ textsC H b i n).getD k0 [] := by
  obtain ⟨j, h1, h2, h3⟩ := climb_meet H a b i n h hne
  have hl := length_textsC H a i n
  have e1 : (textsC H a i n ++ textsC H b i n).getD j [] = textC (climbB H a i j) (H j) (i / p2 j) := by
    rw [← textsC_at H a i n j h1]
    simp [List.getD, List.getElem?_append_left (show j < (textsC H a i n).length by omega)]
  have e2 : (textsC H a i n ++ textsC H b i n).getD (n + j) [] = textC (climbB H b i j) (H j) (i / p2 j) := by
    rw [← textsC_at H b i n j h1]
    simp [List.getD, List.getElem?_append_right (show (textsC H a i n).length ≤ n + j by omega), hl]
  refine ⟨j, n + j, by omega, by omega, ?_, ?_⟩
  · rw [e1, e2, ← step_text, ← step_text]; exact h3
  · rw [e1, e2]
    exact fun e => h2 (textC_inj e)
theorem texts_len (H : Nat → Bs 32) (a b : Bs 32) (i n : Nat) : ∀ k, k < n + n → ((textsC H a i n ++ textsC H b i n).getD k []).length = 65 := by
  have hl := length_textsC H a i n
  have hx : ∀ (x h : Bs 32) q, (textC x h q).length = 65 := fun x h q => by unfold textC; split <;> exact length_textN _ _
  intro k hk
  by_cases hkn : k < n
  · have e1 : (textsC H a i n ++ textsC H b i n).getD k [] = textC (climbB H a i k) (H k) (i / p2 k) := by
      rw [← textsC_at H a i n k hkn]
      simp [List.getD, List.getElem?_append_left (show k < (textsC H a i n).length by omega)]
    rw [e1]; exact hx _ _ _
  · have e2 : (textsC H a i n ++ textsC H b i n).getD k [] = textC (climbB H b i (k - n)) (H (k - n)) (i / p2 (k - n)) := by
      rw [← textsC_at H b i n (k - n) (by omega)]
      simp [List.getD, List.getElem?_append_right (show (textsC H a i n).length ≤ k by omega), hl]
    rw [e2]; exact hx _ _ _
end Go.Proofs.Ytldcaoclimcahaa
