/- A path that is turned: its texts. No program in sight but for the tree's own functions. -/
import Derived.Test.YtfdllhhdjiklfaaKeyC
import Derived.Test.YtfdllhhdjiklfaaZF
namespace Go.Proofs.Ytfdllhhdjiklfaa
open Go.RowKit
set_option linter.unusedVariables false
set_option maxRecDepth 100000
set_option linter.unusedSimpArgs false

theorem textN_inj {a b a' b' : Bs 32} (e : textN a b = textN a' b') : a = a' ∧ b = b' := by
  unfold textN at e
  have h1 := a.2
  have h2 := a'.2
  rw [List.append_assoc, List.append_assoc] at e
  have e := List.append_cancel_left e
  have := List.append_inj e (by rw [h1, h2])
  exact ⟨bs_eq this.1, bs_eq this.2⟩
theorem textC_inj2 {x y h h' : Bs 32} {q : Nat} (e : textC x h q = textC y h' q) : x = y ∧ h = h' := by
  unfold textC at e
  by_cases hq : q % 2 = 1
  · rw [if_pos hq, if_pos hq] at e
    have := textN_inj e
    exact ⟨this.2, this.1⟩
  · rw [if_neg hq, if_neg hq] at e
    exact textN_inj e
/-- From a step at which the paths part, there is one at which unlike texts come to one hash. -/
theorem part_meet (H H' : Nat → Bs 32) (a : Bs 32) (i k : Nat) (hk : H k ≠ H' k) : ∀ n, k < n → climbB H a i n = climbB H' a i n → ∃ j, j < n ∧ textC (climbB H a i j) (H j) (i / p2 j) ≠ textC (climbB H' a i j) (H' j) (i / p2 j) ∧ climbB H a i (j + 1) = climbB H' a i (j + 1)
  | 0, h, _ => absurd h (by omega)
  | n + 1, h, he => by
    by_cases hn : textC (climbB H a i n) (H n) (i / p2 n) = textC (climbB H' a i n) (H' n) (i / p2 n)
    · have h2 := textC_inj2 hn
      have hkn : k ≠ n := fun e => by subst e; exact hk h2.2
      obtain ⟨j, h3, h4, h5⟩ := part_meet H H' a i k hk n (by omega) h2.1
      exact ⟨j, by omega, h4, h5⟩
    · exact ⟨n, by omega, hn, he⟩
theorem part_clash (H H' : Nat → Bs 32) (a : Bs 32) (i k n : Nat) (hk : H k ≠ H' k) (hkn : k < n) (h : climbB H a i n = climbB H' a i n) : ∃ i0 k0, i0 < k0 ∧ k0 < n + n ∧ hashB ((textsC H a i n ++ textsC H' a i n).getD i0 []) = hashB ((textsC H a i n ++ textsC H' a i n).getD k0 []) ∧ (textsC H a i n ++ textsC H' a i n).getD i0 [] ≠ (textsC H a i n ++ textsC H' a i n).getD k0 [] := by
  obtain ⟨j, h1, h2, h3⟩ := part_meet H H' a i k hk n hkn h
  have hl := length_textsC H a i n
  have e1 : (textsC H a i n ++ textsC H' a i n).getD j [] = textC (climbB H a i j) (H j) (i / p2 j) := by
    rw [← textsC_at H a i n j h1]
    simp [List.getD, List.getElem?_append_left (show j < (textsC H a i n).length by omega)]
  have e2 : (textsC H a i n ++ textsC H' a i n).getD (n + j) [] = textC (climbB H' a i j) (H' j) (i / p2 j) := by
    rw [← textsC_at H' a i n j h1]
    simp [List.getD, List.getElem?_append_right (show (textsC H a i n).length ≤ n + j by omega), hl]
  refine ⟨j, n + j, by omega, by omega, ?_, ?_⟩
  · rw [e1, e2, ← step_text, ← step_text]; exact h3
  · rw [e1, e2]; exact h2
theorem texts_len2 (H H' : Nat → Bs 32) (a : Bs 32) (i n : Nat) : ∀ k, k < n + n → ((textsC H a i n ++ textsC H' a i n).getD k []).length = 65 := by
  have hl := length_textsC H a i n
  have hx : ∀ (x h : Bs 32) q, (textC x h q).length = 65 := fun x h q => by unfold textC; split <;> exact length_textN _ _
  intro k hk
  by_cases hkn : k < n
  · have e1 : (textsC H a i n ++ textsC H' a i n).getD k [] = textC (climbB H a i k) (H k) (i / p2 k) := by
      rw [← textsC_at H a i n k hkn]
      simp [List.getD, List.getElem?_append_left (show k < (textsC H a i n).length by omega)]
    rw [e1]; exact hx _ _ _
  · have e2 : (textsC H a i n ++ textsC H' a i n).getD k [] = textC (climbB H' a i (k - n)) (H' (k - n)) (i / p2 (k - n)) := by
      rw [← textsC_at H' a i n (k - n) (by omega)]
      simp [List.getD, List.getElem?_append_right (show (textsC H a i n).length ≤ k by omega), hl]
    rw [e2]; exact hx _ _ _
/-! ### A byte turned -/
def turnL (c : List UInt8) (p : Nat) (b : UInt8) : List UInt8 := c.set p (c.getD p 0 ^^^ b)
theorem length_turnL (c : List UInt8) (p : Nat) (b : UInt8) : (turnL c p b).length = c.length := by simp [turnL]
theorem xor_ne (x b : UInt8) (hb : b ≠ 0) : x ^^^ b ≠ x := fun e => hb (by
  have h2 := congrArg (x ^^^ ·) e
  simp only [← UInt8.xor_assoc, UInt8.xor_self, UInt8.zero_xor] at h2
  exact h2)
theorem leaf_turn (c : List UInt8) (p : Nat) (b : UInt8) (h : Bs 32) (hp : 1088 ≤ p) : leafC (turnL c p b) h = leafC c h := by
  have e : (turnL c p b).take 1088 = c.take 1088 := by rw [turnL, List.take_set_of_le hp]
  unfold leafC
  have : ∀ (l l' : List UInt8) (e : l = l'), (if hc : l.length = 1088 then restB (nodesOf l hc) (digN h) else zeros 32) = (if hc : l'.length = 1088 then restB (nodesOf l' hc) (digN h) else zeros 32) := fun l l' e => by subst e; rfl
  exact this _ _ e
theorem path_turn (c : List UInt8) (hc : c.length = 1216) (q : Nat) (hq : q < 128) (b : UInt8) (hb : b ≠ 0) : pathC (turnL c (1088 + q) b) (q / 32) ≠ pathC c (q / 32) := by
  intro e
  have hl := length_turnL c (1088 + q) b
  have e2 : ((turnL c (1088 + q) b).drop (1088 + q / 32 * 32)).take 32 = (c.drop (1088 + q / 32 * 32)).take 32 := by
    rw [← cutH_val _ _ (by omega), ← cutH_val c _ (by omega)]
    exact congrArg Bs.val e
  have e3 := congrArg (fun l => l[q % 32]?) e2
  simp only [List.getElem?_take_of_lt (show q % 32 < 32 by omega), List.getElem?_drop] at e3
  rw [show 1088 + q / 32 * 32 + q % 32 = 1088 + q by omega] at e3
  have hlt : 1088 + q < c.length := by omega
  rw [turnL, List.getElem?_set_self hlt, List.getElem?_eq_getElem hlt] at e3
  have e4 := Option.some.inj e3
  have e5 : c.getD (1088 + q) 0 = c[1088 + q] := by simp [List.getD, List.getElem?_eq_getElem hlt]
  rw [e5] at e4
  exact xor_ne _ b hb e4
end Go.Proofs.Ytfdllhhdjiklfaa
