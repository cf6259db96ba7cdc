/- The known row of the laws on keys; keys that are none. -/
import Derived.Test.YtfdllhhdjiklfaaKeyM
import Derived.Test.YtfdllhhdjiklfaaKeyC
import Derived.Test.YtfdllhhdjiklfaaZF
namespace Go.Proofs.Ytfdllhhdjiklfaa
open Go.RowKit
set_option linter.unusedVariables false
set_option maxRecDepth 100000
set_option linter.unusedSimpArgs false

theorem But.top {w W w' : World} {b : Nat} (h : Ext w W) (k : But b W w') (hb : w.heap.size ≤ b) : Ext w w' := But.ext h k hb
def hash7 : Bs 32 := ⟨7 :: List.replicate 31 0, by decide⟩
theorem build_7 (w : World) : buildStep Try.prog 23 #[(0, .int .u8 7)] w = .ok (.value (.agg (bcells hash7))) w := buildStep_eq w _ _ _ (by kernel_rfl)
/-- What a key signed checks. -/
theorem chk_sig (seed : Bs 32) (i : Nat) (hi : i < 16) (h : Bs 32) : chkE (bsEq (rootC (sigB seed i h) i h) (keyB seed)) = 0 := by
  rw [root_sig seed i hi h, bsEq_self]; rfl
/-- A row of bytes of one's own as a slice. -/
theorem own_sig {w : World} {B : Nat} {v : Value} {c : List UInt8} (h : w.ownsRow B 5 1 v 1216 (c.map cb)) : ∃ g cap, v = .slice (some ⟨g, 0, none⟩) 1216 cap ∧ 1216 ≤ cap ∧ cap ≤ maxLen ∧ BytesIn w (some ⟨g, 0, none⟩) 1216 c ∧ B ≤ g := by
  obtain ⟨a, cap, rfl, h1, h2, h3, h4, h5⟩ := own_in h
  obtain ⟨ad, rfl, _⟩ := h4.2 (by omega)
  obtain ⟨g, rfl, h6, _⟩ := h5 _ rfl
  exact ⟨g, cap, rfl, h1, h2, h4, h6⟩
attribute [local go_sem ↓] exec_build_H build_7
set_option maxHeartbeats 1600000 in
theorem known08 (w : World) : Calls Try.prog 9 #[] w fun e w' => e = .returned (.bool true) ∧ Ext w w' := by
  have hm1 : ByteArray.size ⟨#[107]⟩ ≤ maxLen := by show 1 ≤ maxLen; unfold maxLen; omega
  have hSd := fun w' => seed_any ⟨#[107]⟩ w' hm1
  generalize hashB (ByteArray.data ⟨#[107]⟩).toList = seed at *
  have hMk := fun w' => keyMake_any seed w'
  have hSg := fun b w' hk => keySign_any b seed 3 (by omega) hash7 w' hk
  have hRt := fun b w' hk => root_any' b seed w' hk
  have hCk := fun a cap w' h1 h2 h3 => check_any (keyB seed) hash7 3 (by omega) a cap (sigB seed 3 hash7) w' h1 h2 h3
  rw [chk_sig seed 3 (by omega) hash7] at hCk
  rw [show ((3 : Nat) : Int) = 3 from rfl] at hSg hCk
  generalize sigB seed 3 hash7 = c at *
  replace hSd := hide hSd
  replace hMk := hide hMk
  replace hSg := hide hSg
  replace hRt := hide hRt
  replace hCk := hide hCk
  replace hm1 := hide hm1
  go_enter Try.func9, Try.ntmps9
  go_wp2_with (first
    | (go_at_call 10; (with_reducible refine (hSd.out _).mono ?_); rintro r w1 ⟨rfl, hx1⟩)
    | (go_at_call 12; (with_reducible refine (hMk.out _).mono ?_); rintro r w2 ⟨rfl, hk2, hx2⟩; have hx2 := hide (hx1.then hx2); have hN2 := hk2.lt; have hN := Nat.le_succ_of_le hx1.size; replace hk2 := hide hk2)
    | (go_at_call 16; (with_reducible refine (hSg.out (w1.heap.size + 1) _ hk2.out).mono ?_); rintro r w3 ⟨⟨v, rfl, hown⟩, hR3, hB3⟩; obtain ⟨g, cap, rfl, hc1, hc2, hb3, hg⟩ := own_sig hown; have hR3 := hide (show KeyIs w3 (w1.heap.size + 1) seed from .inr hR3); have hb3 := hide hb3; have hx3 := hide (But.top hx2.out hB3 hN); clear hown)
    | (go_at_call 14; (with_reducible refine (hRt.out (w1.heap.size + 1) _ hR3.out).mono ?_); rintro r w4 ⟨rfl, hR4, hB4⟩; have hb4 := hide (hB4.bytes hb3.out (fun ad e => by obtain rfl := Option.some.inj e; show g ≠ w1.heap.size + 1; omega)); have hx4 := hide (But.top hx3.out hB4 hN); clear hR4)
    | (go_at_call 18; (with_reducible refine (hCk.out _ cap _ hc1 hc2 hb4.out).mono ?_); rintro r w5 ⟨rfl, hx5⟩))
  go_ret
  exact ⟨rfl, hx4.out.then hx5⟩
end Go.Proofs.Ytfdllhhdjiklfaa
