/- The walks of package weak: windows, ends, what an epoch is to an anchor; and of the reference's. For any numbers. -/
import Derived.Test.YtcbhpmpjabbniaaKit
import Derived.WalkSpells
import Derived.WalkLawsBesides
namespace Go.Proofs.Ytcbhpmpjabbniaa
open Go.RowKit
set_option linter.unusedVariables false

set_option maxHeartbeats 400000 in
theorem window_no (d : Int) (w : World) :
    Calls Try.prog 18 #[.int .u64 d, .int .u64 0] w fun e w' => e = .returned (.tuple #[.int .u64 0, .int .i64 2]) ∧ w = w' := by
  go_enter Try.func18, Try.ntmps18
  go_wp2
  go_ret2
  exact ⟨rfl, rfl⟩

set_option maxHeartbeats 400000 in
theorem window_yes (d c : Int) (w : World) (h0 : 0 ≤ d) (h1 : d ≤ 18446744073709551615) (h2 : 0 < c) (h3 : c ≤ 18446744073709551615) :
    Calls Try.prog 18 #[.int .u64 d, .int .u64 c] w fun e w' => e = .returned (.tuple #[.int .u64 (d / 2 / c), .int .i64 0]) ∧ w = w' := by
  have hc : (c == 0) = false := by simp; omega
  have hc' : ¬ c = 0 := by omega
  go_enter Try.func18, Try.ntmps18
  go_wp2
  go_ret2
  exact ⟨rfl, rfl⟩

/-- Where an anchor's time ends. -/
def endI (a d : Int) : Int := min (a + d) 18446744073709551615
theorem endI_lo (a d : Int) (h0 : 0 ≤ a) (h2 : 0 ≤ d) : a ≤ 18446744073709551615 → a ≤ endI a d ∧ 0 ≤ endI a d := by unfold endI; omega
theorem endI_hi (a d : Int) : endI a d ≤ 18446744073709551615 := by unfold endI; omega

set_option maxHeartbeats 400000 in
theorem end_any (a d : Int) (w : World) (h0 : 0 ≤ a) (h1 : a ≤ 18446744073709551615) (h2 : 0 ≤ d) (h3 : d ≤ 18446744073709551615) :
    Calls Try.prog 25 #[.int .u64 a, .int .u64 d] w fun e w' => e = .returned (.int .u64 (endI a d)) ∧ w = w' := by
  by_cases h : a + d ≤ 18446744073709551615
  · have he : endI a d = a + d := by unfold endI; omega
    have he := hide he
    go_enter Try.func25, Try.ntmps25
    go_wp2
    go_ret
    exact ⟨ret_int (by have := he.out; omega), rfl⟩
  · have he : endI a d = 18446744073709551615 := by unfold endI; omega
    have he := hide he
    have hw : IntKind.u64.wrap (a + d) < a := by rw [IntKind.wrap_u64]; omega
    go_enter Try.func25, Try.ntmps25
    go_wp2
    go_ret
    exact ⟨ret_int (by have := he.out; omega), rfl⟩

set_option maxHeartbeats 400000 in
theorem refEnd_any (a d : Int) (w : World) (h0 : 0 ≤ a) (h1 : a ≤ 18446744073709551615) (h2 : 0 ≤ d) (h3 : d ≤ 18446744073709551615) :
    Calls Try.prog 24 #[.int .u64 a, .int .u64 d] w fun e w' => e = .returned (.int .u64 (endI a d)) ∧ w = w' := by
  by_cases h : 18446744073709551615 - a < d
  · have he : endI a d = 18446744073709551615 := by unfold endI; omega
    have he := hide he
    go_enter Try.func24, Try.ntmps24
    go_wp2
    go_ret
    exact ⟨ret_int (by have := he.out; omega), rfl⟩
  · have he : endI a d = a + d := by unfold endI; omega
    have he := hide he
    go_enter Try.func24, Try.ntmps24
    go_wp2
    go_ret
    exact ⟨ret_int (by have := he.out; omega), rfl⟩

set_option maxHeartbeats 400000 in
theorem stale_any (a d x : Int) (w : World) (h0 : 0 ≤ a) (h1 : a ≤ 18446744073709551615) (h2 : 0 ≤ d) (h3 : d ≤ 18446744073709551615) :
    Calls Try.prog 22 #[.int .u64 a, .int .u64 d, .int .u64 x] w fun e w' => e = .returned (.bool (decide (endI a d < x))) ∧ Ext w w' := by
  have hmf : ∀ (fn : Fn) (first cap : Array Value) (w : World), (Instr.makeFunc fn first cap).run Try.prog w = .ok (.func fn first cap) w := fun _ _ _ _ => rfl
  go_enter Try.func22, Try.ntmps22
  go_wp2_with (first | (go_at_call 25; refine (end_any _ _ _ h0 h1 h2 h3).mono ?_; rintro e w' ⟨rfl, rfl⟩) | go_in)
  go_ret
  exact ⟨rfl, (Below.refl _ _).alloc (Nat.le_refl _) _⟩

set_option maxHeartbeats 400000 in
theorem within_any (a d x : Int) (w : World) (h0 : 0 ≤ a) (h1 : a ≤ 18446744073709551615) (h2 : 0 ≤ d) (h3 : d ≤ 18446744073709551615) :
    Calls Try.prog 26 #[.int .u64 a, .int .u64 d, .int .u64 x] w fun e w' => e = .returned (.bool (decide (a ≤ x ∧ x ≤ endI a d))) ∧ Ext w w' := by
  have hmf : ∀ (fn : Fn) (first cap : Array Value) (w : World), (Instr.makeFunc fn first cap).run Try.prog w = .ok (.func fn first cap) w := fun _ _ _ _ => rfl
  have hn : ∀ (b : Bool) (w : World), (Op.unary .not (.bool b)).run Try.prog w = .ok (.bool !b) w := fun _ _ => rfl
  by_cases h : a ≤ x
  · have hd : decide (a ≤ x) = true := by simpa using h
    go_enter Try.func26, Try.ntmps26
    go_wp2_with (first | (go_at_call 25; refine (end_any _ _ _ h0 h1 h2 h3).mono ?_; rintro e w' ⟨rfl, rfl⟩) | go_in)
    go_ret
    exact ⟨ret_bool (by rw [← decide_not]; apply decide_eq_decide.2; omega), (Below.refl _ _).alloc (Nat.le_refl _) _⟩
  · have hd : decide (a ≤ x) = false := by simpa using h
    go_enter Try.func26, Try.ntmps26
    go_wp2_with (first | (go_at_call 25; refine (end_any _ _ _ h0 h1 h2 h3).mono ?_; rintro e w' ⟨rfl, rfl⟩) | go_in)
    go_ret
    exact ⟨ret_bool (by first | rfl | (symm; apply decide_eq_false; omega)), Below.refl _ _⟩

set_option maxHeartbeats 400000 in
theorem left_any (a d x : Int) (w : World) (hx : 0 ≤ x) (h0 : 0 ≤ a) (h1 : a ≤ 18446744073709551615) (h2 : 0 ≤ d) (h3 : d ≤ 18446744073709551615) :
    Calls Try.prog 27 #[.int .u64 a, .int .u64 d, .int .u64 x] w fun e w' => e = .returned (.int .u64 (endI a d - min x (endI a d))) ∧ w = w' := by
  have e1 := endI_lo a d h0 h2 h1
  have e2 := endI_hi a d
  go_enter Try.func27, Try.ntmps27
  go_wp2_with (first | (go_at_call 25; refine (end_any _ _ _ h0 h1 h2 h3).mono ?_; rintro e w' ⟨rfl, rfl⟩))
  all_goals
    go_ret
    exact ⟨ret_int (by omega), rfl⟩

theorem num_any (x : Int) (w : World) : Calls Try.prog 19 #[.int .i64 x] w fun e w' => e = .returned (.int .i64 x) ∧ w = w' := by
  go_enter Try.func19, Try.ntmps19
  go_wp2
  go_ret
  exact ⟨rfl, rfl⟩

set_option maxHeartbeats 400000 in
theorem known16 (w : World) : Calls Try.prog 20 #[] w fun e w' => e = .returned (.bool true) ∧ Ext w w' := by
  have hmf : ∀ (fn : Fn) (first cap : Array Value) (w : World), (Instr.makeFunc fn first cap).run Try.prog w = .ok (.func fn first cap) w := fun _ _ _ _ => rfl
  have hn : ∀ (b : Bool) (w : World), (Op.unary .not (.bool b)).run Try.prog w = .ok (.bool !b) w := fun _ _ => rfl
  go_enter Try.func20, Try.ntmps20
  go_wp2
  go_ret
  exact ⟨rfl, by go_grown⟩

/-- Is twice the churn, n times, at most the decay? -/
def fitsB (d c n : Int) : Bool := decide (n = 0 ∨ c ≤ d / 2 / n)
theorem fitsB_iff (d c n : Int) (h0 : 0 ≤ d) (h2 : 0 < c) (h4 : 0 ≤ n) : fitsB d c n = true ↔ n ≤ d / 2 / c := by
  unfold fitsB
  rw [decide_eq_true_iff, Int.le_ediv_iff_mul_le h2]
  by_cases hn : n = 0
  · subst hn; simp; omega
  · rw [Int.le_ediv_iff_mul_le (by omega), Int.mul_comm]
    simp [hn]

set_option maxHeartbeats 400000 in
theorem fits_any (d c n : Int) (w : World) (h0 : 0 ≤ d) (h1 : d ≤ 18446744073709551615) (h2 : 0 < c) (h3 : c ≤ 18446744073709551615) (h4 : 0 ≤ n) (h5 : n ≤ 18446744073709551615) :
    Calls Try.prog 31 #[.int .u64 d, .int .u64 c, .int .u64 n] w fun e w' => e = .returned (.bool (fitsB d c n)) ∧ w = w' := by
  by_cases hn : n = 0
  · have hf : fitsB d c n = true := by simp [fitsB, hn]
    have hf := hide hf
    have hb : (n == 0) = true := by simpa using hn
    clear hn
    go_enter Try.func31, Try.ntmps31
    go_wp2
    go_ret
    exact ⟨ret_bool (by rw [hf.out]), rfl⟩
  · have hf : fitsB d c n = decide (c ≤ d / 2 / n) := by simp [fitsB, hn]
    have hf := hide hf
    have hb : (n == 0) = false := by simpa using hn
    have hp : 0 < n := by omega
    go_enter Try.func31, Try.ntmps31
    go_wp2
    go_ret
    exact ⟨ret_bool (by rw [hf.out]), rfl⟩

/-- What holds at the head of each round: so much is found; the bit is still to be asked. -/
def WInv (q v b : Int) : Prop := 0 ≤ v ∧ v ≤ q ∧ ((b = 0 ∧ v = q) ∨ ∃ k : Nat, b = ((2 ^ k : Nat) : Int) ∧ k ≤ 63 ∧ q < v + 2 * b)
theorem WInv.start {q : Int} (h : 0 ≤ q) (h' : q ≤ 9223372036854775807) : WInv q 0 9223372036854775808 :=
  ⟨by omega, h, .inr ⟨63, by decide, by omega, by omega⟩⟩
theorem WInv.bits {q v b : Int} (h : WInv q v b) : 0 ≤ v ∧ v ≤ q ∧ 0 ≤ b ∧ b ≤ 9223372036854775808 := by
  obtain ⟨h0, h1, h2⟩ := h
  refine ⟨h0, h1, ?_⟩
  rcases h2 with ⟨rfl, _⟩ | ⟨k, rfl, hk, _⟩
  · omega
  · have : 2 ^ k ≤ 2 ^ 63 := Nat.pow_le_pow_right (by omega) hk
    have e : 2 ^ 63 = 9223372036854775808 := by decide
    omega
theorem WInv.done {q v : Int} (h : WInv q v 0) : v = q := by
  obtain ⟨h0, h1, h2⟩ := h
  rcases h2 with ⟨_, h⟩ | ⟨k, h, _, _⟩
  · exact h
  · have : 0 < 2 ^ k := Nat.pow_pos (by omega)
    omega
theorem WInv.half {q v v' b : Int} (h : WInv q v b) (hb : 0 < b) (h0 : 0 ≤ v') (h1 : v' ≤ q) (h2 : q < v' + b) : WInv q v' (b / 2) := by
  obtain ⟨_, _, h⟩ := h
  refine ⟨h0, h1, ?_⟩
  rcases h with ⟨h, _⟩ | ⟨k, rfl, hk, h3⟩
  · omega
  · cases k with
    | zero => left; simp at h2 ⊢; omega
    | succ k => right; rw [Nat.pow_succ] at h2 ⊢; exact ⟨k, by omega, by omega, by omega⟩

set_option maxHeartbeats 400000 in
theorem refWindow_any (d c : Int) (w : World) (h0 : 0 ≤ d) (h1 : d ≤ 18446744073709551615) (h2 : 0 < c) (h3 : c ≤ 18446744073709551615) :
    Calls Try.prog 21 #[.int .u64 d, .int .u64 c] w fun e w' => e = .returned (.int .u64 (d / 2 / c)) ∧ w = w' := by
  obtain ⟨q, hq⟩ : ∃ q, q = d / 2 / c := ⟨_, rfl⟩
  have q0 : 0 ≤ q := by rw [hq]; exact Int.ediv_nonneg (by omega) (by omega)
  have q1 : q ≤ 9223372036854775807 := by rw [hq]; have := Int.ediv_le_self c (show 0 ≤ d / 2 by omega); omega
  have hq := hide hq
  go_enter Try.func21, Try.ntmps21
  go_wp2_with fail
  go_loop [5, 6] (fun v b => ∃ x y : Int, WInv q x y ∧ v = .int .u64 x ∧ b = .int .u64 y) (fun _ b => (intOf b).toNat)
  case atStart => exact ⟨0, _, WInv.start q0 q1, rfl, rfl⟩
  case round =>
    obtain ⟨x, y, hI, rfl, rfl⟩ := hrel
    obtain ⟨b0, b1, b2, b3⟩ := hI.bits
    by_cases hy : 0 < y
    · cases hf : fitsB d c (x + y)
      all_goals
        have hf' := hide hf
        have hg := hide (fitsB_iff d c (x + y) h0 h2 (by omega))
        go_wp2_with (go_at_call 31; refine (fits_any _ _ _ _ h0 h1 h2 h3 (by omega) (by omega)).mono ?_; rintro e w' ⟨rfl, rfl⟩)
        go_round
        case rel =>
          have hg := hg.out
          have hf' := hf'.out
          rw [hf', ← hq.out] at hg
          first
          | exact ⟨x, y / 2, hI.half hy b0 b1 (by simp at hg; omega), rfl, rfl⟩
          | exact ⟨x + y, y / 2, hI.half hy (by omega) (by simpa using hg) (by rcases hI.2.2 with h | ⟨k, h, h', h''⟩ <;> omega), rfl, rfl⟩
        case measure => simp [intOf]; omega
    · go_wp2_with fail
      go_ret
      have : y = 0 := by omega
      subst this
      exact ⟨ret_int (by rw [hI.done, hq.out]), rfl⟩
end Go.Proofs.Ytcbhpmpjabbniaa
