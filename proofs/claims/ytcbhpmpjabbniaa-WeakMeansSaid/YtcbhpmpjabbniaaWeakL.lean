/- The laws of package weak: their walks. For any numbers. -/
import Derived.Test.YtcbhpmpjabbniaaWeakW
namespace Go.Proofs.Ytcbhpmpjabbniaa
open Go.RowKit
set_option linter.unusedVariables false

set_option maxHeartbeats 400000 in
theorem weakWindows_walk (d c : Int) (w : World) (h0 : 0 ≤ d) (h1 : d ≤ 18446744073709551615) (h2 : 0 ≤ c) (h3 : c ≤ 18446744073709551615) :
    Calls Try.prog 6 #[.int .u64 d, .int .u64 c] w fun e w' => e = .returned (.bool true) ∧ Ext w w' := by
  by_cases h : c = 0
  · subst h
    go_enter Try.func6, Try.ntmps6
    go_wp2_with (first | (go_at_call 18; refine (window_no _ _).mono ?_; rintro e w' ⟨rfl, rfl⟩) | (go_at_call 19; refine (num_any _ _).mono ?_; rintro e w' ⟨rfl, rfl⟩) | (go_at_call 20; refine (known16 _).mono ?_; rintro e w' ⟨rfl, hk⟩))
    go_ret
    exact ⟨rfl, hk⟩
  · have hc : (c == 0) = false := by simpa using h
    have hp : 0 < c := by omega
    go_enter Try.func6, Try.ntmps6
    go_wp2_with (first | (go_at_call 18; refine (window_yes _ _ _ h0 h1 hp h3).mono ?_; rintro e w' ⟨rfl, rfl⟩) | (go_at_call 21; refine (refWindow_any _ _ _ h0 h1 hp h3).mono ?_; rintro e w' ⟨rfl, rfl⟩) | (go_at_call 19; refine (num_any _ _).mono ?_; rintro e w' ⟨rfl, rfl⟩) | (go_at_call 20; refine (known16 _).mono ?_; rintro e w' ⟨rfl, hk⟩))
    go_ret
    exact ⟨rfl, hk⟩

set_option maxHeartbeats 400000 in
theorem weakTimes_walk (a d x : Int) (w : World) (h0 : 0 ≤ a) (h1 : a ≤ 18446744073709551615) (h2 : 0 ≤ d) (h3 : d ≤ 18446744073709551615) (h4 : 0 ≤ x) (h5 : x ≤ 18446744073709551615) :
    Calls Try.prog 9 #[.int .u64 a, .int .u64 d, .int .u64 x] w fun e w' => e = .returned (.bool true) ∧ Ext w w' := by
  have e1 := endI_lo a d h0 h2 h1
  have e2 := endI_hi a d
  by_cases k1 : x < endI a d
  · by_cases k2 : a ≤ x
    all_goals
      go_enter Try.func9, Try.ntmps9
      go_wp2_with (first | (go_at_call 25; refine (end_any _ _ _ h0 h1 h2 h3).mono ?_; rintro e w' ⟨rfl, rfl⟩) | (go_at_call 24; refine (refEnd_any _ _ _ h0 h1 h2 h3).mono ?_; rintro e w' ⟨rfl, rfl⟩) | (go_at_call 22; refine (stale_any _ _ _ _ h0 h1 h2 h3).mono ?_; rintro e w' ⟨rfl, hs⟩) | (go_at_call 26; refine (within_any _ _ _ _ h0 h1 h2 h3).mono ?_; rintro e w' ⟨rfl, hi⟩) | (go_at_call 27; refine (left_any _ _ _ _ (by omega) h0 h1 h2 h3).mono ?_; rintro e w' ⟨rfl, rfl⟩) | (go_at_call 20; refine (known16 _).mono ?_; rintro e w' ⟨rfl, hk⟩))
      go_ret
      exact ⟨rfl, hs.then (hi.then hk)⟩
  · by_cases k2 : x = endI a d
    · have k3 : a ≤ x := by omega
      have k4 : x ≤ endI a d := by omega
      have k5 := hide k2
      clear k2
      go_enter Try.func9, Try.ntmps9
      go_wp2_with (first | (go_at_call 25; refine (end_any _ _ _ h0 h1 h2 h3).mono ?_; rintro e w' ⟨rfl, rfl⟩) | (go_at_call 24; refine (refEnd_any _ _ _ h0 h1 h2 h3).mono ?_; rintro e w' ⟨rfl, rfl⟩) | (go_at_call 22; refine (stale_any _ _ _ _ h0 h1 h2 h3).mono ?_; rintro e w' ⟨rfl, hs⟩) | (go_at_call 26; refine (within_any _ _ _ _ h0 h1 h2 h3).mono ?_; rintro e w' ⟨rfl, hi⟩) | (go_at_call 27; refine (left_any _ _ _ _ (by omega) h0 h1 h2 h3).mono ?_; rintro e w' ⟨rfl, rfl⟩) | (go_at_call 20; refine (known16 _).mono ?_; rintro e w' ⟨rfl, hk⟩))
      all_goals first | (go_ret; exact ⟨rfl, hs.then (hi.then hk)⟩) | (exfalso; have := k5.out; omega)
    · have k3 : a ≤ x := by omega
      have k4 : endI a d < x := by omega
      go_enter Try.func9, Try.ntmps9
      go_wp2_with (first | (go_at_call 25; refine (end_any _ _ _ h0 h1 h2 h3).mono ?_; rintro e w' ⟨rfl, rfl⟩) | (go_at_call 24; refine (refEnd_any _ _ _ h0 h1 h2 h3).mono ?_; rintro e w' ⟨rfl, rfl⟩) | (go_at_call 22; refine (stale_any _ _ _ _ h0 h1 h2 h3).mono ?_; rintro e w' ⟨rfl, hs⟩) | (go_at_call 26; refine (within_any _ _ _ _ h0 h1 h2 h3).mono ?_; rintro e w' ⟨rfl, hi⟩) | (go_at_call 27; refine (left_any _ _ _ _ (by omega) h0 h1 h2 h3).mono ?_; rintro e w' ⟨rfl, rfl⟩) | (go_at_call 20; refine (known16 _).mono ?_; rintro e w' ⟨rfl, hk⟩))
      all_goals first | (go_ret; exact ⟨rfl, hs.then (hi.then hk)⟩)

theorem left_lt (a d x : Int) (w : World) (hx : 0 ≤ x) (h0 : 0 ≤ a) (h1 : a ≤ 18446744073709551615) (h2 : 0 ≤ d) (h3 : d ≤ 18446744073709551615) (k : x ≤ endI a d) :
    Calls Try.prog 27 #[.int .u64 a, .int .u64 d, .int .u64 x] w fun e w' => e = .returned (.int .u64 (endI a d - x)) ∧ w = w' :=
  (left_any a d x w hx h0 h1 h2 h3).mono fun e w' h => by rw [show min x (endI a d) = x from by omega] at h; exact h
theorem left_ge (a d x : Int) (w : World) (hx : 0 ≤ x) (h0 : 0 ≤ a) (h1 : a ≤ 18446744073709551615) (h2 : 0 ≤ d) (h3 : d ≤ 18446744073709551615) (k : endI a d ≤ x) :
    Calls Try.prog 27 #[.int .u64 a, .int .u64 d, .int .u64 x] w fun e w' => e = .returned (.int .u64 0) ∧ w = w' :=
  (left_any a d x w hx h0 h1 h2 h3).mono fun e w' h => by rw [show min x (endI a d) = endI a d from by omega, Int.sub_self] at h; exact h

set_option maxHeartbeats 400000 in
theorem weakEnds_walk (a d x : Int) (w : World) (h0 : 0 ≤ a) (h1 : a ≤ 18446744073709551615) (h2 : 0 ≤ d) (h3 : d ≤ 18446744073709551615) (h4 : 0 ≤ x) (h5 : x ≤ 18446744073709551615) :
    Calls Try.prog 10 #[.int .u64 a, .int .u64 d, .int .u64 x] w fun e w' => e = .returned (.bool true) ∧ Ext w w' := by
  have e1 := endI_lo a d h0 h2 h1
  have e2 := endI_hi a d
  obtain ⟨e3, e4⟩ := e1
  by_cases k1 : x < a
  · have k2 : x < endI a d := by omega
    have b1 : decide (a ≤ x) = false := by simp; omega
    have b2 : decide (endI a d < x) = false := by simp; omega
    have b3 : decide (endI a d ≤ x) = false := by simp; omega
    have b4 : (endI a d - x == 0) = false := by simp; omega
    have b5 : decide (x < a) = true := by simp; omega
    have b6 : decide (a ≤ x ∧ x ≤ endI a d) = false := by simp; omega
    have b7 : (endI a d - (x + 1) != endI a d - x - 1) = false := by simp; omega
    go_enter Try.func10, Try.ntmps10
    go_wp2_with (first | (go_at_call 25; refine (end_any _ _ _ h0 h1 h2 h3).mono ?_; rintro e w' ⟨rfl, rfl⟩) | (go_at_call 22; refine (stale_any _ _ _ _ h0 h1 h2 h3).mono ?_; rintro e w' ⟨rfl, hs⟩) | (go_at_call 26; refine (within_any _ _ _ _ h0 h1 h2 h3).mono ?_; rintro e w' ⟨rfl, hi⟩) | (go_at_call 27; refine (left_ge _ _ _ _ (by omega) h0 h1 h2 h3 (by omega)).mono ?_; rintro e w' ⟨rfl, rfl⟩) | (go_at_call 27; refine (left_lt _ _ _ _ (by omega) h0 h1 h2 h3 (by omega)).mono ?_; rintro e w' ⟨rfl, rfl⟩) | (go_at_call 20; refine (known16 _).mono ?_; rintro e w' ⟨rfl, hk⟩))
    go_ret
    exact ⟨rfl, (by repeat (first | exact Below.refl _ _ | with_reducible assumption | refine Ext.then (by assumption) ?_))⟩
  · by_cases k2 : x < endI a d
    · have b1 : decide (a ≤ x) = true := by simp; omega
      have b2 : decide (endI a d < x) = false := by simp; omega
      have b3 : decide (endI a d ≤ x) = false := by simp; omega
      have b4 : (endI a d - x == 0) = false := by simp; omega
      have b5 : decide (x < a) = false := by simp; omega
      have b6 : decide (a ≤ x ∧ x ≤ endI a d) = true := by simp; omega
      have b7 : (endI a d - (x + 1) != endI a d - x - 1) = false := by simp; omega
      go_enter Try.func10, Try.ntmps10
      go_wp2_with (first | (go_at_call 25; refine (end_any _ _ _ h0 h1 h2 h3).mono ?_; rintro e w' ⟨rfl, rfl⟩) | (go_at_call 22; refine (stale_any _ _ _ _ h0 h1 h2 h3).mono ?_; rintro e w' ⟨rfl, hs⟩) | (go_at_call 26; refine (within_any _ _ _ _ h0 h1 h2 h3).mono ?_; rintro e w' ⟨rfl, hi⟩) | (go_at_call 27; refine (left_ge _ _ _ _ (by omega) h0 h1 h2 h3 (by omega)).mono ?_; rintro e w' ⟨rfl, rfl⟩) | (go_at_call 27; refine (left_lt _ _ _ _ (by omega) h0 h1 h2 h3 (by omega)).mono ?_; rintro e w' ⟨rfl, rfl⟩) | (go_at_call 20; refine (known16 _).mono ?_; rintro e w' ⟨rfl, hk⟩))
      go_ret
      exact ⟨rfl, (by repeat (first | exact Below.refl _ _ | with_reducible assumption | refine Ext.then (by assumption) ?_))⟩
    · by_cases k3 : x = endI a d
      · subst k3
        have b1 : decide (a ≤ endI a d) = true := by simp; omega
        have b6 : decide (a ≤ endI a d ∧ endI a d ≤ endI a d) = true := by simp; omega
        go_enter Try.func10, Try.ntmps10
        go_wp2_with (first | (go_at_call 25; refine (end_any _ _ _ h0 h1 h2 h3).mono ?_; rintro e w' ⟨rfl, rfl⟩) | (go_at_call 22; refine (stale_any _ _ _ _ h0 h1 h2 h3).mono ?_; rintro e w' ⟨rfl, hs⟩) | (go_at_call 26; refine (within_any _ _ _ _ h0 h1 h2 h3).mono ?_; rintro e w' ⟨rfl, hi⟩) | (go_at_call 27; refine (left_ge _ _ _ _ (by omega) h0 h1 h2 h3 (by omega)).mono ?_; rintro e w' ⟨rfl, rfl⟩) | (go_at_call 27; refine (left_lt _ _ _ _ (by omega) h0 h1 h2 h3 (by omega)).mono ?_; rintro e w' ⟨rfl, rfl⟩) | (go_at_call 20; refine (known16 _).mono ?_; rintro e w' ⟨rfl, hk⟩))
        go_ret
        exact ⟨rfl, (by repeat (first | exact Below.refl _ _ | with_reducible assumption | refine Ext.then (by assumption) ?_))⟩
      · have b1 : decide (a ≤ x) = true := by simp; omega
        have b2 : decide (endI a d < x) = true := by simp; omega
        have b3 : decide (endI a d ≤ x) = true := by simp; omega
        have b5 : decide (x < a) = false := by simp; omega
        have b6 : decide (a ≤ x ∧ x ≤ endI a d) = false := by simp; omega
        have k4 : endI a d < x := by omega
        clear k3
        go_enter Try.func10, Try.ntmps10
        go_wp2_with (first | (go_at_call 25; refine (end_any _ _ _ h0 h1 h2 h3).mono ?_; rintro e w' ⟨rfl, rfl⟩) | (go_at_call 22; refine (stale_any _ _ _ _ h0 h1 h2 h3).mono ?_; rintro e w' ⟨rfl, hs⟩) | (go_at_call 26; refine (within_any _ _ _ _ h0 h1 h2 h3).mono ?_; rintro e w' ⟨rfl, hi⟩) | (go_at_call 27; refine (left_ge _ _ _ _ (by omega) h0 h1 h2 h3 (by omega)).mono ?_; rintro e w' ⟨rfl, rfl⟩) | (go_at_call 27; refine (left_lt _ _ _ _ (by omega) h0 h1 h2 h3 (by omega)).mono ?_; rintro e w' ⟨rfl, rfl⟩) | (go_at_call 20; refine (known16 _).mono ?_; rintro e w' ⟨rfl, hk⟩))
        go_ret
        exact ⟨rfl, (by repeat (first | exact Below.refl _ _ | with_reducible assumption | refine Ext.then (by assumption) ?_))⟩
end Go.Proofs.Ytcbhpmpjabbniaa
