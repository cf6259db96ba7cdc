/- The laws of package weak on scales and means: their walks. For any numbers. -/
import Derived.Test.YtcbhpmpjabbniaaWeakL
namespace Go.Proofs.Ytcbhpmpjabbniaa
open Go.RowKit
set_option linter.unusedVariables false

theorem scale_same (d c t : Int) (ht : 0 < t) : d * t / 2 / (c * t) = d / 2 / c := by
  rw [Int.ediv_ediv_of_nonneg (by omega), Int.ediv_ediv_of_nonneg (by omega), ← Int.mul_assoc, Int.mul_ediv_mul_of_pos_left _ _ ht]
theorem scale_more (d c t : Int) (hc : 0 < c) : (d + 2 * c * t) / 2 / c = d / 2 / c + t := by
  rw [Int.ediv_ediv_of_nonneg (by omega), Int.ediv_ediv_of_nonneg (by omega), Int.add_mul_ediv_left _ _ (by omega)]

set_option maxHeartbeats 400000 in
theorem weakScales_walk (d c t : Int) (w : World) (h0 : 0 ≤ d) (h1 : d ≤ 18446744073709551615) (h2 : 0 ≤ c) (h3 : c ≤ 18446744073709551615) (h4 : 0 ≤ t) (h5 : t ≤ 18446744073709551615) :
    Calls Try.prog 8 #[.int .u64 d, .int .u64 c, .int .u64 t] w fun e w' => e = .returned (.bool true) ∧ Ext w w' := by
  by_cases k1 : 1048576 ≤ d
  · go_enter Try.func8, Try.ntmps8; go_wp2_with (first | (go_at_call 20; (with_reducible refine (known16 _).mono ?_); rintro e w' ⟨rfl, hk⟩)); go_ret; exact ⟨rfl, hk⟩
  by_cases k2 : 1048576 ≤ c
  · go_enter Try.func8, Try.ntmps8; go_wp2_with (first | (go_at_call 20; (with_reducible refine (known16 _).mono ?_); rintro e w' ⟨rfl, hk⟩)); go_ret; exact ⟨rfl, hk⟩
  by_cases k3 : 1048576 ≤ t
  · go_enter Try.func8, Try.ntmps8; go_wp2_with (first | (go_at_call 20; (with_reducible refine (known16 _).mono ?_); rintro e w' ⟨rfl, hk⟩)); go_ret; exact ⟨rfl, hk⟩
  by_cases k4 : c = 0
  · have b4 : (c == 0) = true := by simpa using k4
    clear k4
    go_enter Try.func8, Try.ntmps8; go_wp2_with (first | (go_at_call 20; (with_reducible refine (known16 _).mono ?_); rintro e w' ⟨rfl, hk⟩)); go_ret; exact ⟨rfl, hk⟩
  have b4 : (c == 0) = false := by simpa using k4
  by_cases k5 : t = 0
  · have b5 : (t == 0) = true := by simpa using k5
    clear k5
    go_enter Try.func8, Try.ntmps8; go_wp2_with (first | (go_at_call 20; (with_reducible refine (known16 _).mono ?_); rintro e w' ⟨rfl, hk⟩)); go_ret; exact ⟨rfl, hk⟩
  have b5 : (t == 0) = false := by simpa using k5
  have p1 : 0 ≤ d * t := Int.mul_nonneg h0 h4
  have p2 : d * t ≤ 1048576 * 1048576 := Int.mul_le_mul (by omega) (by omega) h4 (by omega)
  have p3 : 0 < c * t := Int.mul_pos (by omega) (by omega)
  have p4 : c * t ≤ 1048576 * 1048576 := Int.mul_le_mul (by omega) (by omega) h4 (by omega)
  have p5 : 2 * c * t = 2 * (c * t) := Int.mul_assoc 2 c t
  have p6 : 0 ≤ 2 * c * t := by omega
  have p7 : 2 * c * t ≤ 2 * 1048576 * 1048576 := by omega
  have q1 := hide (scale_same d c t (by omega))
  have q2 := hide (scale_more d c t (by omega))
  have q3 : 0 ≤ d / 2 / c := Int.ediv_nonneg (by omega) (by omega)
  have q4 : d / 2 / c ≤ 1048576 := by have := Int.ediv_le_self c (show 0 ≤ d / 2 by omega); omega
  have hp : 0 < c := by omega
  clear p5
  go_enter Try.func8, Try.ntmps8
  go_wp2_with (first | (go_at_call 18; (with_reducible refine (window_yes _ _ _ (by omega) (by omega) (by omega) (by omega)).mono ?_); rintro e w' ⟨rfl, rfl⟩) | (go_at_call 19; (with_reducible refine (num_any _ _).mono ?_); rintro e w' ⟨rfl, rfl⟩) | (go_at_call 20; (with_reducible refine (known16 _).mono ?_); rintro e w' ⟨rfl, hk⟩))
  go_ret
  exact ⟨rfl, hk⟩

/-- Is the churn, twice n times, at most the decay? -/
def timesB (d c n : Int) : Bool := decide (2 * n * c ≤ d)
theorem times_yes {d c n i r : Int} (h0 : i = 2 * n) (h1 : 0 ≤ r) (h2 : r + i * c = d) : timesB d c n = true := by
  subst h0; unfold timesB; rw [decide_eq_true_iff]; omega
theorem times_no {d c n i r : Int} (h0 : i < 2 * n) (hc : 0 ≤ c) (h1 : r < c) (h2 : r + i * c = d) : timesB d c n = false := by
  unfold timesB; rw [decide_eq_false_iff_not]
  have h : (i + 1) * c ≤ 2 * n * c := Int.mul_le_mul_of_nonneg_right (by omega) hc
  rw [Int.add_mul] at h
  omega
theorem times_step {d c i r : Int} (h2 : r + i * c = d) : (r - c) + (i + 1) * c = d := by rw [Int.add_mul]; omega

set_option maxHeartbeats 400000 in
theorem times_any (d c n : Int) (w : World) (h0 : 0 ≤ d) (h1 : d ≤ 18446744073709551615) (h2 : 0 ≤ c) (h3 : c ≤ 18446744073709551615) (h4 : 0 ≤ n) (h5 : n ≤ 1001) :
    Calls Try.prog 23 #[.int .u64 d, .int .u64 c, .int .u64 n] w fun e w' => e = .returned (.bool (timesB d c n)) ∧ w = w' := by
  go_enter Try.func23, Try.ntmps23
  go_wp2_with fail
  go_loop [0, 7] (fun v u => ∃ r i : Int, 0 ≤ i ∧ i ≤ 2 * n ∧ 0 ≤ r ∧ r ≤ 18446744073709551615 ∧ Hid (r + i * c = d) ∧ v = .int .u64 r ∧ u = .int .u64 i) (fun _ u => (2 * n - intOf u).toNat)
  case atStart => exact ⟨d, 0, by omega, by omega, h0, h1, hide (by omega), rfl, rfl⟩
  case round =>
    obtain ⟨r, i, i0, i1, r0, r1, hI, rfl, rfl⟩ := hrel
    by_cases k1 : i < 2 * n
    · by_cases k2 : r < c
      · have hf := hide (times_no k1 h2 k2 hI.out)
        go_wp2_with fail
        go_ret
        exact ⟨ret_bool (by rw [hf.out]), rfl⟩
      · go_wp2_with fail
        go_round
        case rel => exact ⟨r - c, i + 1, by omega, by omega, by omega, by omega, hide (times_step hI.out), rfl, rfl⟩
        case measure => simp [intOf]; omega
    · have hf := hide (times_yes (n := n) (by omega) r0 hI.out)
      go_wp2_with fail
      go_ret
      exact ⟨ret_bool (by rw [hf.out]), rfl⟩

theorem times_at {d c n : Int} (hc : 0 < c) : timesB d c n = decide (n ≤ d / 2 / c) := by
  unfold timesB
  rw [decide_eq_decide, Int.ediv_ediv_of_nonneg (by omega), Int.le_ediv_iff_mul_le (by omega), show n * (2 * c) = 2 * n * c from by rw [← Int.mul_assoc, Int.mul_comm n 2]]

theorem window_mono {d d' c : Int} (hc : 0 < c) (h : d ≤ d') : d / 2 / c ≤ d' / 2 / c := Int.ediv_le_ediv hc (by omega)
theorem window_anti {d c c' : Int} (hd : 0 ≤ d) (hc : 0 < c') (h : c' ≤ c) : d / 2 / c ≤ d / 2 / c' := by
  rw [Int.le_ediv_iff_mul_le hc]
  have h1 : d / 2 / c * c ≤ d / 2 := Int.ediv_mul_le _ (by omega)
  have h2 : 0 ≤ d / 2 / c := Int.ediv_nonneg (by omega) (by omega)
  have h3 : d / 2 / c * c' ≤ d / 2 / c * c := Int.mul_le_mul_of_nonneg_left h h2
  omega
theorem endI_mono {a x y : Int} (h : x ≤ y) : endI a x ≤ endI a y := by unfold endI; omega

set_option maxHeartbeats 8000000 in
theorem weakMeans_walk (d m c l a x y : Int) (w : World) (h0 : 0 ≤ d) (h1 : d ≤ 18446744073709551615) (m0 : 0 ≤ m) (m1 : m ≤ 18446744073709551615) (h2 : 0 ≤ c) (h3 : c ≤ 18446744073709551615) (l0 : 0 ≤ l) (l1 : l ≤ 18446744073709551615)
    (a0 : 0 ≤ a) (a1 : a ≤ 18446744073709551615) (x0 : 0 ≤ x) (x1 : x ≤ 18446744073709551615) (y0 : 0 ≤ y) (y1 : y ≤ 18446744073709551615) :
    Calls Try.prog 7 #[.int .u64 d, .int .u64 m, .int .u64 c, .int .u64 l, .int .u64 a, .int .u64 x, .int .u64 y] w fun e w' => e = .returned (.bool true) ∧ Ext w w' := by
  by_cases k : c = 0
  · subst k
    have e1 : min 0 l = 0 := by omega
    go_enter Try.func7, Try.ntmps7
    go_wp2_with (first | (go_at_call 18; (with_reducible refine (window_no _ _).mono ?_); rintro e w' ⟨rfl, rfl⟩) | (go_at_call 19; (with_reducible refine (num_any _ _).mono ?_); rintro e w' ⟨rfl, rfl⟩) | (go_at_call 20; (with_reducible refine (known16 _).mono ?_); rintro e w' ⟨rfl, hk⟩))
    all_goals (go_ret; exact ⟨rfl, hk⟩)
  have bc : (c == 0) = false := by simpa using k
  have c0 : 0 < c := by omega
  clear k
  obtain ⟨M, eM⟩ : ∃ M, (if d < m then m else d) = M := ⟨_, rfl⟩
  obtain ⟨Z, eZ⟩ : ∃ Z, (if x < y then y else x) = Z := ⟨_, rfl⟩
  have M0 : d ≤ M := by split at eM <;> omega
  have M1 : M ≤ 18446744073709551615 := by split at eM <;> omega
  have Z0 : x ≤ Z := by split at eZ <;> omega
  have W0 : 0 ≤ d / 2 / c := Int.ediv_nonneg (by omega) (by omega)
  have W1 : d / 2 / c ≤ 9223372036854775807 := by have := Int.ediv_le_self c (show 0 ≤ d / 2 by omega); omega
  have X0 : d / 2 / c ≤ M / 2 / c := window_mono c0 M0
  have X1 : M / 2 / c ≤ 9223372036854775807 := by have := Int.ediv_le_self c (show 0 ≤ M / 2 by omega); omega
  have bX : decide (M / 2 / c < d / 2 / c) = false := by simp; omega
  have T1 : timesB d c (d / 2 / c) = true := by rw [times_at c0]; simp
  have T2 : timesB d c (d / 2 / c + 1) = false := by rw [times_at c0]; simp; omega
  have E0 : endI a (d / 2 / c) ≤ endI a (M / 2 / c) := endI_mono X0
  have st : (endI a (d / 2 / c) < x ∧ endI a (M / 2 / c) < x) ∨ (endI a (d / 2 / c) < x ∧ ¬ endI a (M / 2 / c) < x) ∨ (¬ endI a (d / 2 / c) < x ∧ ¬ endI a (M / 2 / c) < x) := by omega
  have sw : 1000 < d / 2 / c ∨ ¬ 1000 < d / 2 / c := by omega
  by_cases kl : l = 0
  · subst kl
    rcases st with ⟨s1, s2⟩ | ⟨s1, s2⟩ | ⟨s1, s2⟩
    · have b1 : decide (endI a (d / 2 / c) < x) = true := by simp; omega
      have b2 : decide (endI a (M / 2 / c) < x) = true := by simp; omega
      have b3 : decide (endI a (d / 2 / c) < Z) = true := by simp; omega
      rcases sw with s0 | s0
      · have b0 : decide (1000 < d / 2 / c) = true := by simp; omega
        go_enter Try.func7, Try.ntmps7; go_wp2_with (first | (go_at_call 18; (with_reducible refine (window_yes _ _ _ (by omega) (by omega) (by omega) (by omega)).mono ?_); rintro e w' ⟨rfl, rfl⟩) | (go_at_call 18; (with_reducible refine (window_no _ _).mono ?_); rintro e w' ⟨rfl, rfl⟩) | (go_at_call 19; (with_reducible refine (num_any _ _).mono ?_); rintro e w' ⟨rfl, rfl⟩) | (go_at_call 22; (with_reducible refine (stale_any _ _ _ _ (by omega) (by omega) (by omega) (by omega)).mono ?_); rintro e w' ⟨rfl, hs⟩) | (go_at_call 23; (with_reducible refine (times_any _ _ _ _ (by omega) (by omega) (by omega) (by omega) (by omega) (by omega)).mono ?_); rintro e w' ⟨rfl, rfl⟩) | (go_at_call 20; (with_reducible refine (known16 _).mono ?_); rintro e w' ⟨rfl, hk⟩))
        all_goals (go_ret; exact ⟨rfl, (by repeat (first | exact Below.refl _ _ | with_reducible assumption | refine Ext.then (by assumption) ?_))⟩)
      · have b0 : decide (1000 < d / 2 / c) = false := by simp; omega
        go_enter Try.func7, Try.ntmps7; go_wp2_with (first | (go_at_call 18; (with_reducible refine (window_yes _ _ _ (by omega) (by omega) (by omega) (by omega)).mono ?_); rintro e w' ⟨rfl, rfl⟩) | (go_at_call 18; (with_reducible refine (window_no _ _).mono ?_); rintro e w' ⟨rfl, rfl⟩) | (go_at_call 19; (with_reducible refine (num_any _ _).mono ?_); rintro e w' ⟨rfl, rfl⟩) | (go_at_call 22; (with_reducible refine (stale_any _ _ _ _ (by omega) (by omega) (by omega) (by omega)).mono ?_); rintro e w' ⟨rfl, hs⟩) | (go_at_call 23; (with_reducible refine (times_any _ _ _ _ (by omega) (by omega) (by omega) (by omega) (by omega) (by omega)).mono ?_); rintro e w' ⟨rfl, rfl⟩) | (go_at_call 20; (with_reducible refine (known16 _).mono ?_); rintro e w' ⟨rfl, hk⟩))
        all_goals (go_ret; exact ⟨rfl, (by repeat (first | exact Below.refl _ _ | with_reducible assumption | refine Ext.then (by assumption) ?_))⟩)
    · have b1 : decide (endI a (d / 2 / c) < x) = true := by simp; omega
      have b2 : decide (endI a (M / 2 / c) < x) = false := by simp; omega
      have b3 : decide (endI a (d / 2 / c) < Z) = true := by simp; omega
      rcases sw with s0 | s0
      · have b0 : decide (1000 < d / 2 / c) = true := by simp; omega
        go_enter Try.func7, Try.ntmps7; go_wp2_with (first | (go_at_call 18; (with_reducible refine (window_yes _ _ _ (by omega) (by omega) (by omega) (by omega)).mono ?_); rintro e w' ⟨rfl, rfl⟩) | (go_at_call 18; (with_reducible refine (window_no _ _).mono ?_); rintro e w' ⟨rfl, rfl⟩) | (go_at_call 19; (with_reducible refine (num_any _ _).mono ?_); rintro e w' ⟨rfl, rfl⟩) | (go_at_call 22; (with_reducible refine (stale_any _ _ _ _ (by omega) (by omega) (by omega) (by omega)).mono ?_); rintro e w' ⟨rfl, hs⟩) | (go_at_call 23; (with_reducible refine (times_any _ _ _ _ (by omega) (by omega) (by omega) (by omega) (by omega) (by omega)).mono ?_); rintro e w' ⟨rfl, rfl⟩) | (go_at_call 20; (with_reducible refine (known16 _).mono ?_); rintro e w' ⟨rfl, hk⟩))
        all_goals (go_ret; exact ⟨rfl, (by repeat (first | exact Below.refl _ _ | with_reducible assumption | refine Ext.then (by assumption) ?_))⟩)
      · have b0 : decide (1000 < d / 2 / c) = false := by simp; omega
        go_enter Try.func7, Try.ntmps7; go_wp2_with (first | (go_at_call 18; (with_reducible refine (window_yes _ _ _ (by omega) (by omega) (by omega) (by omega)).mono ?_); rintro e w' ⟨rfl, rfl⟩) | (go_at_call 18; (with_reducible refine (window_no _ _).mono ?_); rintro e w' ⟨rfl, rfl⟩) | (go_at_call 19; (with_reducible refine (num_any _ _).mono ?_); rintro e w' ⟨rfl, rfl⟩) | (go_at_call 22; (with_reducible refine (stale_any _ _ _ _ (by omega) (by omega) (by omega) (by omega)).mono ?_); rintro e w' ⟨rfl, hs⟩) | (go_at_call 23; (with_reducible refine (times_any _ _ _ _ (by omega) (by omega) (by omega) (by omega) (by omega) (by omega)).mono ?_); rintro e w' ⟨rfl, rfl⟩) | (go_at_call 20; (with_reducible refine (known16 _).mono ?_); rintro e w' ⟨rfl, hk⟩))
        all_goals (go_ret; exact ⟨rfl, (by repeat (first | exact Below.refl _ _ | with_reducible assumption | refine Ext.then (by assumption) ?_))⟩)
    · have b1 : decide (endI a (d / 2 / c) < x) = false := by simp; omega
      have b2 : decide (endI a (M / 2 / c) < x) = false := by simp; omega
      rcases sw with s0 | s0
      · have b0 : decide (1000 < d / 2 / c) = true := by simp; omega
        go_enter Try.func7, Try.ntmps7; go_wp2_with (first | (go_at_call 18; (with_reducible refine (window_yes _ _ _ (by omega) (by omega) (by omega) (by omega)).mono ?_); rintro e w' ⟨rfl, rfl⟩) | (go_at_call 18; (with_reducible refine (window_no _ _).mono ?_); rintro e w' ⟨rfl, rfl⟩) | (go_at_call 19; (with_reducible refine (num_any _ _).mono ?_); rintro e w' ⟨rfl, rfl⟩) | (go_at_call 22; (with_reducible refine (stale_any _ _ _ _ (by omega) (by omega) (by omega) (by omega)).mono ?_); rintro e w' ⟨rfl, hs⟩) | (go_at_call 23; (with_reducible refine (times_any _ _ _ _ (by omega) (by omega) (by omega) (by omega) (by omega) (by omega)).mono ?_); rintro e w' ⟨rfl, rfl⟩) | (go_at_call 20; (with_reducible refine (known16 _).mono ?_); rintro e w' ⟨rfl, hk⟩))
        all_goals (go_ret; exact ⟨rfl, (by repeat (first | exact Below.refl _ _ | with_reducible assumption | refine Ext.then (by assumption) ?_))⟩)
      · have b0 : decide (1000 < d / 2 / c) = false := by simp; omega
        go_enter Try.func7, Try.ntmps7; go_wp2_with (first | (go_at_call 18; (with_reducible refine (window_yes _ _ _ (by omega) (by omega) (by omega) (by omega)).mono ?_); rintro e w' ⟨rfl, rfl⟩) | (go_at_call 18; (with_reducible refine (window_no _ _).mono ?_); rintro e w' ⟨rfl, rfl⟩) | (go_at_call 19; (with_reducible refine (num_any _ _).mono ?_); rintro e w' ⟨rfl, rfl⟩) | (go_at_call 22; (with_reducible refine (stale_any _ _ _ _ (by omega) (by omega) (by omega) (by omega)).mono ?_); rintro e w' ⟨rfl, hs⟩) | (go_at_call 23; (with_reducible refine (times_any _ _ _ _ (by omega) (by omega) (by omega) (by omega) (by omega) (by omega)).mono ?_); rintro e w' ⟨rfl, rfl⟩) | (go_at_call 20; (with_reducible refine (known16 _).mono ?_); rintro e w' ⟨rfl, hk⟩))
        all_goals (go_ret; exact ⟨rfl, (by repeat (first | exact Below.refl _ _ | with_reducible assumption | refine Ext.then (by assumption) ?_))⟩)
  · by_cases kl2 : l < c
    · have Y0 : d / 2 / c ≤ d / 2 / l := window_anti h0 (by omega) (by omega)
      have bY : decide (d / 2 / l < d / 2 / c) = false := by simp; omega
      rcases st with ⟨s1, s2⟩ | ⟨s1, s2⟩ | ⟨s1, s2⟩
      · have b1 : decide (endI a (d / 2 / c) < x) = true := by simp; omega
        have b2 : decide (endI a (M / 2 / c) < x) = true := by simp; omega
        have b3 : decide (endI a (d / 2 / c) < Z) = true := by simp; omega
        rcases sw with s0 | s0
        · have b0 : decide (1000 < d / 2 / c) = true := by simp; omega
          go_enter Try.func7, Try.ntmps7; go_wp2_with (first | (go_at_call 18; (with_reducible refine (window_yes _ _ _ (by omega) (by omega) (by omega) (by omega)).mono ?_); rintro e w' ⟨rfl, rfl⟩) | (go_at_call 18; (with_reducible refine (window_no _ _).mono ?_); rintro e w' ⟨rfl, rfl⟩) | (go_at_call 19; (with_reducible refine (num_any _ _).mono ?_); rintro e w' ⟨rfl, rfl⟩) | (go_at_call 22; (with_reducible refine (stale_any _ _ _ _ (by omega) (by omega) (by omega) (by omega)).mono ?_); rintro e w' ⟨rfl, hs⟩) | (go_at_call 23; (with_reducible refine (times_any _ _ _ _ (by omega) (by omega) (by omega) (by omega) (by omega) (by omega)).mono ?_); rintro e w' ⟨rfl, rfl⟩) | (go_at_call 20; (with_reducible refine (known16 _).mono ?_); rintro e w' ⟨rfl, hk⟩))
          all_goals (go_ret; exact ⟨rfl, (by repeat (first | exact Below.refl _ _ | with_reducible assumption | refine Ext.then (by assumption) ?_))⟩)
        · have b0 : decide (1000 < d / 2 / c) = false := by simp; omega
          go_enter Try.func7, Try.ntmps7; go_wp2_with (first | (go_at_call 18; (with_reducible refine (window_yes _ _ _ (by omega) (by omega) (by omega) (by omega)).mono ?_); rintro e w' ⟨rfl, rfl⟩) | (go_at_call 18; (with_reducible refine (window_no _ _).mono ?_); rintro e w' ⟨rfl, rfl⟩) | (go_at_call 19; (with_reducible refine (num_any _ _).mono ?_); rintro e w' ⟨rfl, rfl⟩) | (go_at_call 22; (with_reducible refine (stale_any _ _ _ _ (by omega) (by omega) (by omega) (by omega)).mono ?_); rintro e w' ⟨rfl, hs⟩) | (go_at_call 23; (with_reducible refine (times_any _ _ _ _ (by omega) (by omega) (by omega) (by omega) (by omega) (by omega)).mono ?_); rintro e w' ⟨rfl, rfl⟩) | (go_at_call 20; (with_reducible refine (known16 _).mono ?_); rintro e w' ⟨rfl, hk⟩))
          all_goals (go_ret; exact ⟨rfl, (by repeat (first | exact Below.refl _ _ | with_reducible assumption | refine Ext.then (by assumption) ?_))⟩)
      · have b1 : decide (endI a (d / 2 / c) < x) = true := by simp; omega
        have b2 : decide (endI a (M / 2 / c) < x) = false := by simp; omega
        have b3 : decide (endI a (d / 2 / c) < Z) = true := by simp; omega
        rcases sw with s0 | s0
        · have b0 : decide (1000 < d / 2 / c) = true := by simp; omega
          go_enter Try.func7, Try.ntmps7; go_wp2_with (first | (go_at_call 18; (with_reducible refine (window_yes _ _ _ (by omega) (by omega) (by omega) (by omega)).mono ?_); rintro e w' ⟨rfl, rfl⟩) | (go_at_call 18; (with_reducible refine (window_no _ _).mono ?_); rintro e w' ⟨rfl, rfl⟩) | (go_at_call 19; (with_reducible refine (num_any _ _).mono ?_); rintro e w' ⟨rfl, rfl⟩) | (go_at_call 22; (with_reducible refine (stale_any _ _ _ _ (by omega) (by omega) (by omega) (by omega)).mono ?_); rintro e w' ⟨rfl, hs⟩) | (go_at_call 23; (with_reducible refine (times_any _ _ _ _ (by omega) (by omega) (by omega) (by omega) (by omega) (by omega)).mono ?_); rintro e w' ⟨rfl, rfl⟩) | (go_at_call 20; (with_reducible refine (known16 _).mono ?_); rintro e w' ⟨rfl, hk⟩))
          all_goals (go_ret; exact ⟨rfl, (by repeat (first | exact Below.refl _ _ | with_reducible assumption | refine Ext.then (by assumption) ?_))⟩)
        · have b0 : decide (1000 < d / 2 / c) = false := by simp; omega
          go_enter Try.func7, Try.ntmps7; go_wp2_with (first | (go_at_call 18; (with_reducible refine (window_yes _ _ _ (by omega) (by omega) (by omega) (by omega)).mono ?_); rintro e w' ⟨rfl, rfl⟩) | (go_at_call 18; (with_reducible refine (window_no _ _).mono ?_); rintro e w' ⟨rfl, rfl⟩) | (go_at_call 19; (with_reducible refine (num_any _ _).mono ?_); rintro e w' ⟨rfl, rfl⟩) | (go_at_call 22; (with_reducible refine (stale_any _ _ _ _ (by omega) (by omega) (by omega) (by omega)).mono ?_); rintro e w' ⟨rfl, hs⟩) | (go_at_call 23; (with_reducible refine (times_any _ _ _ _ (by omega) (by omega) (by omega) (by omega) (by omega) (by omega)).mono ?_); rintro e w' ⟨rfl, rfl⟩) | (go_at_call 20; (with_reducible refine (known16 _).mono ?_); rintro e w' ⟨rfl, hk⟩))
          all_goals (go_ret; exact ⟨rfl, (by repeat (first | exact Below.refl _ _ | with_reducible assumption | refine Ext.then (by assumption) ?_))⟩)
      · have b1 : decide (endI a (d / 2 / c) < x) = false := by simp; omega
        have b2 : decide (endI a (M / 2 / c) < x) = false := by simp; omega
        rcases sw with s0 | s0
        · have b0 : decide (1000 < d / 2 / c) = true := by simp; omega
          go_enter Try.func7, Try.ntmps7; go_wp2_with (first | (go_at_call 18; (with_reducible refine (window_yes _ _ _ (by omega) (by omega) (by omega) (by omega)).mono ?_); rintro e w' ⟨rfl, rfl⟩) | (go_at_call 18; (with_reducible refine (window_no _ _).mono ?_); rintro e w' ⟨rfl, rfl⟩) | (go_at_call 19; (with_reducible refine (num_any _ _).mono ?_); rintro e w' ⟨rfl, rfl⟩) | (go_at_call 22; (with_reducible refine (stale_any _ _ _ _ (by omega) (by omega) (by omega) (by omega)).mono ?_); rintro e w' ⟨rfl, hs⟩) | (go_at_call 23; (with_reducible refine (times_any _ _ _ _ (by omega) (by omega) (by omega) (by omega) (by omega) (by omega)).mono ?_); rintro e w' ⟨rfl, rfl⟩) | (go_at_call 20; (with_reducible refine (known16 _).mono ?_); rintro e w' ⟨rfl, hk⟩))
          all_goals (go_ret; exact ⟨rfl, (by repeat (first | exact Below.refl _ _ | with_reducible assumption | refine Ext.then (by assumption) ?_))⟩)
        · have b0 : decide (1000 < d / 2 / c) = false := by simp; omega
          go_enter Try.func7, Try.ntmps7; go_wp2_with (first | (go_at_call 18; (with_reducible refine (window_yes _ _ _ (by omega) (by omega) (by omega) (by omega)).mono ?_); rintro e w' ⟨rfl, rfl⟩) | (go_at_call 18; (with_reducible refine (window_no _ _).mono ?_); rintro e w' ⟨rfl, rfl⟩) | (go_at_call 19; (with_reducible refine (num_any _ _).mono ?_); rintro e w' ⟨rfl, rfl⟩) | (go_at_call 22; (with_reducible refine (stale_any _ _ _ _ (by omega) (by omega) (by omega) (by omega)).mono ?_); rintro e w' ⟨rfl, hs⟩) | (go_at_call 23; (with_reducible refine (times_any _ _ _ _ (by omega) (by omega) (by omega) (by omega) (by omega) (by omega)).mono ?_); rintro e w' ⟨rfl, rfl⟩) | (go_at_call 20; (with_reducible refine (known16 _).mono ?_); rintro e w' ⟨rfl, hk⟩))
          all_goals (go_ret; exact ⟨rfl, (by repeat (first | exact Below.refl _ _ | with_reducible assumption | refine Ext.then (by assumption) ?_))⟩)
    · have kl3 : c ≤ l := by omega
      rcases st with ⟨s1, s2⟩ | ⟨s1, s2⟩ | ⟨s1, s2⟩
      · have b1 : decide (endI a (d / 2 / c) < x) = true := by simp; omega
        have b2 : decide (endI a (M / 2 / c) < x) = true := by simp; omega
        have b3 : decide (endI a (d / 2 / c) < Z) = true := by simp; omega
        rcases sw with s0 | s0
        · have b0 : decide (1000 < d / 2 / c) = true := by simp; omega
          go_enter Try.func7, Try.ntmps7; go_wp2_with (first | (go_at_call 18; (with_reducible refine (window_yes _ _ _ (by omega) (by omega) (by omega) (by omega)).mono ?_); rintro e w' ⟨rfl, rfl⟩) | (go_at_call 18; (with_reducible refine (window_no _ _).mono ?_); rintro e w' ⟨rfl, rfl⟩) | (go_at_call 19; (with_reducible refine (num_any _ _).mono ?_); rintro e w' ⟨rfl, rfl⟩) | (go_at_call 22; (with_reducible refine (stale_any _ _ _ _ (by omega) (by omega) (by omega) (by omega)).mono ?_); rintro e w' ⟨rfl, hs⟩) | (go_at_call 23; (with_reducible refine (times_any _ _ _ _ (by omega) (by omega) (by omega) (by omega) (by omega) (by omega)).mono ?_); rintro e w' ⟨rfl, rfl⟩) | (go_at_call 20; (with_reducible refine (known16 _).mono ?_); rintro e w' ⟨rfl, hk⟩))
          all_goals (go_ret; exact ⟨rfl, (by repeat (first | exact Below.refl _ _ | with_reducible assumption | refine Ext.then (by assumption) ?_))⟩)
        · have b0 : decide (1000 < d / 2 / c) = false := by simp; omega
          go_enter Try.func7, Try.ntmps7; go_wp2_with (first | (go_at_call 18; (with_reducible refine (window_yes _ _ _ (by omega) (by omega) (by omega) (by omega)).mono ?_); rintro e w' ⟨rfl, rfl⟩) | (go_at_call 18; (with_reducible refine (window_no _ _).mono ?_); rintro e w' ⟨rfl, rfl⟩) | (go_at_call 19; (with_reducible refine (num_any _ _).mono ?_); rintro e w' ⟨rfl, rfl⟩) | (go_at_call 22; (with_reducible refine (stale_any _ _ _ _ (by omega) (by omega) (by omega) (by omega)).mono ?_); rintro e w' ⟨rfl, hs⟩) | (go_at_call 23; (with_reducible refine (times_any _ _ _ _ (by omega) (by omega) (by omega) (by omega) (by omega) (by omega)).mono ?_); rintro e w' ⟨rfl, rfl⟩) | (go_at_call 20; (with_reducible refine (known16 _).mono ?_); rintro e w' ⟨rfl, hk⟩))
          all_goals (go_ret; exact ⟨rfl, (by repeat (first | exact Below.refl _ _ | with_reducible assumption | refine Ext.then (by assumption) ?_))⟩)
      · have b1 : decide (endI a (d / 2 / c) < x) = true := by simp; omega
        have b2 : decide (endI a (M / 2 / c) < x) = false := by simp; omega
        have b3 : decide (endI a (d / 2 / c) < Z) = true := by simp; omega
        rcases sw with s0 | s0
        · have b0 : decide (1000 < d / 2 / c) = true := by simp; omega
          go_enter Try.func7, Try.ntmps7; go_wp2_with (first | (go_at_call 18; (with_reducible refine (window_yes _ _ _ (by omega) (by omega) (by omega) (by omega)).mono ?_); rintro e w' ⟨rfl, rfl⟩) | (go_at_call 18; (with_reducible refine (window_no _ _).mono ?_); rintro e w' ⟨rfl, rfl⟩) | (go_at_call 19; (with_reducible refine (num_any _ _).mono ?_); rintro e w' ⟨rfl, rfl⟩) | (go_at_call 22; (with_reducible refine (stale_any _ _ _ _ (by omega) (by omega) (by omega) (by omega)).mono ?_); rintro e w' ⟨rfl, hs⟩) | (go_at_call 23; (with_reducible refine (times_any _ _ _ _ (by omega) (by omega) (by omega) (by omega) (by omega) (by omega)).mono ?_); rintro e w' ⟨rfl, rfl⟩) | (go_at_call 20; (with_reducible refine (known16 _).mono ?_); rintro e w' ⟨rfl, hk⟩))
          all_goals (go_ret; exact ⟨rfl, (by repeat (first | exact Below.refl _ _ | with_reducible assumption | refine Ext.then (by assumption) ?_))⟩)
        · have b0 : decide (1000 < d / 2 / c) = false := by simp; omega
          go_enter Try.func7, Try.ntmps7; go_wp2_with (first | (go_at_call 18; (with_reducible refine (window_yes _ _ _ (by omega) (by omega) (by omega) (by omega)).mono ?_); rintro e w' ⟨rfl, rfl⟩) | (go_at_call 18; (with_reducible refine (window_no _ _).mono ?_); rintro e w' ⟨rfl, rfl⟩) | (go_at_call 19; (with_reducible refine (num_any _ _).mono ?_); rintro e w' ⟨rfl, rfl⟩) | (go_at_call 22; (with_reducible refine (stale_any _ _ _ _ (by omega) (by omega) (by omega) (by omega)).mono ?_); rintro e w' ⟨rfl, hs⟩) | (go_at_call 23; (with_reducible refine (times_any _ _ _ _ (by omega) (by omega) (by omega) (by omega) (by omega) (by omega)).mono ?_); rintro e w' ⟨rfl, rfl⟩) | (go_at_call 20; (with_reducible refine (known16 _).mono ?_); rintro e w' ⟨rfl, hk⟩))
          all_goals (go_ret; exact ⟨rfl, (by repeat (first | exact Below.refl _ _ | with_reducible assumption | refine Ext.then (by assumption) ?_))⟩)
      · have b1 : decide (endI a (d / 2 / c) < x) = false := by simp; omega
        have b2 : decide (endI a (M / 2 / c) < x) = false := by simp; omega
        rcases sw with s0 | s0
        · have b0 : decide (1000 < d / 2 / c) = true := by simp; omega
          go_enter Try.func7, Try.ntmps7; go_wp2_with (first | (go_at_call 18; (with_reducible refine (window_yes _ _ _ (by omega) (by omega) (by omega) (by omega)).mono ?_); rintro e w' ⟨rfl, rfl⟩) | (go_at_call 18; (with_reducible refine (window_no _ _).mono ?_); rintro e w' ⟨rfl, rfl⟩) | (go_at_call 19; (with_reducible refine (num_any _ _).mono ?_); rintro e w' ⟨rfl, rfl⟩) | (go_at_call 22; (with_reducible refine (stale_any _ _ _ _ (by omega) (by omega) (by omega) (by omega)).mono ?_); rintro e w' ⟨rfl, hs⟩) | (go_at_call 23; (with_reducible refine (times_any _ _ _ _ (by omega) (by omega) (by omega) (by omega) (by omega) (by omega)).mono ?_); rintro e w' ⟨rfl, rfl⟩) | (go_at_call 20; (with_reducible refine (known16 _).mono ?_); rintro e w' ⟨rfl, hk⟩))
          all_goals (go_ret; exact ⟨rfl, (by repeat (first | exact Below.refl _ _ | with_reducible assumption | refine Ext.then (by assumption) ?_))⟩)
        · have b0 : decide (1000 < d / 2 / c) = false := by simp; omega
          go_enter Try.func7, Try.ntmps7; go_wp2_with (first | (go_at_call 18; (with_reducible refine (window_yes _ _ _ (by omega) (by omega) (by omega) (by omega)).mono ?_); rintro e w' ⟨rfl, rfl⟩) | (go_at_call 18; (with_reducible refine (window_no _ _).mono ?_); rintro e w' ⟨rfl, rfl⟩) | (go_at_call 19; (with_reducible refine (num_any _ _).mono ?_); rintro e w' ⟨rfl, rfl⟩) | (go_at_call 22; (with_reducible refine (stale_any _ _ _ _ (by omega) (by omega) (by omega) (by omega)).mono ?_); rintro e w' ⟨rfl, hs⟩) | (go_at_call 23; (with_reducible refine (times_any _ _ _ _ (by omega) (by omega) (by omega) (by omega) (by omega) (by omega)).mono ?_); rintro e w' ⟨rfl, rfl⟩) | (go_at_call 20; (with_reducible refine (known16 _).mono ?_); rintro e w' ⟨rfl, hk⟩))
          all_goals (go_ret; exact ⟨rfl, (by repeat (first | exact Below.refl _ _ | with_reducible assumption | refine Ext.then (by assumption) ?_))⟩)
end Go.Proofs.Ytcbhpmpjabbniaa
