/- The walk of the law on who is named: of any votes, any order. -/
import Derived.Test.YtgeijcielakeeaaSnamW
namespace Go.Proofs.Ytgeijcielakeeaa
open Go.RowKit
set_option linter.unusedVariables false
set_option linter.unusedSimpArgs false
set_option maxRecDepth 100000
theorem find_0 (a : Option Addr) (cap : Nat) (w : World) : Calls Try.prog 6 #[.slice a 0 cap] w fun r w' => (∃ ag cg, r = .returned (.slice ag 0 cg)) ∧ Ext w w' := by
  refine (find_m a 0 cap 0 (fun _ => ⟨⟨0, 0, zeros 32, 0, zeros 32, none, 0, 0⟩, zeros 32, 0⟩) (fun _ => []) w [] rfl rfl (by omega) (by omega) (fun h => absurd h (by omega)) (fun i hi => absurd hi (by omega)) (fun i hi => absurd hi (by omega))).mono fun r w' h => ?_
  obtain ⟨⟨ag, cg, es, hr, _⟩, hx⟩ := h
  exact ⟨⟨ag, cg, hr⟩, hx⟩
theorem named_0 (a : Option Addr) (cap : Nat) (w : World) : Calls Try.prog 8 #[.slice a 0 cap] w fun r w' => (∃ ag cg, r = .returned (.slice ag 0 cg)) ∧ Ext w w' := by
  refine (named_any a 0 cap (fun _ => ev0) w (by omega) (fun h => absurd h (by omega))).mono fun r w' h => ?_
  obtain ⟨⟨v, hr, hown⟩, hx⟩ := h
  obtain ⟨an, cn, rfl, _⟩ := own_hashes _ hown
  exact ⟨⟨an, cn, hr⟩, hx⟩
set_option maxHeartbeats 16000000 in
theorem slashNames_none (a b : Option Addr) (cap q capb : Nat) (w : World) (hq80 : q ≤ 80) :
    Calls Try.prog 4 #[.slice a 0 cap, .slice b q capb] w fun r w' => r = .returned (.bool true) ∧ Ext w w' := by
  have hd2 : decide ((80 : Int) < q) = false := decide_eq_false (by omega)
  have hF := hide find_0
  have hN := hide named_0
  go_enter Try.func4, Try.ntmps4
  go_wp2_with fail
  go_loopw [5] (fun s5 wr => s5 = .int .i64 0 ∧ wr = w) (fun _ _ => 0)
  case atStart => exact ⟨rfl, rfl⟩
  case round =>
    obtain ⟨rfl, rfl⟩ := hrel
    go_wp2_with fail
    go_loopw [6, 7] (fun s6 s7 w1 => s6 = .slice none 0 0 ∧ s7 = .int .i64 0 ∧ w1 = wr) (fun _ _ _ => 0)
    case atStart => exact ⟨rfl, rfl, rfl⟩
    case round =>
      obtain ⟨rfl, rfl, hw⟩ := hrel
      subst hw
      by_cases hq : 0 < q
      all_goals
        (first | have hd3 : decide ((0 : Int) < q) = true := decide_eq_true (by omega) | have hd3 : decide ((0 : Int) < q) = false := decide_eq_false (by omega))
        (first | have hd4 : (0 : Int) < q := by omega | have hd4 : ¬ (0 : Int) < q := by omega)
        go_wp2_with fail
        go_loopw [6, 8] (fun s6 s8 w1 => s6 = .slice none 0 0 ∧ s8 = .int .i64 (-1) ∧ w1 = wr) (fun _ _ _ => 0)
        case atStart => exact ⟨rfl, rfl, rfl⟩
        case round =>
          obtain ⟨rfl, rfl, hw⟩ := hrel
          subst hw
          go_wp2_with (first
            | (go_at_call 6; (with_reducible refine (hF.out a cap _).mono ?_); rintro r w1 ⟨⟨ag, cg, rfl⟩, hx1⟩)
            | (go_at_call 8; (with_reducible refine (hN.out ag cg _).mono ?_); rintro r w2 ⟨⟨an, cn, rfl⟩, hx2⟩)
            | (go_at_call 6; (with_reducible refine (hF.out none 0 _).mono ?_); rintro r w3 ⟨⟨ag3, cg3, rfl⟩, hx3⟩)
            | (go_at_call 8; (with_reducible refine (hN.out ag3 cg3 _).mono ?_); rintro r w4 ⟨⟨an4, cn4, rfl⟩, hx4⟩))
          obtain ⟨W, hW⟩ : ∃ W, W = w4 := ⟨_, rfl⟩
          rw [← hW]
          go_loopw [11] (fun s11 w1 => s11 = .int .i64 0 ∧ w1 = W) (fun _ _ => 0)
          case atStart => exact ⟨rfl, rfl⟩
          case round =>
            obtain ⟨rfl, hw⟩ := hrel
            rw [hw, hW]
            go_wp2_with (go_at_call 5; (with_reducible refine (known14 _).mono ?_); rintro r wk ⟨rfl, hxk⟩)
            go_ret
            exact ⟨rfl, hx1.then (hx2.then (hx3.then (hx4.then hxk)))⟩
set_option maxHeartbeats 4000000 in
theorem slashNames_walk (a b : Option Addr) (n cap q capb : Nat) (L : Nat → Sg) (C : Nat → List UInt8) (E : Nat → Int) (w : World) (hcap : n ≤ cap) (hL : SignedIn w a n L) (hC : ∀ i, i < n → SigIn w (L i).v (C i)) (hqb : q ≤ capb) (hnilb : b = none → q = 0) (hE : ∀ ad, b = some ad → ∀ i, i < q → w.cell? (ad.add i) = some (.int .i64 (E i))) :
    Calls Try.prog 4 #[.slice a n cap, .slice b q capb] w fun r w' => r = .returned (.bool true) ∧ Ext w w' := by
  by_cases h40 : 40 < n
  · have hd : decide ((40 : Int) < n) = true := decide_eq_true (by omega)
    have hd' : (40 : Int) < n := by omega
    go_enter Try.func4, Try.ntmps4
    go_wp2_with (go_at_call 5; (with_reducible refine (known14 _).mono ?_); rintro r wk ⟨rfl, hxk⟩)
    go_ret
    exact ⟨rfl, hxk⟩
  · by_cases h80 : 80 < q
    · have hd : decide ((40 : Int) < n) = false := decide_eq_false (by omega)
      have hd' : ¬ (40 : Int) < n := by omega
      have hd2 : decide ((80 : Int) < q) = true := decide_eq_true (by omega)
      have hd2' : (80 : Int) < q := by omega
      go_enter Try.func4, Try.ntmps4
      go_wp2_with (go_at_call 5; (with_reducible refine (known14 _).mono ?_); rintro r wk ⟨rfl, hxk⟩)
      go_ret
      exact ⟨rfl, hxk⟩
    · rcases Nat.eq_zero_or_pos n with h0 | h0
      · subst h0
        exact slashNames_none a b cap q capb w (by omega)
      · exact slashNames_main a b n cap q capb L C E w h0 (by omega) (by omega) hcap hL hC hqb hnilb hE
end Go.Proofs.Ytgeijcielakeeaa
