/- slices.IndexFunc with the closure of slash.Find. -/
import Derived.Test.YtgeijcielakeeaaFindF
namespace Go.Proofs.Ytgeijcielakeeaa
open Go.RowKit
set_option linter.unusedVariables false
set_option linter.unusedSimpArgs false
set_option maxRecDepth 100000

/-- The first place below n where P holds, or -1. -/
def firstI (P : Nat → Bool) (n : Nat) : Int := match (List.range n).find? P with | some i => (i : Int) | none => -1
theorem firstI_hit {P : Nat → Bool} {n k : Nat} (hk : k < n) (h : P k = true) (ha : ∀ j, j < k → P j = false) : firstI P n = k := by
  have : (List.range n).find? P = some k := by
    rw [List.find?_range_eq_some]
    exact ⟨h, by simpa using hk, fun j hj => by simp [ha j hj]⟩
  simp [firstI, this]
theorem firstI_none {P : Nat → Bool} {n : Nat} (ha : ∀ j, j < n → P j = false) : firstI P n = -1 := by
  have : (List.range n).find? P = none := by
    rw [List.find?_range_eq_none]
    exact fun j hj => by simp [ha j hj]
  simp [firstI, this]
attribute [local go_sem ↓] loadCells_blk
attribute [local go_sem] rowAt_new rowAt_old rowAt_drew size_sgCells sg_whole
set_option maxHeartbeats 4000000 in
theorem indexF_any (x : Sg) (g : Nat) (a : Option Addr) (n cap : Nat) (L : Nat → Sg) (w : World) (hn : n ≤ 1000) (hx0 : rowAt w g 0 101 = some (sgCells x)) (hL : SignedIn w a n L) :
    Calls Try.prog 13 #[.slice a n cap, .func (.func 14) #[] #[.pointer (some ⟨g, 0, none⟩)]] w fun r w' => r = .returned (.int .i64 (firstI (fun i => hitB x (L i)) n)) ∧ Ext w w' := by
  go_enter Try.func13, Try.ntmps13
  go_wp2_with fail
  go_loopw [5, 8] (fun s5 s8 wr => ∃ k : Nat, k ≤ n ∧ s8 = .int .i64 k ∧ (∀ j, j < k → hitB x (L j) = false) ∧ Ext w wr) (fun _ s _ => (n - intOf s).toNat)
  case atStart => exact ⟨0, by omega, rfl, fun j hj => absurd hj (by omega), Below.refl _ _⟩
  case round =>
    obtain ⟨k, hk, rfl, hA, hx⟩ := hrel
    obtain ⟨w2, rfl⟩ : ∃ v, v = wr := ⟨_, rfl⟩
    by_cases hlt : k < n
    · have hlt' : (k : Int) < n := by omega
      have hk0 : (0 : Int) ≤ k := by omega
      obtain ⟨ad, rfl, hc⟩ := hL (by omega)
      have hld := load_cells ((hc k hlt).ext hx) (size_sgCells _)
      have rx := rowAt_ext hx hx0
      cases hq : hitB x (L k)
      · go_wp2_with (go_at_call 14; (with_reducible refine (findF_any x (L k) g _ rx).mono ?_); rw [hq]; rintro e w3 ⟨rfl, hb⟩)
        go_roundw
        case rel => exact ⟨k + 1, by omega, by go_num, fun j hj => by
          by_cases e : j = k
          · subst e; exact hq
          · exact hA j (by omega), hx.then hb⟩
        case measure => simp [intOf]; omega
      · go_wp2_with (go_at_call 14; (with_reducible refine (findF_any x (L k) g _ rx).mono ?_); rw [hq]; rintro e w3 ⟨rfl, hb⟩)
        go_ret
        exact ⟨by rw [firstI_hit hlt hq hA]; rfl, hx.then hb⟩
    · obtain rfl : k = n := by omega
      have hlt' : ¬ (k : Int) < k := by omega
      go_wp2_with fail
      go_ret
      exact ⟨by rw [firstI_none hA]; rfl, hx⟩
end Go.Proofs.Ytgeijcielakeeaa
