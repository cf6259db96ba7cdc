/- The walks of the reference's May and of sameHashes. -/
import Derived.Test.YtldcaoclimcahaaTreeQ
import Derived.BigQuiet
import Derived.Deep.QuietTactic
namespace Go.Proofs.Ytldcaoclimcahaa
open Go.RowKit
set_option linter.unusedVariables false
set_option linter.unusedSimpArgs false

theorem may_of : ∀ t : Fin 9, mayN (p2 t.val) = true := by decide +kernel
theorem p2_ge9 : ∀ t : Fin 10, 9 ≤ t.val → 256 < p2 t.val := by decide +kernel
theorem p2_le9 (t : Nat) (h : t ≤ 9) : p2 t ≤ 512 := by
  have : 2 ^ t ≤ 2 ^ 9 := Nat.pow_le_pow_right (by omega) h
  exact this
set_option maxHeartbeats 2000000 in
theorem refMay_any (n : Nat) (w : World) : Calls Try.prog 32 #[.int .i64 (n : Int)] w fun r w' => r = .returned (.bool (mayN n)) ∧ w' = w := by
  go_enter Try.func32, Try.ntmps32
  go_wp2_with fail
  go_loop [3] (fun s3 => ∃ j : Nat, j ≤ 9 ∧ s3 = .int .i64 (p2 j : Int) ∧ ∀ t, t < j → n ≠ p2 t) (fun s => (1024 - intOf s).toNat)
  case atStart => exact ⟨0, by omega, rfl, fun t ht => absurd ht (by omega)⟩
  case round =>
    obtain ⟨j, hj, rfl, hne⟩ := hrel
    have hp9 := p2_le9 j hj
    have hpp := p2_pos j
    by_cases h256 : p2 j ≤ 256
    · have h256' : (p2 j : Int) ≤ 256 := by omega
      have hj9 : j < 9 := by
        rcases Nat.lt_or_ge j 9 with h | h
        · exact h
        · have := p2_ge9 ⟨j, by omega⟩ h
          simp only at this
          omega
      by_cases heq : n = p2 j
      · have hm := may_of ⟨j, hj9⟩
        simp only at hm
        rw [← heq] at hm
        have heq' : (n : Int) = (p2 j : Int) := by omega
        have hr : Ending.returned (.bool true) = Ending.returned (.bool (mayN n)) := by rw [hm]
        replace hr := hide hr
        clear hm
        rw [← heq]
        replace heq := hide heq
        go_wp2_with fail
        go_ret
        exact ⟨hr.out, rfl⟩
      · have heq' : ¬ (n : Int) = (p2 j : Int) := by omega
        have hps := p2_succ j
        have hp10 := p2_le9 (j + 1) (by omega)
        have e1 : IntKind.i64.wrap (2 * (p2 j : Int)) = p2 (j + 1) := by rw [IntKind.wrap_i64]; omega
        have e2 : 2 * (p2 j : Int) = p2 (j + 1) := by omega
        replace hps := hide hps
        replace hne := hide hne
        go_wp2_with fail
        refine ⟨⟨j + 1, by omega, rfl, fun t ht => ?_⟩, ?_⟩
        · by_cases htj : t = j
          · rw [htj]; exact heq
          · exact hne.out t (by omega)
        · have := hps.out; simp [intOf]; omega
    · have h256' : ¬ (p2 j : Int) ≤ 256 := by omega
      have hj9 : j = 9 := by
        rcases Nat.lt_or_ge j 9 with h | h
        · exact absurd (p2_le j (by omega)) h256
        · omega
      have hm : mayN n = false := by
        cases h : mayN n
        · rfl
        · obtain ⟨t, ht, e⟩ := may_p2 n h
          exact absurd e (hne t (by omega))
      replace hm := hide hm
      replace hne := hide hne
      go_wp2_with fail
      go_ret
      exact ⟨by rw [hm.out]; rfl, rfl⟩
attribute [local go_sem ↓] loadCells_blk equal_hash
attribute [local go_sem] run_blkLoad rowAt_drew rowAt_drewN bsEq_self
set_option maxHeartbeats 4000000 in
set_option maxRecDepth 100000 in
/-- Two slices of the same hashes are the same. -/
theorem same_any (a b : Option Addr) (n ca cb : Nat) (F : Nat → Bs 32) (w : World) (hca : n ≤ ca) (hcb : n ≤ cb) (hma : ca ≤ maxLen) (hmb : cb ≤ maxLen) (hn : n ≤ 1000) (ha : HashesIn w a n F) (hb : HashesIn w b n F) :
    Calls Try.prog 36 #[.slice a n ca, .slice b n cb] w fun r w' => r = .returned (.bool true) ∧ Ext w w' := by
  go_enter Try.func36, Try.ntmps36
  go_wp2_with fail
  go_loopw [5] (fun s5 wr => ∃ (i m : Nat), i ≤ n ∧ s5 = .int .i64 i ∧ wr = w.drewN m) (fun s _ => (n - intOf s).toNat)
  case atStart => exact ⟨0, 0, by omega, rfl, rfl⟩
  case round =>
    obtain ⟨i, m, hi, rfl, hw⟩ := hrel
    obtain ⟨w2, rfl⟩ : ∃ w2, w2 = wr := ⟨_, rfl⟩
    have hx : Ext w w2 := hw ▸ ext_drewN w m
    replace hw := hide hw
    by_cases hlt : i < n
    · have hlt' : (i : Int) < n := by omega
      have hi0 : (0 : Int) ≤ i := by omega
      obtain ⟨aa, rfl, ea⟩ := ha (by omega)
      obtain ⟨ab, rfl, eb⟩ := hb (by omega)
      have la := fun mm => load_bytes ((ea i hlt).ext (hx.then (ext_drewN w2 mm)))
      have lb := fun mm => load_bytes ((eb i hlt).ext (hx.then (ext_drewN w2 mm)))
      generalize F i = y at *
      clear ea eb ha hb
      go_wp2_with fail
      go_quiet (fail)
      go_wp2_with fail
      go_roundw
      case rel => exact ⟨i + 1, m + nq, by omega, by go_num, by rw [hw.out, World.drewN_drewN]⟩
      case measure => simp [intOf]; omega
    · obtain rfl : i = n := by omega
      have hlt' : ¬ (i : Int) < i := by omega
      go_wp2_with fail
      go_ret
      exact ⟨rfl, hx⟩
end Go.Proofs.Ytldcaoclimcahaa
