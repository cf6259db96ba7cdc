/- The walks of the reference's Power and Get. -/
import Derived.Test.YtclghfnmmnnceaaByt
import Derived.BigQuiet
import Derived.Deep.QuietTactic
namespace Go.Proofs.Ytclghfnmmnnceaa
open Go.RowKit
set_option linter.unusedVariables false
set_option linter.unusedSimpArgs false

/-- 256 to a power, by a name of its own. -/
def p256 (k : Nat) : Nat := 256 ^ k
theorem p256_le (k : Nat) (h : k ≤ 7) : p256 k ≤ 72057594037927936 := by
  have : 256 ^ k ≤ 256 ^ 7 := Nat.pow_le_pow_right (by omega) h
  unfold p256; omega
theorem p256_pos (k : Nat) : 0 < p256 k := Nat.pow_pos (by omega)
set_option maxHeartbeats 1000000 in
theorem power_any (k : Nat) (hk : k ≤ 7) (w : World) :
    Calls Try.prog 56 #[.int .i64 (k : Int)] w fun r w' => r = .returned (.int .u64 (p256 k : Int)) ∧ w' = w := by
  go_enter Try.func56, Try.ntmps56
  go_wp2_with fail
  go_loop [3, 4] (fun s3 s4 => ∃ i : Nat, i ≤ k ∧ s4 = .int .i64 i ∧ s3 = .int .u64 (p256 i : Int)) (fun _ s => (k - intOf s).toNat)
  case atStart => exact ⟨0, by omega, rfl, rfl⟩
  case round =>
    obtain ⟨i, hi, rfl, rfl⟩ := hrel
    by_cases hlt : i < k
    · have hlt' : (i : Int) < k := by omega
      have hp := p256_le (i + 1) (by omega)
      have hp2 : p256 (i + 1) = p256 i * 256 := Nat.pow_succ ..
      have e1 : IntKind.u64.wrap ((p256 i : Int) * 256) = p256 (i + 1) := by rw [IntKind.wrap_u64]; omega
      have e2 : (p256 i : Int) * 256 = p256 (i + 1) := by omega
      replace hp2 := hide hp2
      go_wp2_with fail
      go_round
      case rel => exact ⟨i + 1, by omega, by go_num, rfl⟩
      case measure => simp [intOf]; omega
    · obtain rfl : i = k := by omega
      have hlt' : ¬ (i : Int) < i := by omega
      go_wp2_with fail
      go_ret
      exact ⟨rfl, rfl⟩

/-- A number's bytes, the highest first. -/
def putL (n : Nat) : Nat → List UInt8
  | 0 => []
  | s + 1 => UInt8.ofNat (n / p256 s) :: putL n s
theorem length_putL (n s : Nat) : (putL n s).length = s := by
  induction s with
  | zero => rfl
  | succ s ih => simp [putL, ih]
/-- The number that bytes are. -/
def getN : List UInt8 → Nat
  | [] => 0
  | b :: l => b.toNat * p256 l.length + getN l
theorem getN_lt (l : List UInt8) : getN l < p256 l.length := by
  induction l with
  | nil => decide
  | cons b l ih =>
    have h1 := UInt8.toNat_lt b
    have h2 : p256 (l.length + 1) = p256 l.length * 256 := Nat.pow_succ ..
    rw [getN, List.length_cons, h2]
    have h3 := Nat.mul_le_mul_right (p256 l.length) (show b.toNat ≤ 255 by omega)
    omega
set_option maxHeartbeats 4000000 in
set_option maxRecDepth 100000 in
theorem get_any (a : Option Addr) (q cap : Nat) (c : List UInt8) (hq : q ≤ 8) (w : World) (h : BytesIn w a q c) :
    Calls Try.prog 48 #[.slice a q cap] w fun r w' => r = .returned (.int .u64 (getN c : Int)) ∧ ∃ m, w' = w.drewN m := by
  go_enter Try.func48, Try.ntmps48
  go_wp2_with fail
  go_loopw [3, 4] (fun s3 s4 wr => ∃ (k acc m : Nat), k ≤ q ∧ s4 = .int .i64 k ∧ s3 = .int .u64 (acc : Int) ∧ acc + getN (c.drop k) = getN c ∧ wr = w.drewN m) (fun _ s _ => (q - intOf s).toNat)
  case atStart => exact ⟨0, 0, 0, by omega, rfl, rfl, by simp, rfl⟩
  case round =>
    obtain ⟨k, acc, m, hk, rfl, rfl, hacc, hw⟩ := hrel
    obtain ⟨w2, rfl⟩ : ∃ w2, w2 = wr := ⟨_, rfl⟩
    by_cases hlt : k < q
    · have hlt' : (k : Int) < q := by omega
      have hk0 : (0 : Int) ≤ k := by omega
      obtain ⟨ad, rfl, hc⟩ := h.2 (by omega)
      have hcl := h.1
      have d1 : w2.cell? (ad.add k) = some (.int .u8 ((c.getD k 0).toNat : Int)) := by rw [hw]; exact hc k hlt
      have hdrop : c.drop k = c.getD k 0 :: c.drop (k + 1) := by
        rw [List.drop_eq_getElem_cons (by omega)]
        simp [List.getD, List.getElem?_eq_getElem (show k < c.length by omega)]
      rw [hdrop, getN, List.length_drop, hcl] at hacc
      have hg := getN_lt c
      rw [hcl] at hg
      obtain ⟨e, he⟩ : ∃ e, e = q - (k + 1) := ⟨_, rfl⟩
      rw [← he] at hacc
      have j1 : IntKind.i64.wrap ((q : Int) - 1) = (q : Int) - 1 := by rw [IntKind.wrap_i64]; omega
      have j2 : IntKind.i64.wrap ((q : Int) - 1 - k) = e := by rw [IntKind.wrap_i64]; omega
      have j3 : (q : Int) - 1 - k = e := by omega
      have hp8 : p256 q ≤ 18446744073709551616 := by
        have : 256 ^ q ≤ 256 ^ 8 := Nat.pow_le_pow_right (by omega) hq
        unfold p256; omega
      generalize c.getD k 0 = x at d1 hacc
      have hx := UInt8.toNat_lt x
      obtain ⟨u, hu⟩ : ∃ u, u = x.toNat * p256 e := ⟨_, rfl⟩
      rw [← hu] at hacc
      have m1 : (x.toNat : Int) * (p256 e : Int) = u := by rw [hu, Int.natCast_mul]
      have m2 : IntKind.u64.wrap ((x.toNat : Int) * (p256 e : Int)) = u := by rw [m1, IntKind.wrap_u64]; omega
      have m0 : IntKind.u64.wrap (x.toNat : Int) = x.toNat := by rw [IntKind.wrap_u64]; omega
      have m3 : IntKind.u64.wrap ((acc : Int) + u) = (acc : Int) + u := by rw [IntKind.wrap_u64]; omega
      have m4 : IntKind.u64.wrap (u : Int) = u := by rw [IntKind.wrap_u64]; omega
      clear hu
      replace hw := hide hw
      replace hacc := hide hacc
      replace hdrop := hide hdrop
      replace hc := hide hc
      replace h := hide h
      replace he := hide he
      have hpow : ∀ w3, Calls Try.prog 56 #[.int .i64 (e : Int)] w3 fun r w' => r = .returned (.int .u64 (p256 e : Int)) ∧ w' = w3 := fun w3 => power_any e (by have := he.out; omega) w3
      replace hpow := hide hpow
      go_wp2_with fail
      go_quiet (first | (go_at_call 56; exact Calls.quiet_of_same (hpow.out _)))
      go_wp2_with fail
      go_roundw
      case rel => exact ⟨k + 1, acc + u, m + nq, by omega, by go_num, by rw [Int.natCast_add], by have := hacc.out; omega, by rw [hw.out, World.drewN_drewN]⟩
      case measure => simp [intOf]; omega
    · obtain rfl : k = q := by omega
      have hlt' : ¬ (k : Int) < k := by omega
      have hgk : acc = getN c := by rw [List.drop_eq_nil_of_le (by rw [h.1]; exact Nat.le_refl _)] at hacc; simpa [getN] using hacc
      go_wp2_with fail
      go_ret
      exact ⟨rfl, m, rfl⟩

end Go.Proofs.Ytclghfnmmnnceaa
