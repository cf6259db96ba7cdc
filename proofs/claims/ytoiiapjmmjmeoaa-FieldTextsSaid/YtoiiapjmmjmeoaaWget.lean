/- The walk of wire.Get. -/
import Derived.Test.YtoiiapjmmjmeoaaPow
import Derived.Laws.Bits64b
namespace Go.Proofs.Ytoiiapjmmjmeoaa
open Go.RowKit
set_option linter.unusedVariables false
set_option linter.unusedSimpArgs false

theorem or_shift (A i : Nat) (x : UInt8) (hA : A < p256 i) (hi : i ≤ 7) : bits BinOp.or IntKind.u64 (A : Int) (IntKind.u64.wrap (IntKind.u64.wrap (x.toNat : Int) * 2 ^ (8 * i))) = ((x.toNat * p256 i + A : Nat) : Int) := by
  have hx := UInt8.toNat_lt x
  have hp : p256 i = 2 ^ (8 * i) := by unfold p256; rw [Nat.pow_mul]
  have hp7 := p256_le i hi
  have hB : x.toNat * p256 i < 18446744073709551616 := by
    have h1 : x.toNat * p256 i ≤ 255 * p256 i := Nat.mul_le_mul_right _ (by omega)
    omega
  have h1 : IntKind.u64.wrap (x.toNat : Int) = x.toNat := by rw [IntKind.wrap_u64]; omega
  have h2 : (x.toNat : Int) * 2 ^ (8 * i) = ((x.toNat * p256 i : Nat) : Int) := by rw [hp, Int.natCast_mul, Int.natCast_pow]; rfl
  have h3 : IntKind.u64.wrap ((x.toNat * p256 i : Nat) : Int) = ((x.toNat * p256 i : Nat) : Int) := by rw [IntKind.wrap_u64]; omega
  rw [h1, h2, h3, bits_or_u64_nat A _ (by omega) hB]
  congr 1
  rw [Nat.or_comm, Nat.mul_comm, hp, Nat.two_pow_add_eq_or_of_lt (by rw [← hp]; exact hA)]
theorem getN_drop (c : List UInt8) (k : Nat) (h : k < c.length) : getN (c.drop k) = (c.getD k 0).toNat * p256 (c.length - (k + 1)) + getN (c.drop (k + 1)) := by
  have hdrop : c.drop k = c.getD k 0 :: c.drop (k + 1) := by
    rw [List.drop_eq_getElem_cons h]
    simp [List.getD, List.getElem?_eq_getElem h]
  rw [hdrop, getN, List.length_drop]
/-- What Get answers. -/
def GetIs (q : Nat) (c : List UInt8) (r : Ending) : Prop :=
  (1 ≤ q ∧ q ≤ 8 ∧ r = .returned (.tuple #[.int .u64 (getN c : Int), .int .i64 0])) ∨ ((q = 0 ∨ 8 < q) ∧ r = .returned (.tuple #[.int .u64 0, .int .i64 2]))
set_option maxHeartbeats 4000000 in
set_option maxRecDepth 100000 in
theorem wget_any (a : Option Addr) (q cap : Nat) (c : List UInt8) (w : World) (hqc : q ≤ cap) (hcm : cap ≤ maxLen) (h : BytesIn w a q c) :
    Calls Try.prog 24 #[.slice a q cap] w fun r w' => GetIs q c r ∧ ∃ m, w' = w.drewN m := by
  have hq63 : q ≤ 9223372036854775807 := Nat.le_trans hqc hcm
  by_cases h0 : q = 0
  · subst h0
    go_enter Try.func24, Try.ntmps24
    go_wp2_with fail
    go_ret2
    exact ⟨.inr ⟨.inl rfl, rfl⟩, 0, rfl⟩
  · have hz : ¬ (q : Int) = 0 := by omega
    by_cases h8 : 8 < q
    · have h8' : (8 : Int) < q := by omega
      have hd : decide ((8 : Int) < q) = true := by simpa using h8'
      go_enter Try.func24, Try.ntmps24
      go_wp2_with fail
      go_ret2
      exact ⟨.inr ⟨.inr h8, rfl⟩, 0, rfl⟩
    · have h8' : ¬ (8 : Int) < q := by omega
      have hd : decide ((8 : Int) < q) = false := by simpa using h8'
      go_enter Try.func24, Try.ntmps24
      go_wp2_with fail
      go_loopw [0, 2, 4] (fun s0 s2 s4 wr => ∃ (i m : Nat), i ≤ q ∧ s0 = .slice a (q - i : Nat) cap ∧ s4 = .int .i64 ((8 * i : Nat) : Int) ∧ s2 = .int .u64 (getN (c.drop (q - i)) : Int) ∧ wr = w.drewN m) (fun _ _ s _ => (8 * q - intOf s).toNat)
      case atStart => exact ⟨0, 0, by omega, rfl, rfl, by rw [Nat.sub_zero, List.drop_eq_nil_of_le (by rw [h.1]; exact Nat.le_refl _)]; rfl, rfl⟩
      case round =>
        obtain ⟨i, m, hi, rfl, rfl, rfl, hw⟩ := hrel
        obtain ⟨w2, rfl⟩ : ∃ w2, w2 = wr := ⟨_, rfl⟩
        by_cases hlt : i < q
        · obtain ⟨k, hk⟩ : ∃ k, k = q - i - 1 := ⟨_, rfl⟩
          have hk1 : q - i = k + 1 := by omega
          rw [hk1]
          have hlt' : (0 : Int) < (k + 1 : Nat) := by omega
          obtain ⟨ad, rfl, hc⟩ := h.2 (by omega)
          have hcl := h.1
          have d1 : w2.cell? (ad.add k) = some (.int .u8 ((c.getD k 0).toNat : Int)) := by rw [hw]; exact hc k (by omega)
          have e1 : ((k + 1 : Nat) : Int) - 1 = k := by omega
          have e2 : IntKind.i64.wrap (((k + 1 : Nat) : Int) - 1) = k := by rw [IntKind.wrap_i64]; omega
          have hkc : k ≤ cap := by omega
          have hkc' : (k : Int) ≤ cap := by omega
          have k0 : (0 : Int) ≤ k := by omega
          generalize hx : c.getD k 0 = x at d1
          replace hx := hide hx
          replace hw := hide hw
          replace hc := hide hc
          replace h := hide h
          replace hk := hide hk
          replace hcl := hide hcl
          go_wp2_with fail
          have hl : (c.drop (k + 1)).length = i := by rw [List.length_drop, hcl.out]; omega
          have hg := getN_lt (c.drop (k + 1))
          rw [hl] at hg
          have hor := or_shift _ i x hg (by omega)
          have hgd := getN_drop c k (by rw [hcl.out]; omega)
          rw [hx.out, hcl.out, show q - (k + 1) = i by omega] at hgd
          refine ⟨⟨i + 1, m, by omega, by rw [show q - (i + 1) = k by omega], by congr 1, ?_, hw.out⟩, by simp [intOf]; omega⟩
          rw [show q - (i + 1) = k by omega, hgd]
          congr 1
        · obtain rfl : i = q := by omega
          have hlt' : ¬ (0 : Int) < ((i - i : Nat) : Int) := by omega
          have hii : i - i = 0 := Nat.sub_self i
          rw [hii, List.drop_zero]
          go_wp2_with fail
          go_ret2
          exact ⟨.inl ⟨by omega, by omega, rfl⟩, m, rfl⟩
end Go.Proofs.Ytoiiapjmmjmeoaa
