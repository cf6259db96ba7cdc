/- The walks of the words' turning: the program's and the reference's. -/
import Derived.Test.YtclghfnmmnnceaaShaS
import Derived.WalkSpells
import Derived.WalkLawsBesides
namespace Go.Proofs.Ytclghfnmmnnceaa
open Go.RowKit
set_option linter.unusedVariables false
set_option linter.unusedSimpArgs false

theorem bits_or32 (a b : Nat) (ha : a < 4294967296) (hb : b < 4294967296) : bits BinOp.or IntKind.u32 (a : Int) (b : Int) = ((a ||| b : Nat) : Int) := by
  show IntKind.u32.wrap ((BitVec.ofInt 32 (a : Int) ||| BitVec.ofInt 32 (b : Int)).toNat : Int) = _
  have h3 : a ||| b < 2 ^ 32 := Nat.or_lt_two_pow ha hb
  rw [BitVec.toNat_or, BitVec.ofInt_natCast, BitVec.ofInt_natCast, BitVec.toNat_ofNat, BitVec.toNat_ofNat, Nat.mod_eq_of_lt ha, Nat.mod_eq_of_lt hb, IntKind.wrap_u32]
  omega
theorem rot_word (x : UInt32) (n : Nat) (hn : n ≤ 32) : bits BinOp.or IntKind.u32 ((x.toNat : Int) * 2 ^ (32 - n) % 4294967296) ((x.toNat : Int) / 2 ^ n) = ((rotr x n).toNat : Int) := by
  have hx := UInt32.toNat_lt x
  have e1 : ((x.toNat : Int) * 2 ^ (32 - n) % 4294967296) = ((x.toNat * 2 ^ (32 - n) % 4294967296 : Nat) : Int) := by rw [Int.natCast_emod, Int.natCast_mul, Int.natCast_pow]; rfl
  have e2 : ((x.toNat : Int) / 2 ^ n) = ((x.toNat / 2 ^ n : Nat) : Int) := by rw [Int.natCast_ediv, Int.natCast_pow]; rfl
  have h2 : x.toNat / 2 ^ n ≤ x.toNat := Nat.div_le_self _ _
  rw [e1, e2, bits_or32 _ _ (Nat.mod_lt _ (by omega)) (by omega), rotr_or x n hn]
theorem rot_sum (x : UInt32) (n : Nat) (hn : n ≤ 32) : IntKind.u32.wrap ((x.toNat : Int) / 2 ^ n + (x.toNat : Int) * 2 ^ (32 - n) % 4294967296) = ((rotr x n).toNat : Int) := by
  have e1 : ((x.toNat : Int) * 2 ^ (32 - n) % 4294967296) = ((x.toNat * 2 ^ (32 - n) % 4294967296 : Nat) : Int) := by rw [Int.natCast_emod, Int.natCast_mul, Int.natCast_pow]; rfl
  have e2 : ((x.toNat : Int) / 2 ^ n) = ((x.toNat / 2 ^ n : Nat) : Int) := by rw [Int.natCast_ediv, Int.natCast_pow]; rfl
  have h3 := UInt32.toNat_lt (rotr x n)
  rw [e1, e2, IntKind.wrap_u32]
  rw [toNat_rotr x n hn] at h3 ⊢
  generalize x.toNat / 2 ^ n = a at h3 ⊢
  generalize x.toNat * 2 ^ (32 - n) % 4294967296 = b at h3 ⊢
  omega
theorem and_31 (s : Nat) (h1 : s ≤ 31) : bits BinOp.and IntKind.u64 (s : Int) 31 = s := by
  show IntKind.u64.wrap ((BitVec.ofInt 64 (s : Int) &&& BitVec.ofInt 64 31).toNat : Int) = _
  rw [BitVec.toNat_and, BitVec.ofInt_natCast, BitVec.toNat_ofNat, Nat.mod_eq_of_lt (by omega), show (BitVec.ofInt 64 31).toNat = 2 ^ 5 - 1 from by decide, Nat.and_two_pow_sub_one_eq_mod, IntKind.wrap_u64]
  omega

theorem rotateLeft_any (x : UInt32) (s : Nat) (h0 : 1 ≤ s) (h1 : s ≤ 31) (w : World) :
    Calls Try.prog 55 #[.int .u32 (x.toNat : Int), .int .i64 (s : Int)] w fun e w' => e = .returned (.int .u32 ((rotr x (32 - s)).toNat : Int)) ∧ w' = w := by
  have hb0 : (0 : Int) ≤ s := by omega
  have e1 : IntKind.u64.wrap (s : Int) = s := by rw [IntKind.wrap_u64]; omega
  have e2 := and_31 s h1
  have e3 := rot_word x (32 - s) (by omega)
  rw [show 32 - (32 - s) = s by omega] at e3
  go_enter Try.func55, Try.ntmps55
  go_wp2
  go_ret
  exact ⟨rfl, rfl⟩

theorem rot_any (x : UInt32) (n : Nat) (h0 : 1 ≤ n) (h1 : n ≤ 31) (w : World) :
    Calls Try.prog 54 #[.int .u32 (x.toNat : Int), .int .i64 (n : Int)] w fun e w' => e = .returned (.int .u32 ((rotr x n).toNat : Int)) ∧ w' = w := by
  obtain ⟨s, hs⟩ : ∃ s, s = 32 - n := ⟨_, rfl⟩
  have e1 : IntKind.i64.wrap (32 - (n : Int)) = (s : Int) := by rw [IntKind.wrap_i64]; omega
  have e2 : (32 : Int) - (n : Int) = (s : Int) := by omega
  have e3 : n = 32 - s := by omega
  have hs1 : 1 ≤ s ∧ s ≤ 31 := by omega
  replace e3 := hide e3
  clear hs
  go_enter Try.func54, Try.ntmps54
  go_wp2_with (go_at_call 55; (refine (rotateLeft_any x s hs1.1 hs1.2 _).mono ?_); rintro e w' ⟨rfl, rfl⟩)
  go_ret
  exact ⟨by rw [e3.out]; rfl, rfl⟩

theorem refRot_any (x : UInt32) (n : Nat) (h0 : 1 ≤ n) (h1 : n ≤ 31) (w : World) :
    Calls Try.prog 49 #[.int .u32 (x.toNat : Int), .int .u64 (n : Int)] w fun e w' => e = .returned (.int .u32 ((rotr x n).toNat : Int)) ∧ w' = w := by
  have e3 := rot_sum x n (by omega)
  have hb0 : (0 : Int) ≤ n := by omega
  have hb1 : (0 : Int) ≤ 32 - n := by omega
  go_enter Try.func49, Try.ntmps49
  go_wp2
  go_ret
  exact ⟨rfl, rfl⟩
end Go.Proofs.Ytclghfnmmnnceaa
