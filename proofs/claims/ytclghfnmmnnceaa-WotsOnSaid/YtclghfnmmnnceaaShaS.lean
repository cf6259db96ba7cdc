/- The words of the hash: what the operations on 32 bits do, as operations on UInt32. No program in sight. -/
import Derived.Test.YtclghfnmmnnceaaKit
namespace Go.Proofs.Ytclghfnmmnnceaa
open Go.RowKit
set_option linter.unusedVariables false
set_option linter.unusedSimpArgs false

/-- A word's value. -/
def cw (x : UInt32) : Value := .int .u32 (x.toNat : Int)
theorem wd_lt (x : UInt32) : (x.toNat : Int) < 4294967296 := by have := UInt32.toNat_lt x; omega
theorem wd_wrap (n : Nat) : IntKind.u32.wrap (n : Int) = ((UInt32.ofNat n).toNat : Int) := by
  rw [IntKind.wrap_u32, UInt32.toNat_ofNat']; omega
theorem wd_add (x y : UInt32) : IntKind.u32.wrap ((x.toNat : Int) + (y.toNat : Int)) = ((x + y).toNat : Int) := by
  rw [IntKind.wrap_u32, UInt32.toNat_add]; omega
theorem wd_xor (x y : UInt32) : bits BinOp.xor IntKind.u32 (x.toNat : Int) (y.toNat : Int) = ((x ^^^ y).toNat : Int) := by
  show IntKind.u32.wrap ((BitVec.ofInt 32 (x.toNat : Int) ^^^ BitVec.ofInt 32 (y.toNat : Int)).toNat : Int) = _
  have h1 := UInt32.toNat_lt x; have h2 := UInt32.toNat_lt y
  have h3 := UInt32.toNat_lt (x ^^^ y)
  rw [BitVec.toNat_xor, BitVec.ofInt_natCast, BitVec.ofInt_natCast, BitVec.toNat_ofNat, BitVec.toNat_ofNat, Nat.mod_eq_of_lt h1, Nat.mod_eq_of_lt h2, ← UInt32.toNat_xor, IntKind.wrap_u32]
  omega
theorem wd_and (x y : UInt32) : bits BinOp.and IntKind.u32 (x.toNat : Int) (y.toNat : Int) = ((x &&& y).toNat : Int) := by
  show IntKind.u32.wrap ((BitVec.ofInt 32 (x.toNat : Int) &&& BitVec.ofInt 32 (y.toNat : Int)).toNat : Int) = _
  have h1 := UInt32.toNat_lt x; have h2 := UInt32.toNat_lt y
  have h3 := UInt32.toNat_lt (x &&& y)
  rw [BitVec.toNat_and, BitVec.ofInt_natCast, BitVec.ofInt_natCast, BitVec.toNat_ofNat, BitVec.toNat_ofNat, Nat.mod_eq_of_lt h1, Nat.mod_eq_of_lt h2, ← UInt32.toNat_and, IntKind.wrap_u32]
  omega
theorem wd_or (x y : UInt32) : bits BinOp.or IntKind.u32 (x.toNat : Int) (y.toNat : Int) = ((x ||| y).toNat : Int) := by
  show IntKind.u32.wrap ((BitVec.ofInt 32 (x.toNat : Int) ||| BitVec.ofInt 32 (y.toNat : Int)).toNat : Int) = _
  have h1 := UInt32.toNat_lt x; have h2 := UInt32.toNat_lt y
  have h3 := UInt32.toNat_lt (x ||| y)
  rw [BitVec.toNat_or, BitVec.ofInt_natCast, BitVec.ofInt_natCast, BitVec.toNat_ofNat, BitVec.toNat_ofNat, Nat.mod_eq_of_lt h1, Nat.mod_eq_of_lt h2, ← UInt32.toNat_or, IntKind.wrap_u32]
  omega
theorem wd_andNot (x y : UInt32) : bits BinOp.andNot IntKind.u32 (x.toNat : Int) (y.toNat : Int) = ((x &&& ~~~y).toNat : Int) := by
  show IntKind.u32.wrap ((BitVec.ofInt 32 (x.toNat : Int) &&& ~~~(BitVec.ofInt 32 (y.toNat : Int))).toNat : Int) = _
  have e : ∀ z : UInt32, BitVec.ofInt 32 (z.toNat : Int) = z.toBitVec := fun z => by rw [BitVec.ofInt_natCast]; exact BitVec.ofNat_toNat _ _ |>.trans (by simp)
  rw [e, e]
  have h3 := UInt32.toNat_lt (x &&& ~~~y)
  show IntKind.u32.wrap ((x &&& ~~~y).toNat : Int) = _
  rw [IntKind.wrap_u32]
  omega

/-! The operations by names of their own: the walk's simp is to leave them as they stand. -/
def addW (x y : UInt32) : UInt32 := x + y
def xorW (x y : UInt32) : UInt32 := x ^^^ y
def andW (x y : UInt32) : UInt32 := x &&& y
def notW (x y : UInt32) : UInt32 := x &&& ~~~y
def shrw (x : UInt32) (n : Nat) : UInt32 := UInt32.ofNat (x.toNat / 2 ^ n)
theorem w_add (x y : UInt32) : IntKind.u32.wrap ((x.toNat : Int) + (y.toNat : Int)) = ((addW x y).toNat : Int) := wd_add x y
theorem w_add' (x y : UInt32) : ((x.toNat : Int) + (y.toNat : Int)) % 4294967296 = ((addW x y).toNat : Int) := by rw [← w_add, IntKind.wrap_u32]
theorem w_xor (x y : UInt32) : bits BinOp.xor IntKind.u32 (x.toNat : Int) (y.toNat : Int) = ((xorW x y).toNat : Int) := wd_xor x y
theorem w_and (x y : UInt32) : bits BinOp.and IntKind.u32 (x.toNat : Int) (y.toNat : Int) = ((andW x y).toNat : Int) := wd_and x y
theorem w_andNot (x y : UInt32) : bits BinOp.andNot IntKind.u32 (x.toNat : Int) (y.toNat : Int) = ((notW x y).toNat : Int) := wd_andNot x y
theorem toNat_shrw (x : UInt32) (n : Nat) : (shrw x n).toNat = x.toNat / 2 ^ n := by
  have h := UInt32.toNat_lt x
  have h2 : x.toNat / 2 ^ n ≤ x.toNat := Nat.div_le_self _ _
  rw [shrw, UInt32.toNat_ofNat', Nat.mod_eq_of_lt (by omega)]
theorem w_shr10 (x : UInt32) : (x.toNat : Int) / 1024 = ((shrw x 10).toNat : Int) := by rw [toNat_shrw]; omega
theorem w_shr3 (x : UInt32) : (x.toNat : Int) / 8 = ((shrw x 3).toNat : Int) := by rw [toNat_shrw]; omega

/-- A word turned right. -/
def rotr (x : UInt32) (n : Nat) : UInt32 := UInt32.ofNat (x.toNat / 2 ^ n + x.toNat * 2 ^ (32 - n) % 4294967296)
theorem rot_low (x n : Nat) (hx : x < 2 ^ 32) (hn : n ≤ 32) : x * 2 ^ (32 - n) % 4294967296 = (x % 2 ^ n) * 2 ^ (32 - n) := by
  have h : (4294967296 : Nat) = 2 ^ n * 2 ^ (32 - n) := by rw [← Nat.pow_add, show n + (32 - n) = 32 by omega]
  rw [h, Nat.mul_mod_mul_right]
theorem rot_lt (x n : Nat) (hx : x < 2 ^ 32) (hn : n ≤ 32) : x / 2 ^ n < 2 ^ (32 - n) := by
  rw [Nat.div_lt_iff_lt_mul (Nat.two_pow_pos n), ← Nat.pow_add, show 32 - n + n = 32 by omega]; exact hx
theorem toNat_rotr (x : UInt32) (n : Nat) (hn : n ≤ 32) : (rotr x n).toNat = x.toNat / 2 ^ n + x.toNat * 2 ^ (32 - n) % 4294967296 := by
  have hx := UInt32.toNat_lt x
  have h1 := rot_low x.toNat n hx hn
  have h2 := rot_lt x.toNat n hx hn
  unfold rotr
  rw [UInt32.toNat_ofNat', Nat.mod_eq_of_lt]
  rw [h1]
  have h3 : x.toNat % 2 ^ n + 1 ≤ 2 ^ n := Nat.mod_lt _ (Nat.two_pow_pos n)
  have h4 := Nat.mul_le_mul_right (2 ^ (32 - n)) h3
  rw [Nat.add_mul, ← Nat.pow_add, show n + (32 - n) = 32 by omega] at h4
  omega
theorem rotr_or (x : UInt32) (n : Nat) (hn : n ≤ 32) : (x.toNat * 2 ^ (32 - n) % 4294967296) ||| (x.toNat / 2 ^ n) = (rotr x n).toNat := by
  have hx := UInt32.toNat_lt x
  rw [toNat_rotr x n hn, rot_low x.toNat n hx hn, ← Nat.shiftLeft_eq, ← Nat.shiftLeft_add_eq_or_of_lt (rot_lt x.toNat n hx hn), Nat.add_comm]
end Go.Proofs.Ytclghfnmmnnceaa
