/- Merged texts: ShaS ShaR ShaP ShaQ ShaB ShaA ShaE ShaM HashK. -/
import Derived.Test.YtegicioofbhifaaZA
import Derived.WalkSpells
import Derived.WalkLawsBesides
import Derived.Deep.RegionLaw
import Derived.BigQuiet
import Derived.Deep.QuietTactic
import Derived.StillTailTactics
import Derived.OneCell
import Derived.Laws.CopyOwn
import Derived.Deep.DeepCutAuto
import Derived.Deep.CutRange
/- The words of the hash: what the operations on 32 bits do, as operations on UInt32. No program in sight. -/
namespace Go.Proofs.Ytegicioofbhifaa
open Go.RowKit
set_option linter.unusedVariables false
set_option linter.unusedSimpArgs false

/-- A word's value. -/
def cw (x : UInt32) : Value := .int .u32 (x.toNat : Int)
theorem wd_lt (x : UInt32) : (x.toNat : Int) < 4294967296 := by have := UInt32.toNat_lt x; omega
theorem wd_wrap (n : Nat) : IntKind.u32.wrap (n : Int) = ((UInt32.ofNat n).toNat : Int) := by
  rw [IntKind.wrap_u32, UInt32.toNat_ofNat']; omega
theorem wd_add (x y : UInt32) : IntKind.u32.wrap ((x.toNat : Int) + (y.toNat : Int)) = ((x + y).toNat : Int) := by
  rw [IntKind.wrap_u32, UInt32.toNat_add]; omega
theorem wd_xor (x y : UInt32) : bits BinOp.xor IntKind.u32 (x.toNat : Int) (y.toNat : Int) = ((x ^^^ y).toNat : Int) := by
  show IntKind.u32.wrap ((BitVec.ofInt 32 (x.toNat : Int) ^^^ BitVec.ofInt 32 (y.toNat : Int)).toNat : Int) = _
  have h1 := UInt32.toNat_lt x; have h2 := UInt32.toNat_lt y
  have h3 := UInt32.toNat_lt (x ^^^ y)
  rw [BitVec.toNat_xor, BitVec.ofInt_natCast, BitVec.ofInt_natCast, BitVec.toNat_ofNat, BitVec.toNat_ofNat, Nat.mod_eq_of_lt h1, Nat.mod_eq_of_lt h2, ← UInt32.toNat_xor, IntKind.wrap_u32]
  omega
theorem wd_and (x y : UInt32) : bits BinOp.and IntKind.u32 (x.toNat : Int) (y.toNat : Int) = ((x &&& y).toNat : Int) := by
  show IntKind.u32.wrap ((BitVec.ofInt 32 (x.toNat : Int) &&& BitVec.ofInt 32 (y.toNat : Int)).toNat : Int) = _
  have h1 := UInt32.toNat_lt x; have h2 := UInt32.toNat_lt y
  have h3 := UInt32.toNat_lt (x &&& y)
  rw [BitVec.toNat_and, BitVec.ofInt_natCast, BitVec.ofInt_natCast, BitVec.toNat_ofNat, BitVec.toNat_ofNat, Nat.mod_eq_of_lt h1, Nat.mod_eq_of_lt h2, ← UInt32.toNat_and, IntKind.wrap_u32]
  omega
theorem wd_or (x y : UInt32) : bits BinOp.or IntKind.u32 (x.toNat : Int) (y.toNat : Int) = ((x ||| y).toNat : Int) := by
  show IntKind.u32.wrap ((BitVec.ofInt 32 (x.toNat : Int) ||| BitVec.ofInt 32 (y.toNat : Int)).toNat : Int) = _
  have h1 := UInt32.toNat_lt x; have h2 := UInt32.toNat_lt y
  have h3 := UInt32.toNat_lt (x ||| y)
  rw [BitVec.toNat_or, BitVec.ofInt_natCast, BitVec.ofInt_natCast, BitVec.toNat_ofNat, BitVec.toNat_ofNat, Nat.mod_eq_of_lt h1, Nat.mod_eq_of_lt h2, ← UInt32.toNat_or, IntKind.wrap_u32]
  omega
theorem wd_andNot (x y : UInt32) : bits BinOp.andNot IntKind.u32 (x.toNat : Int) (y.toNat : Int) = ((x &&& ~~~y).toNat : Int) := by
  show IntKind.u32.wrap ((BitVec.ofInt 32 (x.toNat : Int) &&& ~~~(BitVec.ofInt 32 (y.toNat : Int))).toNat : Int) = _
  have e : ∀ z : UInt32, BitVec.ofInt 32 (z.toNat : Int) = z.toBitVec := fun z => by rw [BitVec.ofInt_natCast]; exact BitVec.ofNat_toNat _ _ |>.trans (by simp)
  rw [e, e]
  have h3 := UInt32.toNat_lt (x &&& ~~~y)
  show IntKind.u32.wrap ((x &&& ~~~y).toNat : Int) = _
  rw [IntKind.wrap_u32]
  omega

/-! The operations by names of their own: the walk's simp is to leave them as they stand. -/
def addW (x y : UInt32) : UInt32 := x + y
def xorW (x y : UInt32) : UInt32 := x ^^^ y
def andW (x y : UInt32) : UInt32 := x &&& y
def notW (x y : UInt32) : UInt32 := x &&& ~~~y
def shrw (x : UInt32) (n : Nat) : UInt32 := UInt32.ofNat (x.toNat / 2 ^ n)
theorem w_add (x y : UInt32) : IntKind.u32.wrap ((x.toNat : Int) + (y.toNat : Int)) = ((addW x y).toNat : Int) := wd_add x y
theorem w_add' (x y : UInt32) : ((x.toNat : Int) + (y.toNat : Int)) % 4294967296 = ((addW x y).toNat : Int) := by rw [← w_add, IntKind.wrap_u32]
theorem w_xor (x y : UInt32) : bits BinOp.xor IntKind.u32 (x.toNat : Int) (y.toNat : Int) = ((xorW x y).toNat : Int) := wd_xor x y
theorem w_and (x y : UInt32) : bits BinOp.and IntKind.u32 (x.toNat : Int) (y.toNat : Int) = ((andW x y).toNat : Int) := wd_and x y
theorem w_andNot (x y : UInt32) : bits BinOp.andNot IntKind.u32 (x.toNat : Int) (y.toNat : Int) = ((notW x y).toNat : Int) := wd_andNot x y
theorem toNat_shrw (x : UInt32) (n : Nat) : (shrw x n).toNat = x.toNat / 2 ^ n := by
  have h := UInt32.toNat_lt x
  have h2 : x.toNat / 2 ^ n ≤ x.toNat := Nat.div_le_self _ _
  rw [shrw, UInt32.toNat_ofNat', Nat.mod_eq_of_lt (by omega)]
theorem w_shr10 (x : UInt32) : (x.toNat : Int) / 1024 = ((shrw x 10).toNat : Int) := by rw [toNat_shrw]; omega
theorem w_shr3 (x : UInt32) : (x.toNat : Int) / 8 = ((shrw x 3).toNat : Int) := by rw [toNat_shrw]; omega

/-- A word turned right. -/
def rotr (x : UInt32) (n : Nat) : UInt32 := UInt32.ofNat (x.toNat / 2 ^ n + x.toNat * 2 ^ (32 - n) % 4294967296)
theorem rot_low (x n : Nat) (hx : x < 2 ^ 32) (hn : n ≤ 32) : x * 2 ^ (32 - n) % 4294967296 = (x % 2 ^ n) * 2 ^ (32 - n) := by
  have h : (4294967296 : Nat) = 2 ^ n * 2 ^ (32 - n) := by rw [← Nat.pow_add, show n + (32 - n) = 32 by omega]
  rw [h, Nat.mul_mod_mul_right]
theorem rot_lt (x n : Nat) (hx : x < 2 ^ 32) (hn : n ≤ 32) : x / 2 ^ n < 2 ^ (32 - n) := by
  rw [Nat.div_lt_iff_lt_mul (Nat.two_pow_pos n), ← Nat.pow_add, show 32 - n + n = 32 by omega]; exact hx
theorem toNat_rotr (x : UInt32) (n : Nat) (hn : n ≤ 32) : (rotr x n).toNat = x.toNat / 2 ^ n + x.toNat * 2 ^ (32 - n) % 4294967296 := by
  have hx := UInt32.toNat_lt x
  have h1 := rot_low x.toNat n hx hn
  have h2 := rot_lt x.toNat n hx hn
  unfold rotr
  rw [UInt32.toNat_ofNat', Nat.mod_eq_of_lt]
  rw [h1]
  have h3 : x.toNat % 2 ^ n + 1 ≤ 2 ^ n := Nat.mod_lt _ (Nat.two_pow_pos n)
  have h4 := Nat.mul_le_mul_right (2 ^ (32 - n)) h3
  rw [Nat.add_mul, ← Nat.pow_add, show n + (32 - n) = 32 by omega] at h4
  omega
theorem rotr_or (x : UInt32) (n : Nat) (hn : n ≤ 32) : (x.toNat * 2 ^ (32 - n) % 4294967296) ||| (x.toNat / 2 ^ n) = (rotr x n).toNat := by
  have hx := UInt32.toNat_lt x
  rw [toNat_rotr x n hn, rot_low x.toNat n hx hn, ← Nat.shiftLeft_eq, ← Nat.shiftLeft_add_eq_or_of_lt (rot_lt x.toNat n hx hn), Nat.add_comm]
end Go.Proofs.Ytegicioofbhifaa
/- The walks of the words' turning: the program's and the reference's. -/
namespace Go.Proofs.Ytegicioofbhifaa
open Go.RowKit
set_option linter.unusedVariables false
set_option linter.unusedSimpArgs false

theorem bits_or32 (a b : Nat) (ha : a < 4294967296) (hb : b < 4294967296) : bits BinOp.or IntKind.u32 (a : Int) (b : Int) = ((a ||| b : Nat) : Int) := by
  show IntKind.u32.wrap ((BitVec.ofInt 32 (a : Int) ||| BitVec.ofInt 32 (b : Int)).toNat : Int) = _
  have h3 : a ||| b < 2 ^ 32 := Nat.or_lt_two_pow ha hb
  rw [BitVec.toNat_or, BitVec.ofInt_natCast, BitVec.ofInt_natCast, BitVec.toNat_ofNat, BitVec.toNat_ofNat, Nat.mod_eq_of_lt ha, Nat.mod_eq_of_lt hb, IntKind.wrap_u32]
  omega
theorem rot_word (x : UInt32) (n : Nat) (hn : n ≤ 32) : bits BinOp.or IntKind.u32 ((x.toNat : Int) * 2 ^ (32 - n) % 4294967296) ((x.toNat : Int) / 2 ^ n) = ((rotr x n).toNat : Int) := by
  have hx := UInt32.toNat_lt x
  have e1 : ((x.toNat : Int) * 2 ^ (32 - n) % 4294967296) = ((x.toNat * 2 ^ (32 - n) % 4294967296 : Nat) : Int) := by rw [Int.natCast_emod, Int.natCast_mul, Int.natCast_pow]; rfl
  have e2 : ((x.toNat : Int) / 2 ^ n) = ((x.toNat / 2 ^ n : Nat) : Int) := by rw [Int.natCast_ediv, Int.natCast_pow]; rfl
  have h2 : x.toNat / 2 ^ n ≤ x.toNat := Nat.div_le_self _ _
  rw [e1, e2, bits_or32 _ _ (Nat.mod_lt _ (by omega)) (by omega), rotr_or x n hn]
theorem rot_sum (x : UInt32) (n : Nat) (hn : n ≤ 32) : IntKind.u32.wrap ((x.toNat : Int) / 2 ^ n + (x.toNat : Int) * 2 ^ (32 - n) % 4294967296) = ((rotr x n).toNat : Int) := by
  have e1 : ((x.toNat : Int) * 2 ^ (32 - n) % 4294967296) = ((x.toNat * 2 ^ (32 - n) % 4294967296 : Nat) : Int) := by rw [Int.natCast_emod, Int.natCast_mul, Int.natCast_pow]; rfl
  have e2 : ((x.toNat : Int) / 2 ^ n) = ((x.toNat / 2 ^ n : Nat) : Int) := by rw [Int.natCast_ediv, Int.natCast_pow]; rfl
  have h3 := UInt32.toNat_lt (rotr x n)
  rw [e1, e2, IntKind.wrap_u32]
  rw [toNat_rotr x n hn] at h3 ⊢
  generalize x.toNat / 2 ^ n = a at h3 ⊢
  generalize x.toNat * 2 ^ (32 - n) % 4294967296 = b at h3 ⊢
  omega
theorem and_31 (s : Nat) (h1 : s ≤ 31) : bits BinOp.and IntKind.u64 (s : Int) 31 = s := by
  show IntKind.u64.wrap ((BitVec.ofInt 64 (s : Int) &&& BitVec.ofInt 64 31).toNat : Int) = _
  rw [BitVec.toNat_and, BitVec.ofInt_natCast, BitVec.toNat_ofNat, Nat.mod_eq_of_lt (by omega), show (BitVec.ofInt 64 31).toNat = 2 ^ 5 - 1 from by decide, Nat.and_two_pow_sub_one_eq_mod, IntKind.wrap_u64]
  omega

theorem rotateLeft_any (x : UInt32) (s : Nat) (h0 : 1 ≤ s) (h1 : s ≤ 31) (w : World) :
    Calls Try.prog 108 #[.int .u32 (x.toNat : Int), .int .i64 (s : Int)] w fun e w' => e = .returned (.int .u32 ((rotr x (32 - s)).toNat : Int)) ∧ w' = w := by
  have hb0 : (0 : Int) ≤ s := by omega
  have e1 : IntKind.u64.wrap (s : Int) = s := by rw [IntKind.wrap_u64]; omega
  have e2 := and_31 s h1
  have e3 := rot_word x (32 - s) (by omega)
  rw [show 32 - (32 - s) = s by omega] at e3
  go_enter Try.func108, Try.ntmps108
  go_wp2
  go_ret
  exact ⟨rfl, rfl⟩

theorem rot_any (x : UInt32) (n : Nat) (h0 : 1 ≤ n) (h1 : n ≤ 31) (w : World) :
    Calls Try.prog 107 #[.int .u32 (x.toNat : Int), .int .i64 (n : Int)] w fun e w' => e = .returned (.int .u32 ((rotr x n).toNat : Int)) ∧ w' = w := by
  obtain ⟨s, hs⟩ : ∃ s, s = 32 - n := ⟨_, rfl⟩
  have e1 : IntKind.i64.wrap (32 - (n : Int)) = (s : Int) := by rw [IntKind.wrap_i64]; omega
  have e2 : (32 : Int) - (n : Int) = (s : Int) := by omega
  have e3 : n = 32 - s := by omega
  have hs1 : 1 ≤ s ∧ s ≤ 31 := by omega
  replace e3 := hide e3
  clear hs
  go_enter Try.func107, Try.ntmps107
  go_wp2_with (go_at_call 108; (refine (rotateLeft_any x s hs1.1 hs1.2 _).mono ?_); rintro e w' ⟨rfl, rfl⟩)
  go_ret
  exact ⟨by rw [e3.out]; rfl, rfl⟩

theorem refRot_any (x : UInt32) (n : Nat) (h0 : 1 ≤ n) (h1 : n ≤ 31) (w : World) :
    Calls Try.prog 61 #[.int .u32 (x.toNat : Int), .int .u64 (n : Int)] w fun e w' => e = .returned (.int .u32 ((rotr x n).toNat : Int)) ∧ w' = w := by
  have e3 := rot_sum x n (by omega)
  have hb0 : (0 : Int) ≤ n := by omega
  have hb1 : (0 : Int) ≤ 32 - n := by omega
  go_enter Try.func61, Try.ntmps61
  go_wp2
  go_ret
  exact ⟨rfl, rfl⟩
end Go.Proofs.Ytegicioofbhifaa
/- The hash, plainly: blocks of 64 bytes, what follows a message, the hash's bytes. No program in sight. -/
namespace Go.Proofs.Ytegicioofbhifaa
open Go.RowKit
set_option linter.unusedVariables false
set_option linter.unusedSimpArgs false

/-- Four bytes as a word. -/
def word4 (a b c d : UInt8) : UInt32 := UInt32.ofNat (a.toNat * 16777216 + b.toNat * 65536 + c.toNat * 256 + d.toNat)
def wordAt (m : List UInt8) (i : Nat) : UInt32 := word4 (m.getD (4 * i) 0) (m.getD (4 * i + 1) 0) (m.getD (4 * i + 2) 0) (m.getD (4 * i + 3) 0)
def sig0 (x : UInt32) : UInt32 := xorW (xorW (rotr x 7) (rotr x 18)) (shrw x 3)
def sig1 (x : UInt32) : UInt32 := xorW (xorW (rotr x 17) (rotr x 19)) (shrw x 10)
def nextOf (x2 x7 x15 x16 : UInt32) : UInt32 := addW (addW (addW (sig1 x2) x7) (sig0 x15)) x16
def nextW (L : List UInt32) (t : Nat) : UInt32 := nextOf (L.getD (t - 2) 0) (L.getD (t - 7) 0) (L.getD (t - 15) 0) (L.getD (t - 16) 0)
/-- The first words of a block's schedule. -/
def schedL (m : List UInt8) : Nat → List UInt32
  | 0 => []
  | t + 1 => schedL m t ++ [if t < 16 then wordAt m t else nextW (schedL m t) t]
theorem length_schedL (m : List UInt8) (t : Nat) : (schedL m t).length = t := by
  induction t with
  | zero => rfl
  | succ t ih => simp [schedL, ih]
/-- Eight words. -/
structure V8 where
  a : UInt32
  b : UInt32
  c : UInt32
  d : UInt32
  e : UInt32
  f : UInt32
  g : UInt32
  h : UInt32
def V8.list (v : V8) : List UInt32 := [v.a, v.b, v.c, v.d, v.e, v.f, v.g, v.h]
def V8.of (l : List UInt32) : V8 := ⟨l.getD 0 0, l.getD 1 0, l.getD 2 0, l.getD 3 0, l.getD 4 0, l.getD 5 0, l.getD 6 0, l.getD 7 0⟩
def oneOf (v : V8) (k w : UInt32) : UInt32 := addW (addW (addW (addW v.h (xorW (xorW (rotr v.e 6) (rotr v.e 11)) (rotr v.e 25))) (xorW (andW v.e v.f) (notW v.g v.e))) k) w
def twoOf (v : V8) : UInt32 := addW (xorW (xorW (rotr v.a 2) (rotr v.a 13)) (rotr v.a 22)) (xorW (xorW (andW v.a v.b) (andW v.a v.c)) (andW v.b v.c))
def stepV (v : V8) (k w : UInt32) : V8 := ⟨addW (oneOf v k w) (twoOf v), v.a, v.b, v.c, addW v.d (oneOf v k w), v.e, v.f, v.g⟩
def roundsV (k w : List UInt32) (v : V8) : Nat → V8
  | 0 => v
  | t + 1 => stepV (roundsV k w v t) (k.getD t 0) (w.getD t 0)
def addL : List UInt32 → List UInt32 → List UInt32
  | x :: l, y :: m => addW x y :: addL l m
  | _, _ => []
def compress (k e : List UInt32) (m : List UInt8) : List UInt32 := addL e (roundsV k (schedL m 64) (V8.of e) 64).list
/-- All whole blocks of a message. -/
def blocksF (k : List UInt32) : Nat → List UInt32 → List UInt8 → List UInt32
  | 0, e, _ => e
  | n + 1, e, m => blocksF k n (compress k e (m.take 64)) (m.drop 64)
def blocksL (k e : List UInt32) (m : List UInt8) : List UInt32 := blocksF k (m.length / 64) e m
def be8 (n : Nat) : List UInt8 := [UInt8.ofNat (n / 2 ^ 56), UInt8.ofNat (n / 2 ^ 48), UInt8.ofNat (n / 2 ^ 40), UInt8.ofNat (n / 2 ^ 32), UInt8.ofNat (n / 2 ^ 24), UInt8.ofNat (n / 2 ^ 16), UInt8.ofNat (n / 2 ^ 8), UInt8.ofNat n]
def be4 (x : UInt32) : List UInt8 := [UInt8.ofNat (x.toNat / 16777216), UInt8.ofNat (x.toNat / 65536), UInt8.ofNat (x.toNat / 256), UInt8.ofNat x.toNat]
/-- A message, and what follows it. -/
def followedL (b : List UInt8) : List UInt8 := b ++ (128 :: (List.replicate ((119 - b.length % 64) % 64) 0 ++ be8 (b.length * 8 % 18446744073709551616)))
def sumK (k e : List UInt32) (b : List UInt8) : List UInt8 := (blocksL k e (followedL b)).flatMap be4
def k64 : List UInt32 := [
  0x428a2f98, 0x71374491, 0xb5c0fbcf, 0xe9b5dba5, 0x3956c25b, 0x59f111f1, 0x923f82a4, 0xab1c5ed5,
  0xd807aa98, 0x12835b01, 0x243185be, 0x550c7dc3, 0x72be5d74, 0x80deb1fe, 0x9bdc06a7, 0xc19bf174,
  0xe49b69c1, 0xefbe4786, 0x0fc19dc6, 0x240ca1cc, 0x2de92c6f, 0x4a7484aa, 0x5cb0a9dc, 0x76f988da,
  0x983e5152, 0xa831c66d, 0xb00327c8, 0xbf597fc7, 0xc6e00bf3, 0xd5a79147, 0x06ca6351, 0x14292967,
  0x27b70a85, 0x2e1b2138, 0x4d2c6dfc, 0x53380d13, 0x650a7354, 0x766a0abb, 0x81c2c92e, 0x92722c85,
  0xa2bfe8a1, 0xa81a664b, 0xc24b8b70, 0xc76c51a3, 0xd192e819, 0xd6990624, 0xf40e3585, 0x106aa070,
  0x19a4c116, 0x1e376c08, 0x2748774c, 0x34b0bcb5, 0x391c0cb3, 0x4ed8aa4a, 0x5b9cca4f, 0x682e6ff3,
  0x748f82ee, 0x78a5636f, 0x84c87814, 0x8cc70208, 0x90befffa, 0xa4506ceb, 0xbef9a3f7, 0xc67178f2]
def h8 : List UInt32 := [0x6a09e667, 0xbb67ae85, 0x3c6ef372, 0xa54ff53a, 0x510e527f, 0x9b05688c, 0x1f83d9ab, 0x5be0cd19]
/-- THE HASH of a message. -/
def sumL (b : List UInt8) : List UInt8 := sumK k64 h8 b
end Go.Proofs.Ytegicioofbhifaa
/- The plain law of a stream: bytes that go in piece by piece. No program in sight. -/
namespace Go.Proofs.Ytegicioofbhifaa
set_option linter.unusedVariables false
set_option linter.unusedSimpArgs false

theorem length_addL : ∀ (a b : List UInt32), a.length = b.length → (addL a b).length = a.length
  | [], [], _ => rfl
  | x :: a, y :: b, h => by simp [addL]; exact length_addL a b (by simpa using h)
  | [], _ :: _, h => by simp at h
  | _ :: _, [], h => by simp at h
theorem length_compress (k e : List UInt32) (m : List UInt8) (he : e.length = 8) : (compress k e m).length = 8 := by
  rw [compress, length_addL _ _ (by rw [he]; rfl), he]
theorem length_blocksF (k : List UInt32) : ∀ (n : Nat) (e : List UInt32) (m : List UInt8), e.length = 8 → (blocksF k n e m).length = 8
  | 0, e, m, h => h
  | n + 1, e, m, h => length_blocksF k n _ _ (length_compress k e _ h)
theorem blocksF_app (k : List UInt32) : ∀ (n : Nat) (e : List UInt32) (m x : List UInt8), 64 * n ≤ m.length → blocksF k n e (m ++ x) = blocksF k n e m
  | 0, e, m, x, _ => rfl
  | n + 1, e, m, x, h => by
    rw [blocksF, blocksF, List.take_append_of_le_length (by omega), List.drop_append_of_le_length (by omega)]
    exact blocksF_app k n _ _ x (by simp; omega)
theorem blocksF_snoc (k : List UInt32) : ∀ (n : Nat) (e : List UInt32) (m : List UInt8), blocksF k (n + 1) e m = compress k (blocksF k n e m) ((m.drop (64 * n)).take 64)
  | 0, e, m => by simp [blocksF]
  | n + 1, e, m => by
    rw [blocksF, blocksF_snoc k n]
    rw [blocksF]
    congr 2
    rw [List.drop_drop]
    congr 1
    omega
/-- What waits of a message: what is left behind its whole blocks. -/
def restL (b : List UInt8) : List UInt8 := b.drop (64 * (b.length / 64))
theorem length_restL (b : List UInt8) : (restL b).length = b.length % 64 := by
  rw [restL, List.length_drop]; omega
/-- Some bytes more, and no block is full. -/
theorem stream_few (k e : List UInt32) (b c : List UInt8) (h : b.length % 64 + c.length < 64) : blocksL k e (b ++ c) = blocksL k e b ∧ restL (b ++ c) = restL b ++ c := by
  have h1 : (b ++ c).length / 64 = b.length / 64 := by rw [List.length_append]; omega
  unfold blocksL restL
  rw [h1, blocksF_app _ _ _ _ _ (by omega), List.drop_append_of_le_length (by omega)]
  exact ⟨rfl, rfl⟩
/-- Some bytes more, and a block is full. -/
theorem stream_full (k e : List UInt32) (b c : List UInt8) (h : b.length % 64 + c.length = 64) : blocksL k e (b ++ c) = compress k (blocksL k e b) (restL b ++ c) ∧ restL (b ++ c) = [] := by
  have h1 : (b ++ c).length / 64 = b.length / 64 + 1 := by rw [List.length_append]; omega
  unfold blocksL restL
  rw [h1, blocksF_snoc, blocksF_app _ _ _ _ _ (by omega), List.drop_append_of_le_length (by omega)]
  refine ⟨?_, List.drop_eq_nil_of_le (by rw [List.length_append]; omega)⟩
  rw [List.take_of_length_le (by simp; omega)]
end Go.Proofs.Ytegicioofbhifaa
/- The walk of the stream's block: 64 bytes that wait are taken. -/
namespace Go.Proofs.Ytegicioofbhifaa
open Go.RowKit
set_option linter.unusedVariables false
set_option linter.unusedSimpArgs false

/-- The cells of a stream. -/
def stL (e k : List UInt32) (m : List UInt8) (hv al : Int) : List Value := e.map cw ++ (k.map cw ++ (m.map cb ++ [.int .i64 hv, .int .u64 al]))
section
variable {e k : List UInt32} {m : List UInt8} {hv al : Int}
theorem st_e (he : e.length = 8) (i : Nat) (hi : i < 8) : (stL e k m hv al)[i]? = some (cw (e.getD i 0)) := by
  unfold stL
  rw [List.getElem?_append_left (by simp; omega), List.getElem?_map, getD_of e 0 i (by omega)]; rfl
theorem st_k (he : e.length = 8) (hk : k.length = 64) (t : Nat) (ht : t < 64) : (stL e k m hv al)[8 + t]? = some (cw (k.getD t 0)) := by
  unfold stL
  rw [List.getElem?_append_right (by simp; omega), List.getElem?_append_left (by simp; omega), List.length_map, he, Nat.add_sub_cancel_left, List.getElem?_map, getD_of k 0 t (by omega)]; rfl
theorem st_m (he : e.length = 8) (hk : k.length = 64) (hm : m.length = 64) (j : Nat) (hj : j < 64) : (stL e k m hv al)[72 + j]? = some (cb (m.getD j 0)) := by
  unfold stL
  rw [List.getElem?_append_right (by simp; omega), List.length_map, he, List.getElem?_append_right (by simp; omega), List.length_map, hk, List.getElem?_append_left (by simp; omega), show 72 + j - 8 - 64 = j by omega, List.getElem?_map, getD_of m 0 j (by omega)]; rfl
theorem st_have (he : e.length = 8) (hk : k.length = 64) (hm : m.length = 64) : (stL e k m hv al)[136]? = some (.int .i64 hv) := by
  unfold stL
  rw [List.getElem?_append_right (by simp; omega), List.length_map, he, List.getElem?_append_right (by simp; omega), List.length_map, hk, List.getElem?_append_right (by simp; omega), List.length_map, hm]; rfl
theorem st_all (he : e.length = 8) (hk : k.length = 64) (hm : m.length = 64) : (stL e k m hv al)[137]? = some (.int .u64 al) := by
  unfold stL
  rw [List.getElem?_append_right (by simp; omega), List.length_map, he, List.getElem?_append_right (by simp; omega), List.length_map, hk, List.getElem?_append_right (by simp; omega), List.length_map, hm]; rfl
end
theorem or_add (a b i : Nat) (hb : b < 2 ^ i) : a * 2 ^ i ||| b = a * 2 ^ i + b := by
  rw [← Nat.shiftLeft_eq, Nat.shiftLeft_add_eq_or_of_lt hb]
theorem wrap_nat (n : Nat) (h : n < 4294967296) : IntKind.u32.wrap (n : Int) = (n : Int) := by rw [IntKind.wrap_u32]; omega
theorem four_join (a b c : Nat) : (a * 256 + b) * 2 ^ 16 + c * 2 ^ 8 = (a * 65536 + b * 256 + c) * 2 ^ 8 := by omega
theorem wd_four (b0 b1 b2 b3 : UInt8) : bits BinOp.or IntKind.u32 (bits BinOp.or IntKind.u32 (bits BinOp.or IntKind.u32 (IntKind.u32.wrap (IntKind.u32.wrap (b0.toNat : Int) * 16777216)) (IntKind.u32.wrap (IntKind.u32.wrap (b1.toNat : Int) * 65536))) (IntKind.u32.wrap (IntKind.u32.wrap (b2.toNat : Int) * 256))) (IntKind.u32.wrap (b3.toNat : Int)) = ((word4 b0 b1 b2 b3).toNat : Int) := by
  have f0 : b0.toNat < 256 := UInt8.toNat_lt b0
  have f1 : b1.toNat < 256 := UInt8.toNat_lt b1
  have f2 : b2.toNat < 256 := UInt8.toNat_lt b2
  have f3 : b3.toNat < 256 := UInt8.toNat_lt b3
  unfold word4
  rw [UInt32.toNat_ofNat', Nat.mod_eq_of_lt (by omega)]
  generalize b0.toNat = a at *
  generalize b1.toNat = b at *
  generalize b2.toNat = c at *
  generalize b3.toNat = d at *
  have e1 : (a : Int) * 16777216 = ((a * 2 ^ 24 : Nat) : Int) := by omega
  have e2 : (b : Int) * 65536 = ((b * 2 ^ 16 : Nat) : Int) := by omega
  have e3 : (c : Int) * 256 = ((c * 2 ^ 8 : Nat) : Int) := by omega
  rw [wrap_nat a (by omega), wrap_nat b (by omega), wrap_nat c (by omega), wrap_nat d (by omega), e1, e2, e3, wrap_nat _ (by omega), wrap_nat _ (by omega), wrap_nat _ (by omega)]
  rw [bits_or32 _ _ (by omega) (by omega), or_add _ _ 24 (by omega)]
  have e4 : a * 2 ^ 24 + b * 2 ^ 16 = (a * 256 + b) * 2 ^ 16 := by omega
  rw [bits_or32 _ _ (by omega) (by omega), e4, or_add _ _ 16 (by omega)]
  have e5 : (a * 256 + b) * 2 ^ 16 + c * 2 ^ 8 = (a * 65536 + b * 256 + c) * 2 ^ 8 := four_join a b c
  rw [bits_or32 _ _ (by omega) (by omega), e5, or_add _ _ 8 (by omega)]
  all_goals (congr 1; omega)
/-- Words laid, and noughts behind. -/
def padW (L : List UInt32) : List Value := (L ++ List.replicate (64 - L.length) 0).map cw

set_option maxHeartbeats 1000000 in
theorem pad_at (L : List UInt32) (j : Nat) (h : j < L.length) : (padW L)[j]? = some (cw (L.getD j 0)) := by
  rw [padW, List.getElem?_map, List.getElem?_append_left h, getD_of L 0 j h]; rfl
theorem pad_in (L : List UInt32) (j : Nat) (h : L.length ≤ 64) (hj : j < 64) : ∃ v, (padW L)[j]? = some v := by
  have : j < (padW L).length := by simp [padW]; omega
  exact ⟨_, List.getElem?_eq_getElem this⟩
theorem pad_set (L : List UInt32) (x : UInt32) (h : L.length < 64) : (padW L).toArray.setIfInBounds L.length (cw x) = (padW (L ++ [x])).toArray := by
  apply Array.ext'
  rw [Array.toList_setIfInBounds]
  simp only [padW, List.length_append, List.length_singleton]
  rw [List.map_append, List.map_append, List.map_append, show (64 - L.length) = (64 - (L.length + 1)) + 1 by omega, List.replicate_succ, List.map_cons]
  rw [List.set_append_right _ _ (by simp)]
  simp
theorem list8 {α : Type} (l : List α) (h : l.length = 8) : ∃ a b c d e f g i, l = [a, b, c, d, e, f, g, i] := by
  match l, h with
  | [a, b, c, d, e, f, g, i], _ => exact ⟨a, b, c, d, e, f, g, i, rfl⟩
/-- The cells of eight words. -/
def v8c (v : V8) : Array Value := #[cw v.a, cw v.b, cw v.c, cw v.d, cw v.e, cw v.f, cw v.g, cw v.h]
/-- The first i of eight words, each with another one added. -/
def mixE (e V : List UInt32) : Nat → List UInt32
  | 0 => e
  | i + 1 => (mixE e V i).set i (addW (e.getD i 0) (V.getD i 0))
theorem length_mixE (e V : List UInt32) (i : Nat) : (mixE e V i).length = e.length := by
  induction i with
  | zero => rfl
  | succ i ih => simp [mixE, ih]
theorem mixE_at (e V : List UInt32) (i j : Nat) (h : i ≤ j) : (mixE e V i).getD j 0 = e.getD j 0 := by
  induction i with
  | zero => rfl
  | succ i ih =>
    rw [mixE, ← ih (by omega)]
    simp only [List.getD, List.getElem?_set]
    rw [if_neg (by omega)]
theorem st_set (e k : List UInt32) (m : List UInt8) (hv al : Int) (i : Nat) (x : UInt32) (h : i < e.length) : (stL e k m hv al).toArray.setIfInBounds i (cw x) = (stL (e.set i x) k m hv al).toArray := by
  apply Array.ext'
  rw [Array.toList_setIfInBounds]
  unfold stL
  rw [List.set_append_left _ _ (by simpa using h), List.map_set]
theorem st_setHave (e k : List UInt32) (m : List UInt8) (hv hv' al : Int) (he : e.length = 8) (hk : k.length = 64) (hm : m.length = 64) : (stL e k m hv al).toArray.setIfInBounds 136 (.int .i64 hv') = (stL e k m hv' al).toArray := by
  apply Array.ext'
  rw [Array.toList_setIfInBounds]
  unfold stL
  rw [List.set_append_right _ _ (by simp; omega), List.set_append_right _ _ (by simp; omega), List.set_append_right _ _ (by simp; omega)]
  simp [he, hk, hm]
theorem v8c_at (v : V8) (i : Nat) (h : i < 8) : (v8c v)[i]? = some (cw (v.list.getD i 0)) := by
  have e : v8c v = (v.list.map cw).toArray := rfl
  rw [e, List.getElem?_toArray, List.getElem?_map, getD_of v.list 0 i h]; rfl
attribute [local go_sem] cb cw w_xor w_add w_add' w_and w_andNot w_shr3 w_shr10
set_option maxHeartbeats 8000000 in
set_option maxRecDepth 100000 in
theorem block_any (g : Nat) (e k : List UInt32) (m : List UInt8) (hv al : Int) (w : World) (he : e.length = 8) (hk : k.length = 64) (hm : m.length = 64) (h : w.heap[g]? = some (.cells (stL e k m hv al).toArray 114 (0, 0))) :
    Calls Try.prog 92 #[.pointer (some ⟨g, 0, none⟩)] w fun r w' => r = .returned (.tuple #[]) ∧ w'.heap[g]? = some (.cells (stL (compress k e m) k m 0 al).toArray 114 (0, 0)) ∧ w.grownBy w' (some g) := by
  have hg := lt_of_block h
  go_enter Try.func92, Try.ntmps92
  go_wp2_with fail
  go_loopw [14] (fun s14 wr => ∃ i : Nat, i ≤ 16 ∧ s14 = .int .i64 i ∧ wr.heap[w.heap.size]? = some (.cells (padW (schedL m i)).toArray 61 (0, 0)) ∧ Ext w wr) (fun s _ => (16 - intOf s).toNat)
  case atStart => exact ⟨0, by omega, rfl, heap_alloc_new _ _, (Below.refl _ _).alloc (Nat.le_refl _) _⟩
  case round =>
    obtain ⟨i, hi, rfl, hW, hx⟩ := hrel
    obtain ⟨w1, rfl⟩ : ∃ w1, w1 = wr := ⟨_, rfl⟩
    by_cases hlt : i < 16
    · have hlt' : (i : Int) < 16 := by omega
      have hi0 : (0 : Int) ≤ i := by omega
      obtain ⟨q, hq⟩ : ∃ q, q = 4 * i := ⟨_, rfl⟩
      have hqi : IntKind.i64.wrap (4 * (i : Int)) = q := by rw [IntKind.wrap_i64]; omega
      have hq0 : (4 : Int) * (i : Int) = q := by omega
      have hql : (q : Int) + 4 ≤ 64 := by omega
      have hqn : (0 : Int) ≤ q := by omega
      have h1 := (hx.block g hg).trans h
      have hqq : q + 4 ≤ 64 := by omega
      have d0 := (cell_blk h1 (72 + q)).trans (st_m he hk hm q (by omega))
      have d1 := (cell_blk h1 (72 + (q + 1))).trans (st_m he hk hm (q + 1) (by omega))
      have d2 := (cell_blk h1 (72 + (q + 2))).trans (st_m he hk hm (q + 2) (by omega))
      have d3 := (cell_blk h1 (72 + (q + 3))).trans (st_m he hk hm (q + 3) (by omega))
      have a1 : (q : Int) ≤ q + 4 := by omega
      have a2 : ((q : Int) + 4).toNat = q + 4 := by omega
      replace hq := hide hq
      go_wp2_with fail
      replace d0 : w1.drew.cell? _ = _ := d0
      replace d1 : w1.drew.cell? ⟨g, 72 + q + 1, none⟩ = _ := d1
      replace d2 : w1.drew.cell? ⟨g, 72 + q + 2, none⟩ = _ := d2
      replace d3 : w1.drew.cell? ⟨g, 72 + q + 3, none⟩ = _ := d3
      obtain ⟨b0, hb0⟩ : ∃ x, x = m.getD q 0 := ⟨_, rfl⟩
      rw [← hb0] at d0
      replace hb0 := hide hb0
      obtain ⟨b1, hb1⟩ : ∃ x, x = m.getD (q + 1) 0 := ⟨_, rfl⟩
      rw [← hb1] at d1
      replace hb1 := hide hb1
      obtain ⟨b2, hb2⟩ : ∃ x, x = m.getD (q + 2) 0 := ⟨_, rfl⟩
      rw [← hb2] at d2
      replace hb2 := hide hb2
      obtain ⟨b3, hb3⟩ : ∃ x, x = m.getD (q + 3) 0 := ⟨_, rfl⟩
      rw [← hb3] at d3
      replace hb3 := hide hb3
      have f0 : b0.toNat < 256 := UInt8.toNat_lt b0
      have f1 : b1.toNat < 256 := UInt8.toNat_lt b1
      have f2 : b2.toNat < 256 := UInt8.toNat_lt b2
      have f3 : b3.toNat < 256 := UInt8.toNat_lt b3
      have hi64 : (i : Int) < 64 := by omega
      have hword := wd_four b0 b1 b2 b3
      have c1 := cell_blk hW i
      have c2 := free_blk hW i
      rw [getD_of _ undef i (by simp [padW, length_schedL]; omega)] at c1
      replace c1 : w1.drew.cell? _ = _ := c1
      replace c2 : w1.drew.frozen? _ = _ := c2
      replace hW : w1.drew.heap[w.heap.size]? = _ := hW
      replace hx : Ext w w1.drew := hx.trans ⟨rfl, rfl, rfl, Nat.le_refl _, fun _ _ => rfl⟩
      clear h1
      go_still_tail 24, (by kernel_rfl)
      change wpList _ _ _ _ _ w1.drew
      generalize w1.drew = w2 at *
      go_wp2_with fail
      go_roundw
      case rel =>
        refine ⟨i + 1, by omega, by go_num, ?_, Below.setCell (p := ⟨w.heap.size, i, none⟩) hx (Nat.le_refl _) _⟩
        rw [heap_setCell hW, schedL, if_pos hlt, wordAt, ← hq.out, ← hb0.out, ← hb1.out, ← hb2.out, ← hb3.out]
        have := pad_set (schedL m i) (word4 b0 b1 b2 b3) (by rw [length_schedL]; omega)
        rw [length_schedL] at this
        exact congrArg (fun A => some (Obj.cells A _ _)) this
      case measure => simp [intOf]; omega
    · obtain rfl : i = 16 := by omega
      clear hlt hi
      rw [show ((16 : Nat) : Int) = 16 from rfl]
      go_wp2_with fail
      go_loopw [6] (fun s6 wr => ∃ t : Nat, 16 ≤ t ∧ t ≤ 64 ∧ s6 = .int .i64 t ∧ wr.heap[w.heap.size]? = some (.cells (padW (schedL m t)).toArray 61 (0, 0)) ∧ Ext w wr) (fun s _ => (64 - intOf s).toNat)
      case atStart => exact ⟨16, by omega, by omega, rfl, hW, hx⟩
      case round =>
        clear hW hx
        obtain ⟨t, ht16, ht, rfl, hW, hx⟩ := hrel
        obtain ⟨w2, rfl⟩ : ∃ w2, w2 = wr := ⟨_, rfl⟩
        by_cases hlt : t < 64
        · have hlt' : (t : Int) < 64 := by omega
          have ht0 : (0 : Int) ≤ t := by omega
          have hlen := length_schedL m t
          obtain ⟨n2, h2⟩ : ∃ n, n = t - 2 := ⟨_, rfl⟩
          obtain ⟨n7, h7⟩ : ∃ n, n = t - 7 := ⟨_, rfl⟩
          obtain ⟨n15, h15⟩ : ∃ n, n = t - 15 := ⟨_, rfl⟩
          obtain ⟨n16, h16⟩ : ∃ n, n = t - 16 := ⟨_, rfl⟩
          have k2 : IntKind.i64.wrap ((t : Int) - 2) = n2 := by rw [IntKind.wrap_i64]; omega
          have k7 : IntKind.i64.wrap ((t : Int) - 7) = n7 := by rw [IntKind.wrap_i64]; omega
          have k15 : IntKind.i64.wrap ((t : Int) - 15) = n15 := by rw [IntKind.wrap_i64]; omega
          have k16 : IntKind.i64.wrap ((t : Int) - 16) = n16 := by rw [IntKind.wrap_i64]; omega
          have j2 : (t : Int) - 2 = n2 := by omega
          have j7 : (t : Int) - 7 = n7 := by omega
          have j15 : (t : Int) - 15 = n15 := by omega
          have j16 : (t : Int) - 16 = n16 := by omega
          have l2 : (n2 : Int) < 64 ∧ (0 : Int) ≤ n2 := by omega
          have l7 : (n7 : Int) < 64 ∧ (0 : Int) ≤ n7 := by omega
          have l15 : (n15 : Int) < 64 ∧ (0 : Int) ≤ n15 := by omega
          have l16 : (n16 : Int) < 64 ∧ (0 : Int) ≤ n16 := by omega
          have v7 : IntKind.i64.wrap (n7 : Int) = n7 := by rw [IntKind.wrap_i64]; omega
          have v16 : IntKind.i64.wrap (n16 : Int) = n16 := by rw [IntKind.wrap_i64]; omega
          obtain ⟨l2, l2'⟩ := l2
          obtain ⟨l7, l7'⟩ := l7
          obtain ⟨l15, l15'⟩ := l15
          obtain ⟨l16, l16'⟩ := l16
          have d2 := (cell_blk hW n2).trans (pad_at _ _ (by omega))
          have d7 := (cell_blk hW n7).trans (pad_at _ _ (by omega))
          have d15 := (cell_blk hW n15).trans (pad_at _ _ (by omega))
          have d16 := (cell_blk hW n16).trans (pad_at _ _ (by omega))
          obtain ⟨vt, hvt⟩ := pad_in (schedL m t) t (by omega) hlt
          have dt := (cell_blk hW t).trans hvt
          have ft := free_blk hW t
          clear hvt
          have hnext : nextW (schedL m t) t = nextOf ((schedL m t).getD n2 0) ((schedL m t).getD n7 0) ((schedL m t).getD n15 0) ((schedL m t).getD n16 0) := by rw [nextW, h2, h7, h15, h16]
          generalize (schedL m t).getD n2 0 = x2 at d2 hnext
          generalize (schedL m t).getD n7 0 = x7 at d7 hnext
          generalize (schedL m t).getD n15 0 = x15 at d15 hnext
          generalize (schedL m t).getD n16 0 = x16 at d16 hnext
          replace hnext := hide hnext
          clear h2 h7 h15 h16 hlen
          go_wp2_with fail
          go_quiet (fail)
          go_wp2_with fail
          replace hW : (w2.drewN nq).heap[w.heap.size]? = _ := hW
          replace hx : Ext w (w2.drewN nq) := hx.trans ⟨rfl, rfl, rfl, Nat.le_refl _, fun _ _ => rfl⟩
          replace d7 : (w2.drewN nq).cell? _ = _ := d7
          replace d16 : (w2.drewN nq).cell? _ = _ := d16
          replace dt : (w2.drewN nq).cell? _ = _ := dt
          replace ft : (w2.drewN nq).frozen? _ = _ := ft
          clear d2 d15
          generalize w2.drewN nq = w3 at *
          replace hW : w3.drew.heap[w.heap.size]? = _ := hW
          replace hx : Ext w w3.drew := hx.trans ⟨rfl, rfl, rfl, Nat.le_refl _, fun _ _ => rfl⟩
          replace d7 : w3.drew.cell? _ = _ := d7
          replace d16 : w3.drew.cell? _ = _ := d16
          replace dt : w3.drew.cell? _ = _ := dt
          replace ft : w3.drew.frozen? _ = _ := ft
          go_still_tail 33, (by kernel_rfl)
          still_call (rot_any x2 17 (by decide) (by decide) _)
          repeat still_step
          still_call (rot_any x2 19 (by decide) (by decide) _)
          repeat still_step
          still_call (rot_any x15 7 (by decide) (by decide) _)
          repeat still_step
          still_call (rot_any x15 18 (by decide) (by decide) _)
          repeat still_step
          try refine wpStill_nil ?_
          change wpList _ _ _ _ _ w3.drew
          generalize w3.drew = w4 at *
          go_wp2_with fail
          go_roundw
          case rel =>
            refine ⟨t + 1, by omega, by omega, by go_num, ?_, Below.setCell (p := ⟨w.heap.size, t, none⟩) hx (Nat.le_refl _) _⟩
            rw [heap_setCell hW, schedL, if_neg (by omega), hnext.out]
            have := pad_set (schedL m t) (nextOf x2 x7 x15 x16) (by rw [length_schedL]; omega)
            rw [length_schedL] at this
            rw [← this]
            rfl
          case measure => simp [intOf]; omega
        · obtain rfl : t = 64 := by omega
          clear hlt ht16 ht
          rw [show ((64 : Nat) : Int) = 64 from rfl]
          have h2 := (hx.block g hg).trans h
          have z0 := (cell_blk h2 0).trans (st_e he 0 (by omega))
          have z1 := (cell_blk h2 1).trans (st_e he 1 (by omega))
          have z2 := (cell_blk h2 2).trans (st_e he 2 (by omega))
          have z3 := (cell_blk h2 3).trans (st_e he 3 (by omega))
          have z4 := (cell_blk h2 4).trans (st_e he 4 (by omega))
          have z5 := (cell_blk h2 5).trans (st_e he 5 (by omega))
          have z6 := (cell_blk h2 6).trans (st_e he 6 (by omega))
          have z7 := (cell_blk h2 7).trans (st_e he 7 (by omega))
          obtain ⟨e0, e1, e2, e3, e4, e5, e6, e7, rfl⟩ := list8 e he
          go_wp2_with fail
          have hV : (w2.alloc (.cells (v8c (V8.of [e0, e1, e2, e3, e4, e5, e6, e7])) 60)).heap[w2.heap.size]? = some (.cells (v8c (V8.of [e0, e1, e2, e3, e4, e5, e6, e7])) 60 (0, 0)) := heap_alloc_new _ _
          have hB : Below w2.heap.size w2 (w2.alloc (.cells (v8c (V8.of [e0, e1, e2, e3, e4, e5, e6, e7])) 60)) := (Below.refl _ _).alloc (Nat.le_refl _) _
          have hN : w.heap.size < w2.heap.size := lt_of_block hW
          change Code.wp _ _ _ _ (w2.alloc (.cells (v8c (V8.of [e0, e1, e2, e3, e4, e5, e6, e7])) 60))
          generalize hgv : w2.heap.size = gv at *
          obtain ⟨w5, hw5⟩ : ∃ w5, w5 = w2.alloc (.cells (v8c (V8.of [e0, e1, e2, e3, e4, e5, e6, e7])) 60) := ⟨_, rfl⟩
          rw [← hw5] at hV hB ⊢
          replace hw5 := hide hw5
          replace hgv := hide hgv
          go_loopw [103] (fun s103 wr => ∃ t : Nat, t ≤ 64 ∧ s103 = .int .i64 t ∧ wr.heap[gv]? = some (.cells (v8c (roundsV k (schedL m 64) (V8.of [e0, e1, e2, e3, e4, e5, e6, e7]) t)) 60 (0, 0)) ∧ Below gv w5 wr) (fun s _ => (64 - intOf s).toNat)
          case atStart => exact ⟨0, by omega, rfl, hV, Below.refl _ _⟩
          case round =>
            clear hV
            obtain ⟨t, ht, rfl, hV, hb⟩ := hrel
            obtain ⟨w6, rfl⟩ : ∃ w6, w6 = wr := ⟨_, rfl⟩
            by_cases hlt : t < 64
            · have hlt' : (t : Int) < 64 := by omega
              have ht0 : (0 : Int) ≤ t := by omega
              have h6 := (hb.block g (by omega)).trans ((hB.block g (by omega)).trans h2)
              have hW6 := (hb.block w.heap.size hN).trans ((hB.block w.heap.size hN).trans hW)
              have dk := (cell_blk h6 (8 + t)).trans (st_k he hk t hlt)
              have dw := (cell_blk hW6 t).trans (pad_at _ _ (by rw [length_schedL]; exact hlt))
              have hstep : roundsV k (schedL m 64) (V8.of [e0, e1, e2, e3, e4, e5, e6, e7]) (t + 1) = stepV (roundsV k (schedL m 64) (V8.of [e0, e1, e2, e3, e4, e5, e6, e7]) t) (k.getD t 0) ((schedL m 64).getD t 0) := rfl
              generalize roundsV k (schedL m 64) (V8.of [e0, e1, e2, e3, e4, e5, e6, e7]) t = v at hV hstep
              generalize k.getD t 0 = kt at dk hstep
              generalize (schedL m 64).getD t 0 = wt at dw hstep
              replace hstep := hide hstep
              have hVL : w6.heap[gv]? = some (.cells [cw v.a, cw v.b, cw v.c, cw v.d, cw v.e, cw v.f, cw v.g, cw v.h].toArray 60 (0, 0)) := hV
              have c0 := cell_blk hVL 0
              have c1 := cell_blk hVL 1
              have c2 := cell_blk hVL 2
              have c3 := cell_blk hVL 3
              have c4 := cell_blk hVL 4
              have c5 := cell_blk hVL 5
              have c6 := cell_blk hVL 6
              have c7 := cell_blk hVL 7
              simp only [List.getElem?_cons_zero, List.getElem?_cons_succ] at c0 c1 c2 c3 c4 c5 c6 c7
              clear h6 hW6 hVL z0 z1 z2 z3 z4 z5 z6 z7
              go_wp2_with fail
              go_cut [11] from 106 to 145 (fun s11 wx => s11 = .int .u32 ((oneOf v kt wt).toNat : Int) ∧ ∃ nq, wx = w6.drewN nq)
              case first =>
                go_quiet (first | (go_at_call 107; exact Calls.quiet_of_same (rot_any v.e 6 (by decide) (by decide) _)) | (go_at_call 107; exact Calls.quiet_of_same (rot_any v.e 11 (by decide) (by decide) _)) | (go_at_call 107; exact Calls.quiet_of_same (rot_any v.e 25 (by decide) (by decide) _)))
                go_wp2_with fail
                go_meet
                exact ⟨rfl, nq, rfl⟩
              case rest =>
                obtain ⟨rfl, nq1, rfl⟩ := hcut
                replace hV : (w6.drewN nq1).heap[gv]? = _ := hV
                replace hb : Below gv w5 (w6.drewN nq1) := hb.trans ⟨rfl, rfl, rfl, Nat.le_refl _, fun _ _ => rfl⟩
                replace c0 : (w6.drewN nq1).cell? _ = _ := c0
                replace c1 : (w6.drewN nq1).cell? _ = _ := c1
                replace c2 : (w6.drewN nq1).cell? _ = _ := c2
                replace c3 : (w6.drewN nq1).cell? _ = _ := c3
                replace c4 : (w6.drewN nq1).cell? _ = _ := c4
                replace c5 : (w6.drewN nq1).cell? _ = _ := c5
                replace c6 : (w6.drewN nq1).cell? _ = _ := c6
                replace c7 : (w6.drewN nq1).cell? _ = _ := c7
                clear dk dw
                generalize w6.drewN nq1 = w7 at *
                go_wp2_with fail
                go_cut [12] from 146 to 177 (fun s12 wx => s12 = .int .u32 ((twoOf v).toNat : Int) ∧ ∃ nq, wx = w7.drewN nq)
                case first =>
                  go_quiet (first | (go_at_call 107; exact Calls.quiet_of_same (rot_any v.a 2 (by decide) (by decide) _)) | (go_at_call 107; exact Calls.quiet_of_same (rot_any v.a 13 (by decide) (by decide) _)) | (go_at_call 107; exact Calls.quiet_of_same (rot_any v.a 22 (by decide) (by decide) _)))
                  go_wp2_with fail
                  go_meet
                  exact ⟨rfl, nq, rfl⟩
                case rest =>
                  obtain ⟨rfl, nq2, rfl⟩ := hcut
                  replace hV : (w7.drewN nq2).heap[gv]? = _ := hV
                  replace hb : Below gv w5 (w7.drewN nq2) := hb.trans ⟨rfl, rfl, rfl, Nat.le_refl _, fun _ _ => rfl⟩
                  replace c0 : (w7.drewN nq2).cell? _ = _ := c0
                  replace c1 : (w7.drewN nq2).cell? _ = _ := c1
                  replace c2 : (w7.drewN nq2).cell? _ = _ := c2
                  replace c3 : (w7.drewN nq2).cell? _ = _ := c3
                  replace c4 : (w7.drewN nq2).cell? _ = _ := c4
                  replace c5 : (w7.drewN nq2).cell? _ = _ := c5
                  replace c6 : (w7.drewN nq2).cell? _ = _ := c6
                  replace c7 : (w7.drewN nq2).cell? _ = _ := c7
                  generalize w7.drewN nq2 = w8 at *
                  go_wp2_with fail
                  go_still_tail 2, (by kernel_rfl)
                  change wpList _ _ _ _ _ w8.drew
                  replace hV : w8.drew.heap[gv]? = some (.cells [cw v.a, cw v.b, cw v.c, cw v.d, cw v.e, cw v.f, cw v.g, cw v.h].toArray 60 (0, 0)) := hV
                  replace hb : Below gv w5 w8.drew := hb.trans ⟨rfl, rfl, rfl, Nat.le_refl _, fun _ _ => rfl⟩
                  clear c0 c1 c2 c3 c4 c5 c6 c7
                  generalize w8.drew = w9 at *
                  refine wpList_copy_splice rfl _ _ _ _ rfl 59 Try.underlying155 (by kernel_rfl) _ _ _ _ _ _ rfl rfl gv 1 _ _ hV [cw v.a, cw v.b, cw v.c, cw v.d, cw v.e, cw v.f, cw v.g] rfl (fun _ => ⟨rfl, _, rfl, fun j x hj => ?hsrc⟩) (by simp) (by intro x hx; simp at hx; rcases hx with rfl | rfl | rfl | rfl | rfl | rfl | rfl <;> rfl) gv w5 hb (Nat.le_refl _) ?_
                  case hsrc =>
                    have hj7 : j < 7 := (List.getElem?_eq_some_iff.1 hj).1
                    have hadd : (⟨gv, 0, none⟩ : Addr).add j = ⟨gv, j, none⟩ := by unfold Addr.add; split <;> simp_all
                    rw [hadd, cell_blk hV j, ← hj]
                    exact List.getElem?_append_left (l₂ := [cw v.h]) (l₁ := [cw v.a, cw v.b, cw v.c, cw v.d, cw v.e, cw v.f, cw v.g]) hj7
                  intro w10 h10 hb10
                  have h10 : w10.heap[gv]? = some (.cells [cw v.a, cw v.a, cw v.b, cw v.c, cw v.d, cw v.e, cw v.f, cw v.g].toArray 60 (0, 0)) := h10.out
                  have c4 := cell_blk h10 4
                  have c0 := cell_blk h10 0
                  simp only [List.getElem?_cons_zero, List.getElem?_cons_succ] at c0 c4
                  have f4 := free_blk h10 4
                  have f0 := free_blk h10 0
                  go_wp2_with fail
                  go_roundw
                  case rel =>
                    refine ⟨t + 1, by omega, by go_num, ?_, (hb10.setCell (p := ⟨gv, 4, none⟩) (Nat.le_refl _) _).setCell (p := ⟨gv, 0, none⟩) (Nat.le_refl _) _⟩
                    rw [heap_setCell (heap_setCell h10 _) _, hstep.out]
                    rfl
                  case measure => simp [intOf]; omega
            · obtain rfl : t = 64 := by omega
              clear hlt ht z0 z1 z2 z3 z4 z5 z6 z7
              rw [show ((64 : Nat) : Int) = 64 from rfl]
              have h6 := (hb.block g (by omega)).trans ((hB.block g (by omega)).trans h2)
              have hall : w.grownBy w6 (some g) := grown_ext (hx.trans ((hB.trans hb).mono (Nat.le_of_lt hN))) _
              have hcomp : compress k [e0, e1, e2, e3, e4, e5, e6, e7] m = mixE [e0, e1, e2, e3, e4, e5, e6, e7] (roundsV k (schedL m 64) (V8.of [e0, e1, e2, e3, e4, e5, e6, e7]) 64).list 8 := rfl
              generalize roundsV k (schedL m 64) (V8.of [e0, e1, e2, e3, e4, e5, e6, e7]) 64 = v at hV hcomp
              replace hcomp := hide hcomp
              clear hb hB hW hx h2
              generalize hee : [e0, e1, e2, e3, e4, e5, e6, e7] = e at *
              replace hee := hide hee
              go_wp2_with fail
              go_loopw [191] (fun s191 wr => ∃ i : Nat, i ≤ 8 ∧ s191 = .int .i64 i ∧ wr.heap[g]? = some (.cells (stL (mixE e v.list i) k m hv al).toArray 114 (0, 0)) ∧ wr.heap[gv]? = some (.cells (v8c v) 60 (0, 0)) ∧ w.grownBy wr (some g)) (fun s _ => (8 - intOf s).toNat)
              case atStart => exact ⟨0, by omega, rfl, h6, hV, hall⟩
              case round =>
                clear h6 hV hall
                obtain ⟨i, hi, rfl, h6, hV, hall⟩ := hrel
                obtain ⟨w7, rfl⟩ : ∃ w7, w7 = wr := ⟨_, rfl⟩
                have hel := length_mixE e v.list i
                rw [he] at hel
                by_cases hlt : i < 8
                · have hlt' : (i : Int) < 8 := by omega
                  have hi0 : (0 : Int) ≤ i := by omega
                  have d1 := (cell_blk h6 i).trans (st_e hel i hlt)
                  rw [mixE_at e v.list i i (Nat.le_refl _)] at d1
                  have d2 := (cell_of_row w7 gv i _ _ _ hV).trans (v8c_at v i hlt)
                  have f1 := free_blk h6 i
                  have hmix : mixE e v.list (i + 1) = (mixE e v.list i).set i (addW (e.getD i 0) (v.list.getD i 0)) := rfl
                  generalize e.getD i 0 = x at d1 hmix
                  generalize v.list.getD i 0 = y at d2 hmix
                  replace hmix := hide hmix
                  replace hel := hide hel
                  go_wp2_with fail
                  replace d1 : w7.drew.cell? _ = _ := d1
                  replace d2 : w7.drew.cell? _ = _ := d2
                  replace f1 : w7.drew.frozen? _ = _ := f1
                  go_still_tail 13, (by kernel_rfl)
                  change wpList _ _ _ _ _ w7.drew
                  replace h6 : w7.drew.heap[g]? = _ := h6
                  replace hV : w7.drew.heap[gv]? = _ := hV
                  replace hall := grown_drew hall
                  generalize w7.drew = w8 at *
                  go_wp2_with fail
                  go_roundw
                  case rel =>
                    refine ⟨i + 1, by omega, by go_num, ?_, ?_, grown_set hall i _⟩
                    · rw [heap_setCell h6 _, hmix.out]
                      exact congrArg (fun A => some (Obj.cells A _ _)) (st_set _ k m hv al i (addW x y) (by rw [hel.out]; exact hlt))
                    · exact (Below.heap_setCell _ _ _ _ (by show gv ≠ g; omega)).trans hV
                  case measure => simp [intOf]; omega
                · obtain rfl : i = 8 := by omega
                  clear hlt hi
                  have c1 := (cell_blk h6 136).trans (st_have hel hk hm)
                  have f1 := free_blk h6 136
                  go_wp2_with fail
                  go_end0
                  refine ⟨rfl, ?_, grown_set hall 136 _⟩
                  rw [heap_setCell h6 _, hee.out, hcomp.out]
                  exact congrArg (fun A => some (Obj.cells A _ _)) (st_setHave _ k m hv 0 al hel hk hm)
end Go.Proofs.Ytegicioofbhifaa
/- The walk of a stream's add. -/
namespace Go.Proofs.Ytegicioofbhifaa
open Go.RowKit
set_option linter.unusedVariables false
set_option linter.unusedSimpArgs false

/-- The stream at g has taken in these bytes; so many in all. -/
def StrAt (w : World) (g : Nat) (k e0 : List UInt32) (b : List UInt8) (al : Int) : Prop :=
  ∃ m : List UInt8, m.length = 64 ∧ m.take (b.length % 64) = restL b ∧ w.heap[g]? = some (.cells (stL (blocksL k e0 b) k m ((b.length % 64 : Nat) : Int) al).toArray 114 (0, 0))
/-- The rest of a slice of bytes. -/
def BytesAt (w : World) (g : Nat) (a : Option Addr) (q : Nat) (c : List UInt8) : Prop :=
  c.length = q ∧ (0 < q → ∃ ad, a = some ad ∧ ad.block ≠ g ∧ ∀ j, j < q → w.cell? (ad.add j) = some (cb (c.getD j 0)))
theorem BytesAt.grown {w w' : World} {g q : Nat} {a : Option Addr} {c : List UInt8} (h : BytesAt w g a q c) (hg : w.grownBy w' (some g)) : BytesAt w' g a q c :=
  ⟨h.1, fun hq => let ⟨ad, e1, e2, e3⟩ := h.2 hq; ⟨ad, e1, e2, fun j hj => hg.cell (a := ad.add j) (e3 j hj) (by rw [show (ad.add j).block = ad.block by unfold Addr.add; split <;> rfl]; intro e; exact e2 (Option.some.inj e))⟩⟩
theorem add_add (a : Addr) (i j : Nat) : (a.add i).add j = a.add (i + j) := by
  unfold Addr.add
  by_cases hi : i = 0
  · subst hi; simp
  · by_cases hj : j = 0
    · subst hj; simp
    · simp [hi, hj, Nat.add_assoc]
theorem grown_trans {w0 w1 w2 : World} {row : Option Nat} (h : w0.grownBy w1 row) (k : w1.grownBy w2 row) : w0.grownBy w2 row :=
  ⟨k.os.trans h.os, k.tape.trans h.tape, k.output.trans h.output, Nat.le_trans h.size k.size, fun i hi hne => (k.block i (Nat.lt_of_lt_of_le hi h.size) hne).trans (h.block i hi hne)⟩
theorem grown_row {w0 w : World} {g : Nat} (h : w0.grownBy w (some g)) (cs : Array Value) : w0.grownBy (w.setRow g cs) (some g) :=
  ⟨h.os, h.tape, h.output, by have := h.size; simpa [World.setRow] using this, fun k hk hne => (setRow_other w g k cs (fun e => hne (by rw [e]))).trans (h.block k hk hne)⟩
theorem st_waits (e k : List UInt32) (m c : List UInt8) (hv al : Int) (o : Nat) (he : e.length = 8) (hk : k.length = 64) (hm : m.length = 64) (ho : o + c.length ≤ 64) :
    ((stL e k m hv al).take (72 + o) ++ (c.map cb ++ (stL e k m hv al).drop (72 + o + c.length))) = stL e k (m.take o ++ (c ++ m.drop (o + c.length))) hv al := by
  unfold stL
  have h1 : (e.map cw).length = 8 := by simp [he]
  have h2 : (k.map cw).length = 64 := by simp [hk]
  have h3 : (m.map cb).length = 64 := by simp [hm]
  rw [List.take_append, List.take_of_length_le (l := e.map cw) (by omega), h1, List.take_append, List.take_of_length_le (l := k.map cw) (by omega), h2, List.take_append_of_le_length (by omega)]
  rw [List.drop_append, List.drop_eq_nil_of_le (show (e.map cw).length ≤ 72 + o + c.length by omega), h1, List.drop_append, List.drop_eq_nil_of_le (show (k.map cw).length ≤ 72 + o + c.length - 8 by omega), h2, List.drop_append_of_le_length (by omega)]
  rw [show 72 + o - 8 - 64 = o by omega, show 72 + o + c.length - 8 - 64 = o + c.length by omega]
  simp [List.map_take, List.map_drop]

theorem st_setAll (e k : List UInt32) (m : List UInt8) (hv al al' : Int) (he : e.length = 8) (hk : k.length = 64) (hm : m.length = 64) : (stL e k m hv al).toArray.setIfInBounds 137 (.int .u64 al') = (stL e k m hv al').toArray := by
  apply Array.ext'
  rw [Array.toList_setIfInBounds]
  unfold stL
  rw [List.set_append_right _ _ (by simp; omega), List.set_append_right _ _ (by simp; omega), List.set_append_right _ _ (by simp; omega)]
  simp [he, hk, hm]
theorem str_few {w : World} {g : Nat} {k e0 : List UInt32} {b x m1 m2 : List UInt8} {al : Int} {hv n1 : Nat} (hhv : hv = b.length % 64) (hx : x.length = n1) (h : hv + n1 < 64) (hm1 : m1.length = 64) (hrest : m1.take hv = restL b) (hm2 : m2 = m1.take hv ++ (x ++ m1.drop (hv + n1)))
    (hs : w.heap[g]? = some (.cells (stL (blocksL k e0 b) k m2 ((hv : Int) + n1) al).toArray 114 (0, 0))) : StrAt w g k e0 (b ++ x) al := by
  have h1 : (b ++ x).length % 64 = hv + n1 := by rw [List.length_append]; omega
  obtain ⟨e1, e2⟩ := stream_few k e0 b x (by omega)
  refine ⟨m2, by rw [hm2]; simp [hx]; omega, ?_, ?_⟩
  · rw [h1, hm2, e2, ← hrest, ← List.append_assoc]
    exact List.take_left' (by simp [hx]; omega)
  · rw [h1, e1, hs]; rfl
theorem str_full {w : World} {g : Nat} {k e0 : List UInt32} {b x m1 m2 : List UInt8} {al : Int} {hv n1 : Nat} (hhv : hv = b.length % 64) (hx : x.length = n1) (h : hv + n1 = 64) (hm1 : m1.length = 64) (hrest : m1.take hv = restL b) (hm2 : m2 = m1.take hv ++ (x ++ m1.drop (hv + n1)))
    (hs : w.heap[g]? = some (.cells (stL (compress k (blocksL k e0 b) m2) k m2 0 al).toArray 114 (0, 0))) : StrAt w g k e0 (b ++ x) al := by
  have h1 : (b ++ x).length % 64 = 0 := by rw [List.length_append]; omega
  obtain ⟨e1, e2⟩ := stream_full k e0 b x (by omega)
  have h2 : m2 = restL b ++ x := by rw [hm2, hrest, List.drop_eq_nil_of_le (by omega), List.append_nil]
  refine ⟨m2, by rw [hm2]; simp [hx]; omega, ?_, ?_⟩
  · rw [h1, e2]; rfl
  · rw [h1, e1, ← h2, hs]; rfl
theorem wrapI {n : Nat} (h : n ≤ 1000000) : IntKind.i64.wrap (n : Int) = n := by rw [IntKind.wrap_i64]; omega
set_option maxHeartbeats 8000000 in
set_option maxRecDepth 100000 in
theorem add_any (g : Nat) (k e0 : List UInt32) (b : List UInt8) (al : Int) (a : Option Addr) (n cap : Nat) (c : List UInt8) (w : World) (hk : k.length = 64) (he0 : e0.length = 8) (h : StrAt w g k e0 b al)
    (hc : BytesAt w g a n c) (hn : n ≤ cap) (hcap : cap ≤ maxLen) :
    Calls Try.prog 55 #[.pointer (some ⟨g, 0, none⟩), .slice a n cap] w fun r w' => r = .returned (.tuple #[]) ∧ StrAt w' g k e0 (b ++ c) (IntKind.u64.wrap (al + IntKind.u64.wrap n)) ∧ w.grownBy w' (some g) := by
  obtain ⟨m, hm, hrest, hs⟩ := h
  have hel : (blocksL k e0 b).length = 8 := length_blocksF k _ _ _ he0
  have c1 := (cell_blk hs 137).trans (st_all hel hk hm)
  have f1 := free_blk hs 137
  go_enter Try.func55, Try.ntmps55
  go_wp2_with fail
  obtain ⟨al1, hal1⟩ : ∃ x, x = IntKind.u64.wrap (al + IntKind.u64.wrap n) := ⟨_, rfl⟩
  rw [← hal1]
  have hs1 : StrAt (w.setCell ⟨g, 137, none⟩ (.int .u64 al1)) g k e0 b al1 :=
    ⟨m, hm, hrest, by rw [heap_setCell hs]; exact congrArg (fun A => some (Obj.cells A _ _)) (st_setAll _ _ _ _ _ _ hel hk hm)⟩
  have hg1 : w.grownBy (w.setCell ⟨g, 137, none⟩ (.int .u64 al1)) (some g) := grown_set (grown_ext (Below.refl _ _) _) 137 _
  replace hal1 := hide hal1
  go_loopw [1] (fun s1 wr => ∃ (p q cap' : Nat) (a' : Option Addr), p + q = n ∧ q ≤ cap' ∧ cap' ≤ maxLen ∧ s1 = .slice a' q cap' ∧ StrAt wr g k e0 (b ++ c.take p) al1 ∧ w.grownBy wr (some g) ∧ BytesAt w g a' q (c.drop p)) (fun s _ => (match s with | .slice _ q _ => q | _ => 0))
  case atStart => exact ⟨0, n, cap, a, by omega, hn, hcap, rfl, by simpa using hs1, hg1, hc⟩
  case round =>
    obtain ⟨p, q, cap', a', hpq, hqc, hcap', rfl, hst, hgr, hby⟩ := hrel
    obtain ⟨w1, rfl⟩ : ∃ w1, w1 = wr := ⟨_, rfl⟩
    clear hs1 hg1 c1 f1 hs hrest hm
    by_cases hq : 0 < q
    · have hq' : (0 : Int) < q := by omega
      obtain ⟨m1, hm1, hrest1, hs1⟩ := hst
      obtain ⟨ad, rfl, hne, hcell⟩ := (hby.grown hgr).2 hq
      have hcl := (hby.1)
      have hel1 : (blocksL k e0 (b ++ c.take p)).length = 8 := length_blocksF k _ _ _ he0
      obtain ⟨hv, hhv⟩ : ∃ hv, hv = (b ++ c.take p).length % 64 := ⟨_, rfl⟩
      rw [← hhv] at hs1 hrest1
      have hv64 : hv < 64 := by omega
      have d1 := (cell_blk hs1 136).trans (st_have hel1 hk hm1)
      have k0 : (0 : Int) ≤ hv := by omega
      have k1 : (hv : Int) ≤ 64 := by omega
      have k2 : ¬ 64 = hv := by omega
      replace d1 : w1.drew.cell? _ = _ := d1
      replace hhv := hide hhv
      obtain ⟨n1, hn1⟩ : ∃ n1, n1 = Nat.min q (64 - hv) := ⟨_, rfl⟩
      have hn1q : n1 ≤ q := by rw [hn1]; exact Nat.min_le_left _ _
      have hn1v : n1 ≤ 64 - hv := by rw [hn1]; exact Nat.min_le_right _ _
      have hn1c : n1 = q ∨ n1 + hv = 64 := by
        rcases Nat.le_total q (64 - hv) with h | h
        · left; rw [hn1]; exact Nat.min_eq_left h
        · right; rw [hn1, show Nat.min q (64 - hv) = 64 - hv from Nat.min_eq_right h]; omega
      obtain ⟨x, hx⟩ : ∃ x, x = (c.drop p).take n1 := ⟨_, rfl⟩
      have hxl : x.length = n1 := by rw [hx, List.length_take]; omega
      have hxc : ∀ j v, (x.map cb)[j]? = some v → w1.drew.cell? (ad.add j) = some v := by
        intro j v hj
        have hjl : j < n1 := by have := (List.getElem?_eq_some_iff.1 hj).1; simpa [hxl] using this
        rw [List.getElem?_map, hx, List.getElem?_take_of_lt hjl, getD_of _ 0 j (by omega)] at hj
        rw [← hj]
        exact hcell j (by omega)
      replace hx := hide hx
      replace hs1 : w1.drew.heap[g]? = _ := hs1
      replace hgr : w.grownBy w1.drew (some g) := grown_drew hgr
      clear hcell
      go_wp2_with fail
      go_still_tail 9, (by kernel_rfl)
      change wpList _ _ _ _ _ w1.drew
      generalize w1.drew = w2 at *
      refine wpList_copy_own rfl _ _ _ _ rfl 5 Try.underlying27 (by kernel_rfl) g (72 + hv) (64 - hv) (64 - hv) ad q cap' rfl rfl _ _ hs1 (x.map cb) (by rw [List.length_map, hxl, hn1]) hxc ?hfit (by intro v hv2; simp only [List.mem_map] at hv2; obtain ⟨y, _, rfl⟩ := hv2; rfl) ?_
      case hfit => simp [stL, hel1, hk, hm1, hxl]; omega
      have hlen : (x.map cb).length = n1 := by rw [List.length_map, hxl]
      have hm2 : (m1.take hv ++ (x ++ m1.drop (hv + n1))).length = 64 := by simp [hxl]; omega
      have hs2 : (w2.setRow g ((stL (blocksL k e0 (b ++ c.take p)) k m1 hv al1).toArray.toList.take (72 + hv) ++ (x.map cb ++ (stL (blocksL k e0 (b ++ c.take p)) k m1 hv al1).toArray.toList.drop (72 + hv + (x.map cb).length))).toArray).heap[g]? = some (.cells (stL (blocksL k e0 (b ++ c.take p)) k (m1.take hv ++ (x ++ m1.drop (hv + n1))) hv al1).toArray 114 (0, 0)) := by
        rw [setRow_heap _ _ _ _ _ _ hs1]
        have := st_waits (blocksL k e0 (b ++ c.take p)) k m1 x hv al1 hv hel1 hk hm1 (by omega)
        rw [hlen, hxl] at *
        exact congrArg (fun A : List Value => some (Obj.cells A.toArray _ _)) this
      have hgr2 := grown_row hgr ((stL (blocksL k e0 (b ++ c.take p)) k m1 hv al1).toArray.toList.take (72 + hv) ++ (x.map cb ++ (stL (blocksL k e0 (b ++ c.take p)) k m1 hv al1).toArray.toList.drop (72 + hv + (x.map cb).length))).toArray
      generalize w2.setRow g _ = w3 at hs2 hgr2 ⊢
      rw [hlen]
      generalize hmm2 : m1.take hv ++ (x ++ m1.drop (hv + n1)) = m2 at hm2 hs2
      replace hmm2 := hide hmm2
      replace hn1 := hide hn1
      clear d1 hs1 hgr hxc hlen
      have d3 := (cell_blk hs2 136).trans (st_have hel1 hk hm2)
      have f3 := free_blk hs2 136
      have k3 : (n1 : Int) ≤ 64 := by omega
      have k4 : (0 : Int) ≤ n1 := by omega
      have k5 : (n1 : Int) ≤ q := by omega
      have hs3 : (w3.setCell ⟨g, 136, none⟩ (.int .i64 ((hv : Int) + n1))).heap[g]? = some (.cells (stL (blocksL k e0 (b ++ c.take p)) k m2 ((hv : Int) + n1) al1).toArray 114 (0, 0)) := by
        rw [heap_setCell hs2]
        exact congrArg (fun A => some (Obj.cells A _ _)) (st_setHave _ k m2 hv _ al1 hel1 hk hm2)
      have hgr3 := grown_set hgr2 136 (.int .i64 ((hv : Int) + n1))
      replace hs3 := hide hs3
      have htk : b ++ c.take (p + n1) = (b ++ c.take p) ++ x := by rw [List.take_add, hx.out, List.append_assoc]
      replace htk := hide htk
      have hrel : ∀ w9, StrAt w9 g k e0 ((b ++ c.take p) ++ x) al1 → w.grownBy w9 (some g) → ∃ (p1 q1 cap1 : Nat) (a1 : Option Addr), p1 + q1 = n ∧ q1 ≤ cap1 ∧ cap1 ≤ maxLen ∧ Value.slice (if cap' = n1 then some ad else some (ad.add n1)) (q - n1) (cap' - n1) = .slice a1 q1 cap1 ∧ StrAt w9 g k e0 (b ++ c.take p1) al1 ∧ w.grownBy w9 (some g) ∧ BytesAt w g a1 q1 (c.drop p1) := by
        intro w9 h9 hg9
        refine ⟨p + n1, q - n1, cap' - n1, _, by omega, by omega, by omega, rfl, by rw [htk.out]; exact h9, hg9, ?_, ?_⟩
        · simp only [List.length_drop] at hcl ⊢; omega
        · intro hq1
          refine ⟨ad.add n1, if_neg (by omega), ?_, ?_⟩
          · intro e; exact hne (by rw [← e]; unfold Addr.add; split <;> rfl)
          · intro j hj
            rw [add_add]
            obtain ⟨ad', e1, _, e3⟩ := hby.2 hq
            obtain rfl := Option.some.inj e1
            rw [e3 (n1 + j) (by omega)]
            congr 2
            simp [List.getD, List.getElem?_drop, Nat.add_assoc]
      replace hrel := hide hrel
      replace hby := hide hby
      by_cases hfull : hv + n1 = 64
      · have hf' : (hv : Int) + n1 = 64 := by omega
        have hs4 := hs3.out
        rw [hf'] at hs4 hgr3
        replace hs4 := hide hs4
        go_wp2_with (go_at_call 92; (refine (block_any g _ k m2 _ al1 _ hel1 hk hm2 hs4.out).mono ?_); rintro r w4 ⟨rfl, hb4, hg4⟩)
        go_roundw
        case rel => exact hrel.out _ (str_full hhv.out hxl hfull hm1 hrest1 hmm2.out.symm hb4) (grown_trans hgr3 hg4)
        case measure => show q - n1 < q; omega
      · have hf' : ¬ (hv : Int) + n1 = 64 := by omega
        go_wp2_with fail
        go_roundw
        case rel => exact hrel.out _ (str_few hhv.out hxl (by omega) hm1 hrest1 hmm2.out.symm hs3.out) hgr3
        case measure => show q - n1 < q; omega
    · obtain rfl : q = 0 := by omega
      obtain rfl : p = n := by omega
      rw [List.take_of_length_le (by rw [hc.1]; exact Nat.le_refl _)] at hst
      go_wp2_with fail
      go_end0
      exact ⟨rfl, by rw [← hal1.out]; exact hst, hgr⟩
end Go.Proofs.Ytegicioofbhifaa
/- The walk of a stream's end: what follows a message, and the hash. -/
namespace Go.Proofs.Ytegicioofbhifaa
open Go.RowKit
set_option linter.unusedVariables false
set_option linter.unusedSimpArgs false

theorem be8_at (n i : Nat) (h : i < 8) : (be8 n).getD i 0 = UInt8.ofNat (n / 2 ^ (56 - 8 * i)) := by
  match i, h with
  | 0, _ | 1, _ | 2, _ | 3, _ | 4, _ | 5, _ | 6, _ => rfl
  | 7, _ => simp [be8]
theorem StrAt.grown {w w' : World} {g : Nat} {k e0 : List UInt32} {b : List UInt8} {al : Int} (h : StrAt w g k e0 b al) (hb : w'.heap[g]? = w.heap[g]?) : StrAt w' g k e0 b al := by
  obtain ⟨m, h1, h2, h3⟩ := h
  exact ⟨m, h1, h2, hb.trans h3⟩
/-- One byte goes in. -/
theorem add_one (g : Nat) (k e0 : List UInt32) (b : List UInt8) (al : Int) (x : UInt8) (w : World) (N : Nat) (hN : w.heap.size = N) (hk : k.length = 64) (he0 : e0.length = 8) (h : StrAt w g k e0 b al) :
    Calls Try.prog 55 #[.pointer (some ⟨g, 0, none⟩), .slice (some ⟨N, 0, none⟩) 1 1] (w.alloc (.cells #[.int .u8 (x.toNat : Int)] 5)) fun r w' => r = .returned (.tuple #[]) ∧ (∃ al', StrAt w' g k e0 (b ++ [x]) al') ∧ w.grownBy w' (some g) := by
  subst hN
  have hlt : g < w.heap.size := by obtain ⟨m, _, _, h3⟩ := h; exact lt_of_block h3
  have h1 : StrAt (w.alloc (.cells #[.int .u8 (x.toNat : Int)] 5)) g k e0 b al := h.grown (Below.heap_alloc w _ g hlt)
  refine (add_any g k e0 b al (some ⟨w.heap.size, 0, none⟩) 1 1 [x] _ hk he0 h1 ⟨rfl, fun _ => ⟨_, rfl, by show w.heap.size ≠ g; omega, ?_⟩⟩ (Nat.le_refl _) (by unfold maxLen; omega)).mono ?_
  · intro j hj
    obtain rfl : j = 0 := by omega
    show (w.alloc _).cell? ⟨w.heap.size, 0, none⟩ = _
    rw [cell_of_row _ _ 0 _ _ _ (heap_alloc_new w _)]; rfl
  · rintro r w' ⟨rfl, h2, h3⟩
    exact ⟨rfl, ⟨_, h2⟩, grown_trans (World.grownBy_alloc w _ _) h3⟩

/-- The block keeps what it has. -/
theorem grown_keeps {w w' : World} {g h : Nat} {o : Obj} (hg : w.grownBy w' (some g)) (hh : w.heap[h]? = some o) (hne : h ≠ g) : w'.heap[h]? = some o := by
  have hlt : h < w.heap.size := (Array.getElem?_eq_some_iff.1 hh).1
  rw [hg.block h hlt (fun e => hne (Option.some.inj e)), hh]
def zerosN (b : List UInt8) : Nat := (119 - b.length % 64) % 64
theorem followed_eq (b : List UInt8) : followedL b = b ++ [128] ++ List.replicate (zerosN b) 0 ++ be8 (b.length * 8 % 18446744073709551616) := by
  unfold followedL zerosN; simp
theorem zeros_end (b : List UInt8) (z : Nat) (hz : z ≤ zerosN b) : ((b ++ [128] ++ List.replicate z (0 : UInt8)).length % 64 = 56) ↔ z = zerosN b := by
  simp only [List.length_append, List.length_singleton, List.length_replicate]
  unfold zerosN at *
  omega
attribute [local go_sem] cb cw
theorem StrAt.have {w : World} {g : Nat} {k e0 : List UInt32} {b : List UInt8} {al : Int} (hk : k.length = 64) (he0 : e0.length = 8) (h : StrAt w g k e0 b al) : w.cell? ⟨g, 136, none⟩ = some (.int .i64 ((b.length % 64 : Nat) : Int)) := by
  obtain ⟨m, hm, _, hs⟩ := h
  exact (cell_blk hs 136).trans (st_have (length_blocksF k _ _ _ he0) hk hm)
def needs (v : Option Value) : Nat := match v with | some (.int _ x) => ((120 - x) % 64).toNat | _ => 0
theorem bcells_zeros : bcells (zeros 32) = #[.int .u8 0, .int .u8 0, .int .u8 0, .int .u8 0, .int .u8 0, .int .u8 0, .int .u8 0, .int .u8 0, .int .u8 0, .int .u8 0, .int .u8 0, .int .u8 0, .int .u8 0, .int .u8 0, .int .u8 0, .int .u8 0, .int .u8 0, .int .u8 0, .int .u8 0, .int .u8 0, .int .u8 0, .int .u8 0, .int .u8 0, .int .u8 0, .int .u8 0, .int .u8 0, .int .u8 0, .int .u8 0, .int .u8 0, .int .u8 0, .int .u8 0, .int .u8 0] := rfl
/-- The hash's bytes so far, and noughts behind. -/
def outC (e : List UInt32) (n : Nat) : List Value := ((e.flatMap be4).take n ++ List.replicate (32 - n) 0).map cb
theorem length_be4s (e : List UInt32) : (e.flatMap be4).length = 4 * e.length := by
  induction e with
  | nil => rfl
  | cons x e ih => simp only [List.flatMap_cons, List.length_append, List.length_cons] at ih ⊢; rw [ih]; show 4 + _ = _; omega
theorem be4s_at : ∀ (e : List UInt32) (i j : Nat), j < 4 → i < e.length → (e.flatMap be4).getD (4 * i + j) 0 = (be4 (e.getD i 0)).getD j 0
  | [], i, j, _, h => by simp at h
  | x :: e, 0, j, hj, _ => by
    have hl : (be4 x).length = 4 := rfl
    simp only [List.flatMap_cons, List.getD, Nat.mul_zero, Nat.zero_add, List.getElem?_cons_zero, Option.getD_some]
    rw [List.getElem?_append_left (by omega)]
  | x :: e, i + 1, j, hj, h => by
    have hl : (be4 x).length = 4 := rfl
    have ih := be4s_at e i j hj (by simpa using h)
    simp only [List.flatMap_cons, List.getD, List.getElem?_cons_succ] at ih ⊢
    rw [List.getElem?_append_right (by omega), hl, show 4 * (i + 1) + j - 4 = 4 * i + j by omega, ih]
theorem be4_at (x : UInt32) (j : Nat) (h : j < 4) : (be4 x).getD j 0 = UInt8.ofNat (x.toNat / 2 ^ (24 - 8 * j)) := by
  match j, h with
  | 0, _ | 1, _ | 2, _ => rfl
  | 3, _ => simp [be4]
theorem outC_set (e : List UInt32) (n : Nat) (he : e.length = 8) (h : n < 32) : (outC e n).toArray.setIfInBounds n (cb ((e.flatMap be4).getD n 0)) = (outC e (n + 1)).toArray := by
  have hl := length_be4s e
  rw [he] at hl
  apply Array.ext'
  rw [Array.toList_setIfInBounds]
  unfold outC
  have h1 : ((e.flatMap be4).take n).length = n := by rw [List.length_take]; omega
  rw [List.map_append, List.set_append_right _ _ (by rw [List.length_map, h1]; exact Nat.le_refl _), List.length_map, h1, Nat.sub_self, show 32 - n = (32 - (n + 1)) + 1 by omega, List.replicate_succ, List.map_cons, List.set_cons_zero]
  rw [List.take_succ_eq_append_getElem (by omega), List.map_append, List.map_append, List.append_assoc]
  simp [List.getD, List.getElem?_eq_getElem (show n < (e.flatMap be4).length by omega)]
theorem outC_at (e : List UInt32) (n j : Nat) (he : e.length = 8) (hn : n ≤ 32) (h : j < 32) : ∃ v, (outC e n)[j]? = some v := by
  have hl := length_be4s e
  rw [he] at hl
  have : j < (outC e n).length := by unfold outC; simp only [List.length_map, List.length_append, List.length_take, List.length_replicate]; omega
  exact ⟨_, List.getElem?_eq_getElem this⟩
theorem outC_all (e : List UInt32) (he : e.length = 8) : outC e 32 = (e.flatMap be4).map cb := by
  have hl := length_be4s e
  rw [he] at hl
  unfold outC
  rw [List.take_of_length_le (by omega)]; simp
theorem run_index_arr {P : Program} (w : World) (t e n : Nat) (q : IntKind) (cs : Array Value) (i : Nat) (v : Value) (ht : P.underlying t = some (.array n e)) (he : P.underlying e = some (.int q)) (hs : (P.info? e).map (·.size) = some 1) (hi : i < n) (hv : cs[i]? = some v) :
    (Instr.index t (.agg cs) (.int .i64 (i : Int))).run P w = .ok v w := by
  have h1 : (sizeOf e).run P w = .ok 1 w := run_sizeOf w e 1 hs
  have h0 : (0 : Int) ≤ i ∧ (i : Int) < n := by omega
  have h2 : (isAgg e).run P w = .ok false w := by simp [isAgg, Sem.run_bind, run_underlying he]
  simp [Instr.index, asIntOf, Sem.run_bind, run_underlying ht, h0.1, h0.2, h1, part, h2, hv]
  intro hle; omega
/-- A whole block stored into itself. -/
theorem store_self {P : Program} (w : World) (g ty n : Nat) (cs : Array Value) (t : TypeId) (hn : cs.size = n) (hi : (P.info? ty).map (·.size) = some n) (h1 : cs.all (·.oneCell') = true) (h : w.heap[g]? = some (.cells cs t (0, 0))) :
    storeStep P ty (.pointer (some ⟨g, 0, none⟩)) (.agg cs) w = .ok .skip w := by
  have hf : rowFree w g 0 n = true := by unfold rowFree; rw [h]; simp [hn]
  rw [storeStep_row w g 0 ty n cs hn hi, hf, h1, if_pos (show (true && true) = true from rfl)]
  have : setRowAt w g 0 cs = w := by
    unfold setRowAt; rw [h]
    show w.setRow g (spliceA cs 0 cs) = w
    rw [spliceA_full cs cs rfl]
    exact setRow_self w g cs t (0, 0) h
  rw [this]
theorem rowAt_whole {w : World} {g n : Nat} {cs : Array Value} {t : TypeId} {fr : Nat × Nat} (h : w.heap[g]? = some (.cells cs t fr)) (hn : cs.size = n) : rowAt w g 0 n = some cs := by
  subst hn; unfold rowAt; rw [h]; simp
theorem grown_setNew {w w' : World} {row : Option Nat} (h : w.grownBy w' row) (N i : Nat) (hN : w.heap.size ≤ N) (v : Value) : w.grownBy (w'.setCell ⟨N, i, none⟩ v) row :=
  ⟨h.os, h.tape, h.output, by have := h.size; simpa [World.setCell] using this, fun k hk hne => (Below.heap_setCell _ _ _ _ (by show k ≠ N; omega)).trans (h.block k hk hne)⟩
theorem exec_store_Hash (ρ : Operand → Value) (d : Option Tmp) (x y : Operand) (t : TypeId) (p : String) (af : Array Edge) (gd : Option (Nat × Bool)) (w : World) : (execOp ρ ⟨d, .store 23 x y, t, p, af, gd⟩).run Try.prog w = storeStep Try.prog 23 (ρ x) (ρ y) w := exec_store 23 ρ d x y t p af gd w
attribute [local go_sem ↓] exec_store_Hash
attribute [local go_sem ↓] loadCells_blk
attribute [local go_sem] run_blkLoad rowAt_drew
set_option maxHeartbeats 8000000 in
set_option maxRecDepth 100000 in
theorem end_any (g : Nat) (k e0 : List UInt32) (b : List UInt8) (w : World) (hk : k.length = 64) (he0 : e0.length = 8) (h : StrAt w g k e0 b ((b.length % 18446744073709551616 : Nat) : Int)) :
    Calls Try.prog 56 #[.pointer (some ⟨g, 0, none⟩)] w fun r w' => (∃ o : Bs 32, o.1 = sumK k e0 b ∧ r = .returned (.agg (bcells o))) ∧ w.grownBy w' (some g) := by
  obtain ⟨m, hm, hrest, hs⟩ := h
  have hel : (blocksL k e0 b).length = 8 := length_blocksF k _ _ _ he0
  have c1 := (cell_blk hs 137).trans (st_all hel hk hm)
  have hlt : g < w.heap.size := lt_of_block hs
  have h : StrAt w g k e0 b ((b.length % 18446744073709551616 : Nat) : Int) := ⟨m, hm, hrest, hs⟩
  obtain ⟨L, hL⟩ : ∃ L, L = b.length * 8 % 18446744073709551616 := ⟨_, rfl⟩
  have hl8 : IntKind.u64.wrap (((b.length % 18446744073709551616 : Nat) : Int) * 8) = (L : Int) := by rw [IntKind.wrap_u64]; omega
  have hL64 : L < 18446744073709551616 := by omega
  generalize ((b.length % 18446744073709551616 : Nat) : Int) = al at c1 h hl8
  replace hL := hide hL
  have h0 := h.grown (w' := w.alloc (.cells (bcells (zeros 32)) 23)) (Below.heap_alloc w _ g hlt)
  have hH := heap_alloc_new w (.cells (bcells (zeros 32)) 23)
  have hgr := World.grownBy_alloc w (.cells (bcells (zeros 32)) 23) (some g)
  clear hm hrest hs hel h
  go_enter Try.func56, Try.ntmps56
  rw [bcells_zeros] at h0 hH hgr
  go_wp2_with (go_at_call 55; (refine (add_one g k e0 _ _ (128 : UInt8) _ _ (by simp) hk he0 h0).mono ?_); rintro r w4 ⟨rfl, ⟨al4, hst4⟩, hg4⟩)
  have hH := grown_keeps hg4 (h := w.heap.size) (by exact hH) (by omega)
  have hgr := grown_trans hgr hg4
  clear hg4 h0 c1
  go_loopw [19] (fun _ wr => ∃ (z : Nat) (al : Int), z ≤ zerosN b ∧ StrAt wr g k e0 (b ++ [128] ++ List.replicate z 0) al ∧ wr.heap[w.heap.size]? = some (.cells (bcells (zeros 32)) 23 (0, 0)) ∧ w.grownBy wr (some g)) (fun _ wr => needs (wr.cell? ⟨g, 136, none⟩))
  case atStart => exact ⟨0, _, by omega, by simpa using hst4, hH, hgr⟩
  case round =>
    clear hst4 hH hgr
    obtain ⟨z, al5, hz, hst, hH, hgr⟩ := hrel
    obtain ⟨w5, rfl⟩ : ∃ w5, w5 = wr := ⟨_, rfl⟩
    have d1 := hst.have hk he0
    obtain ⟨hv, hhv⟩ : ∃ hv, hv = (b ++ [128] ++ List.replicate z (0 : UInt8)).length % 64 := ⟨_, rfl⟩
    rw [← hhv] at d1
    have hend := zeros_end b z hz
    rw [← hhv] at hend
    have hneeds : needs (w5.cell? ⟨g, 136, none⟩) = ((120 - (hv : Int)) % 64).toNat := by rw [d1]; rfl
    replace hneeds := hide hneeds
    by_cases h56 : hv = 56
    · have hzz : z = zerosN b := hend.1 h56
      subst h56
      clear hend hneeds hz
      replace d1 : w5.cell? ⟨g, 136, none⟩ = some (.int .i64 56) := d1
      subst hzz
      replace hhv := hide hhv
      obtain ⟨P, hP⟩ : ∃ P, P = b ++ [128] ++ List.replicate (zerosN b) 0 := ⟨_, rfl⟩
      rw [← hP] at hst
      replace hP := hide hP
      go_wp2_with fail
      go_loopw [24] (fun s24 wr => ∃ (i : Nat) (al : Int), i ≤ 8 ∧ s24 = .int .i64 i ∧ StrAt wr g k e0 (P ++ (be8 L).take i) al ∧ wr.heap[w.heap.size]? = some (.cells (bcells (zeros 32)) 23 (0, 0)) ∧ w.grownBy wr (some g)) (fun s _ => (8 - intOf s).toNat)
      case atStart => exact ⟨0, _, by omega, rfl, by simpa using hst, hH, hgr⟩
      case round =>
        clear hst hH hgr
        obtain ⟨i, al6, hi, rfl, hst, hH, hgr⟩ := hrel
        obtain ⟨w6, rfl⟩ : ∃ w6, w6 = wr := ⟨_, rfl⟩
        by_cases hlt8 : i < 8
        · have hlt8' : (i : Int) < 8 := by omega
          have hi0 : (0 : Int) ≤ i := by omega
          obtain ⟨r, hr⟩ : ∃ r, r = 56 - 8 * i := ⟨_, rfl⟩
          obtain ⟨E, hE⟩ : ∃ E, E = 8 * i := ⟨_, rfl⟩
          have j1 : IntKind.i64.wrap (8 * (i : Int)) = E := by rw [IntKind.wrap_i64]; omega
          have j2 : (8 : Int) * (i : Int) = E := by omega
          have j3 : IntKind.i64.wrap (56 - (E : Int)) = r := by rw [IntKind.wrap_i64]; omega
          have j4 : (56 : Int) - (E : Int) = r := by omega
          have hr0 : (0 : Int) ≤ r := by omega
          have hr64 : r ≤ 64 := by omega
          have hbe : (be8 L).take (i + 1) = (be8 L).take i ++ [UInt8.ofNat (L / 2 ^ r)] := by
            rw [List.take_succ_eq_append_getElem (by show i < 8; exact hlt8), hr, ← be8_at L i hlt8]
            simp [List.getD, List.getElem?_eq_getElem (show i < (be8 L).length from hlt8)]
          have hx1 : IntKind.u8.wrap ((L : Int) / 2 ^ r) = ((UInt8.ofNat (L / 2 ^ r)).toNat : Int) := by
            rw [← u8_of, Int.natCast_ediv, Int.natCast_pow]; rfl
          have hx2 : (L : Int) / 2 ^ r % 256 = ((UInt8.ofNat (L / 2 ^ r)).toNat : Int) := by rw [← hx1, IntKind.wrap_u8]
          generalize UInt8.ofNat (L / 2 ^ r) = x at hbe hx1 hx2
          replace hbe := hide hbe
          clear hr hE
          go_wp2_with (go_at_call 55; (refine (add_one g k e0 _ _ x _ _ rfl hk he0 hst).mono ?_); rintro r w4 ⟨rfl, ⟨al4, hst4⟩, hg4⟩)
          go_roundw
          case rel => exact ⟨i + 1, _, by omega, by go_num, by rw [hbe.out, ← List.append_assoc]; exact hst4, grown_keeps hg4 hH (by omega), grown_trans hgr hg4⟩
          case measure => simp [intOf]; omega
        · obtain rfl : i = 8 := by omega
          clear hlt8 hi
          rw [show ((8 : Nat) : Int) = 8 from rfl]
          rw [List.take_of_length_le (show (be8 L).length ≤ 8 from Nat.le_refl 8), hP.out, hL.out, ← followed_eq] at hst
          have hEl : (blocksL k e0 (followedL b)).length = 8 := length_blocksF k _ _ _ he0
          have hEB : sumK k e0 b = (blocksL k e0 (followedL b)).flatMap be4 := rfl
          obtain ⟨m6, hm6, _, hs6⟩ := hst
          generalize blocksL k e0 (followedL b) = EB at hEl hEB hs6
          have z0 := (cell_blk hs6 0).trans (st_e hEl 0 (by omega))
          have z1 := (cell_blk hs6 1).trans (st_e hEl 1 (by omega))
          have z2 := (cell_blk hs6 2).trans (st_e hEl 2 (by omega))
          have z3 := (cell_blk hs6 3).trans (st_e hEl 3 (by omega))
          have z4 := (cell_blk hs6 4).trans (st_e hEl 4 (by omega))
          have z5 := (cell_blk hs6 5).trans (st_e hEl 5 (by omega))
          have z6 := (cell_blk hs6 6).trans (st_e hEl 6 (by omega))
          have z7 := (cell_blk hs6 7).trans (st_e hEl 7 (by omega))
          obtain ⟨o0, o1, o2, o3, o4, o5, o6, o7, rfl⟩ := list8 EB hEl
          replace hEB := hide hEB
          have hr8 : rowAt w6 g 0 8 = some #[.int .u32 (o0.toNat : Int), .int .u32 (o1.toNat : Int), .int .u32 (o2.toNat : Int), .int .u32 (o3.toNat : Int), .int .u32 (o4.toNat : Int), .int .u32 (o5.toNat : Int), .int .u32 (o6.toNat : Int), .int .u32 (o7.toNat : Int)] := by
            unfold rowAt
            rw [hs6]
            simp only
            rw [if_pos (by simp [stL])]
            congr 1
            apply Array.ext'
            rw [Array.toList_extract, List.extract_eq_take_drop]
            rfl
          clear hs6 hEl z0 z1 z2 z3 z4 z5 z6 z7
          go_wp2_with fail
          go_loopw [41] (fun s41 wr => ∃ i : Nat, i ≤ 8 ∧ s41 = .int .i64 i ∧ wr.heap[w.heap.size]? = some (.cells (outC [o0, o1, o2, o3, o4, o5, o6, o7] (4 * i)).toArray 23 (0, 0)) ∧ w.grownBy wr (some g)) (fun s _ => (8 - intOf s).toNat)
          case atStart => exact ⟨0, by omega, rfl, hH, hgr⟩
          case round =>
            clear hH hgr
            obtain ⟨i, hi, rfl, hH, hgr⟩ := hrel
            obtain ⟨w7, rfl⟩ : ∃ w7, w7 = wr := ⟨_, rfl⟩
            by_cases hlt9 : i < 8
            · have hlt9' : (i : Int) < 8 := by omega
              have hi0 : (0 : Int) ≤ i := by omega
              obtain ⟨x, hx⟩ : ∃ x, x = [o0, o1, o2, o3, o4, o5, o6, o7].getD i 0 := ⟨_, rfl⟩
              have hidx := run_index_arr (P := Try.prog) w7 60 59 8 .u32 #[.int .u32 (o0.toNat : Int), .int .u32 (o1.toNat : Int), .int .u32 (o2.toNat : Int), .int .u32 (o3.toNat : Int), .int .u32 (o4.toNat : Int), .int .u32 (o5.toNat : Int), .int .u32 (o6.toNat : Int), .int .u32 (o7.toNat : Int)] i (.int .u32 (x.toNat : Int)) Try.underlying60 Try.underlying59 (by kernel_rfl) hlt9 (by
                have := v8c_at ⟨o0, o1, o2, o3, o4, o5, o6, o7⟩ i hlt9
                rw [hx]; exact this)
              replace hx := hide hx
              go_wp2_with fail
              go_loopw [45] (fun s45 wr => ∃ j : Nat, j ≤ 4 ∧ s45 = .int .i64 j ∧ wr.heap[w.heap.size]? = some (.cells (outC [o0, o1, o2, o3, o4, o5, o6, o7] (4 * i + j)).toArray 23 (0, 0)) ∧ w.grownBy wr (some g)) (fun s _ => (4 - intOf s).toNat)
              case atStart => exact ⟨0, by omega, rfl, hH, hgr⟩
              case round =>
                clear hH hgr hidx
                obtain ⟨j, hj, rfl, hH, hgr⟩ := hrel
                obtain ⟨w8, rfl⟩ : ∃ w8, w8 = wr := ⟨_, rfl⟩
                by_cases hltj : j < 4
                · have hltj' : (j : Int) < 4 := by omega
                  have hj0 : (0 : Int) ≤ j := by omega
                  obtain ⟨n, hn⟩ : ∃ n, n = 4 * i + j := ⟨_, rfl⟩
                  obtain ⟨q, hq⟩ : ∃ q, q = 4 * i := ⟨_, rfl⟩
                  obtain ⟨E, hE⟩ : ∃ E, E = 8 * j := ⟨_, rfl⟩
                  obtain ⟨r, hr⟩ : ∃ r, r = 24 - 8 * j := ⟨_, rfl⟩
                  have i1 : IntKind.i64.wrap (4 * (i : Int)) = q := by rw [IntKind.wrap_i64]; omega
                  have i2 : (4 : Int) * (i : Int) = q := by omega
                  have i3 : IntKind.i64.wrap ((q : Int) + j) = n := by rw [IntKind.wrap_i64]; omega
                  have i4 : (q : Int) + j = n := by omega
                  have i5 : IntKind.i64.wrap (8 * (j : Int)) = E := by rw [IntKind.wrap_i64]; omega
                  have i6 : (8 : Int) * (j : Int) = E := by omega
                  have i7 : IntKind.i64.wrap (24 - (E : Int)) = r := by rw [IntKind.wrap_i64]; omega
                  have i8 : (24 : Int) - (E : Int) = r := by omega
                  have hn32 : (n : Int) < 32 := by omega
                  have hn0 : (0 : Int) ≤ n := by omega
                  have hn32' : n < 32 := by omega
                  have hr0 : (0 : Int) ≤ r := by omega
                  have hr64 : r ≤ 32 := by omega
                  have hbyte : ([o0, o1, o2, o3, o4, o5, o6, o7].flatMap be4).getD n 0 = UInt8.ofNat (x.toNat / 2 ^ r) := by rw [hn, be4s_at _ i j hltj (by simpa using hlt9), ← hx.out, be4_at x j hltj, hr]
                  have hx1 : IntKind.u8.wrap ((x.toNat : Int) / 2 ^ r) = ((UInt8.ofNat (x.toNat / 2 ^ r)).toNat : Int) := by
                    rw [← u8_of, Int.natCast_ediv, Int.natCast_pow]; rfl
                  have hx2 : (x.toNat : Int) / 2 ^ r % 256 = ((UInt8.ofNat (x.toNat / 2 ^ r)).toNat : Int) := by rw [← hx1, IntKind.wrap_u8]
                  generalize UInt8.ofNat (x.toNat / 2 ^ r) = y at hbyte hx1 hx2
                  rw [← hn] at hH
                  have hn1 : 4 * i + (j + 1) = n + 1 := by omega
                  replace hn1 := hide hn1
                  obtain ⟨vn, hvn⟩ := outC_at [o0, o1, o2, o3, o4, o5, o6, o7] n n rfl (by omega) hn32'
                  have dn := (cell_blk hH n).trans hvn
                  have fn := free_blk hH n
                  clear hvn hn hq hE hr
                  replace hbyte := hide hbyte
                  go_wp2_with fail
                  go_roundw
                  case rel =>
                    refine ⟨j + 1, by omega, by go_num, ?_, grown_setNew hgr _ n (Nat.le_refl _) _⟩
                    rw [heap_setCell hH, hn1.out, ← outC_set _ n rfl hn32', hbyte.out]; rfl
                  case measure => simp [intOf]; omega
                · obtain rfl : j = 4 := by omega
                  go_wp2_with fail
                  go_roundw
                  case rel => exact ⟨i + 1, by omega, by go_num, hH, hgr⟩
                  case measure => simp [intOf]; omega
            · obtain rfl : i = 8 := by omega
              rw [show ((8 : Nat) : Int) = 8 from rfl]
              rw [outC_all _ rfl] at hH
              have hol : ([o0, o1, o2, o3, o4, o5, o6, o7].flatMap be4).length = 32 := rfl
              obtain ⟨o, ho⟩ : ∃ o : Bs 32, o = ⟨[o0, o1, o2, o3, o4, o5, o6, o7].flatMap be4, hol⟩ := ⟨_, rfl⟩
              have hH : w7.heap[w.heap.size]? = some (.cells (bcells o) 23 (0, 0)) := by rw [ho]; exact hH
              have ho1 : o.1 = sumK k e0 b := by rw [ho, hEB.out]
              replace ho1 := hide ho1
              clear ho
              have hrow := rowAt_whole hH (size_bcells o)
              have hst := store_self (P := Try.prog) w7 w.heap.size 23 32 (bcells o) 23 (size_bcells o) (by kernel_rfl) (one_bcells o) hH
              go_wp2_with ((with_reducible show bodyPost _ _ _ _ _ _); refine ret_row (P := Try.prog) 2 23 32 (bcells o) _ rfl rfl Try.underlying23 rfl (by kernel_rfl) _ _ rfl hrow ⟨⟨o, ho1.out, rfl⟩, hgr⟩)
    · have h56' : ¬ (hv : Int) = 56 := by omega
      have hz' : z < zerosN b := by
        have : z ≠ zerosN b := fun e => h56 (hend.2 e)
        omega
      replace hhv := hide hhv
      clear hend
      go_wp2_with (go_at_call 55; (refine (add_one g k e0 _ _ (0 : UInt8) _ _ rfl hk he0 hst).mono ?_); rintro r w4 ⟨rfl, ⟨al4, hst4⟩, hg4⟩)
      have hst5 : StrAt w4 g k e0 (b ++ [128] ++ List.replicate (z + 1) 0) al4 := by
        rw [List.replicate_succ', ← List.append_assoc]; exact hst4
      go_roundw
      case rel => exact ⟨z + 1, _, by omega, hst5, grown_keeps hg4 hH (by omega), grown_trans hgr hg4⟩
      case measure =>
        have h6 := hst5.have hk he0
        rw [hneeds.out, h6]
        have hl := hhv.out
        simp only [List.length_append, List.length_singleton, List.length_replicate] at hl ⊢
        simp only [needs]
        omega
end Go.Proofs.Ytegicioofbhifaa
/- The walk of sha.Sum. -/
namespace Go.Proofs.Ytegicioofbhifaa
open Go.RowKit
set_option linter.unusedVariables false
set_option linter.unusedSimpArgs false

set_option maxHeartbeats 2000000 in
set_option maxRecDepth 100000 in
theorem start_any (w : World) : Calls Try.prog 53 #[] w fun r w' => r = .returned (.agg (h8.map cw).toArray) ∧ Ext w w' := by
  go_enter Try.func53, Try.ntmps53
  go_wp2_with ((with_reducible show bodyPost _ _ _ _ _ _); refine ret_row (P := Try.prog) 0 60 8 (h8.map cw).toArray _ rfl rfl Try.underlying60 rfl (by kernel_rfl) _ _ rfl ?_ ?_)
  · rw [rowAt_new _ _ _ _ _ _ _ rfl]; rfl
  · first | (go_grown; done) | exact ⟨rfl, by go_grown⟩
/-- The constants' cells; as many noughts. -/
def kCells : Array Value := (k64.map cw).toArray
def zCells : Array Value := (padW []).toArray
theorem size_kCells : kCells.size = 64 := rfl
theorem size_zCells : zCells.size = 64 := rfl
theorem one_kCells : kCells.all (·.oneCell') = true := by decide +kernel
theorem exec_build_K (ρ : Operand → Value) (d : Option Tmp) (ps : Array (Nat × Operand)) (t : TypeId) (p : String) (af : Array Edge) (gd : Option (Nat × Bool)) (w : World) : (execOp ρ ⟨d, .build 61 ps, t, p, af, gd⟩).run Try.prog w = buildStep Try.prog 61 (ps.map fun x => (x.1, ρ x.2)) w := exec_build 61 ρ d ps t p af gd w
theorem exec_store_K (ρ : Operand → Value) (d : Option Tmp) (x y : Operand) (t : TypeId) (p : String) (af : Array Edge) (gd : Option (Nat × Bool)) (w : World) : (execOp ρ ⟨d, .store 61 x y, t, p, af, gd⟩).run Try.prog w = storeStep Try.prog 61 (ρ x) (ρ y) w := exec_store 61 ρ d x y t p af gd w
theorem zero_K (w : World) : (zeroValue 61).run Try.prog w = .ok (.agg zCells) w := run_zeroValue w _ _ (by kernel_rfl)
set_option maxRecDepth 100000 in
theorem build_K (w : World) : buildStep Try.prog 61 #[(0, .int .u32 1116352408), (1, .int .u32 1899447441), (2, .int .u32 3049323471), (3, .int .u32 3921009573), (4, .int .u32 961987163), (5, .int .u32 1508970993), (6, .int .u32 2453635748), (7, .int .u32 2870763221), (8, .int .u32 3624381080), (9, .int .u32 310598401), (10, .int .u32 607225278), (11, .int .u32 1426881987), (12, .int .u32 1925078388), (13, .int .u32 2162078206), (14, .int .u32 2614888103), (15, .int .u32 3248222580), (16, .int .u32 3835390401), (17, .int .u32 4022224774), (18, .int .u32 264347078), (19, .int .u32 604807628), (20, .int .u32 770255983), (21, .int .u32 1249150122), (22, .int .u32 1555081692), (23, .int .u32 1996064986), (24, .int .u32 2554220882), (25, .int .u32 2821834349), (26, .int .u32 2952996808), (27, .int .u32 3210313671), (28, .int .u32 3336571891), (29, .int .u32 3584528711), (30, .int .u32 113926993), (31, .int .u32 338241895), (32, .int .u32 666307205), (33, .int .u32 773529912), (34, .int .u32 1294757372), (35, .int .u32 1396182291), (36, .int .u32 1695183700), (37, .int .u32 1986661051), (38, .int .u32 2177026350), (39, .int .u32 2456956037), (40, .int .u32 2730485921), (41, .int .u32 2820302411), (42, .int .u32 3259730800), (43, .int .u32 3345764771), (44, .int .u32 3516065817), (45, .int .u32 3600352804), (46, .int .u32 4094571909), (47, .int .u32 275423344), (48, .int .u32 430227734), (49, .int .u32 506948616), (50, .int .u32 659060556), (51, .int .u32 883997877), (52, .int .u32 958139571), (53, .int .u32 1322822218), (54, .int .u32 1537002063), (55, .int .u32 1747873779), (56, .int .u32 1955562222), (57, .int .u32 2024104815), (58, .int .u32 2227730452), (59, .int .u32 2361852424), (60, .int .u32 2428436474), (61, .int .u32 2756734187), (62, .int .u32 3204031479), (63, .int .u32 3329325298)] w = .ok (.value (.agg kCells)) w :=
  buildStep_eq w _ _ _ (by kernel_rfl)
theorem store_K (w : World) : storeStep Try.prog 61 (.pointer (some ⟨w.heap.size, 0, none⟩)) (.agg kCells) (w.alloc (.cells zCells 61)) = .ok .skip (w.alloc (.cells kCells 61)) := by
  rw [storeStep_row _ _ _ 61 64 kCells size_kCells (by kernel_rfl), rowFree_new _ _ _ _ _ _ rfl, one_kCells, setRowAt_new _ _ _ _ _ _ _ rfl, spliceA_full _ _ (by rw [size_kCells, size_zCells]), size_zCells]
  rfl
attribute [local go_sem ↓] exec_build_K exec_store_K zero_K build_K store_K
set_option maxHeartbeats 2000000 in
set_option maxRecDepth 100000 in
theorem constants_any (w : World) : Calls Try.prog 54 #[] w fun r w' => r = .returned (.agg (k64.map cw).toArray) ∧ Ext w w' := by
  go_enter Try.func54, Try.ntmps54
  go_wp2_with ((with_reducible show bodyPost _ _ _ _ _ _); refine ret_row (P := Try.prog) 0 61 64 kCells _ rfl rfl Try.underlying61 rfl (by kernel_rfl) _ _ rfl ?_ ?_)
  · rw [rowAt_new _ _ _ _ _ _ _ rfl, if_pos (by rw [size_kCells]; omega)]; congr 1
  · exact ⟨rfl, (Below.refl _ _).alloc (Nat.le_refl _) _⟩

theorem BytesIn.at {W w : World} (h : Ext W w) {a : Option Addr} {q g : Nat} {c : List UInt8} (hb : BytesIn W a q c) (hg : W.heap.size ≤ g) : BytesAt w g a q c :=
  ⟨hb.1, fun hq => let ⟨ad, e1, e2⟩ := hb.2 hq; ⟨ad, e1, (by have := block_lt_of_cell (e2 0 hq); rw [block_add] at this; omega), fun j hj => (h.cell (p := ad.add j) (block_lt_of_cell (e2 j hj))).trans (e2 j hj)⟩⟩
theorem store_over {P : Program} (w : World) (g ty n : Nat) (cs old : Array Value) (t : TypeId) (hn : cs.size = n) (ho : old.size = n) (hi : (P.info? ty).map (·.size) = some n) (h1 : cs.all (·.oneCell') = true) (h : w.heap[g]? = some (.cells old t (0, 0))) :
    storeStep P ty (.pointer (some ⟨g, 0, none⟩)) (.agg cs) w = .ok .skip (w.setRow g cs) := by
  have hf : rowFree w g 0 n = true := by unfold rowFree; rw [h]; simp [ho]
  rw [storeStep_row w g 0 ty n cs hn hi, hf, h1, if_pos (show (true && true) = true from rfl)]
  unfold setRowAt; rw [h]
  simp only
  rw [spliceA_full old cs (by rw [hn, ho])]
theorem exec_build_St (ρ : Operand → Value) (d : Option Tmp) (ps : Array (Nat × Operand)) (t : TypeId) (p : String) (af : Array Edge) (gd : Option (Nat × Bool)) (w : World) : (execOp ρ ⟨d, .build 114 ps, t, p, af, gd⟩).run Try.prog w = buildStep Try.prog 114 (ps.map fun x => (x.1, ρ x.2)) w := exec_build 114 ρ d ps t p af gd w
def stCells : Array Value := (stL h8 k64 (List.replicate 64 0) 0 0).toArray
set_option maxRecDepth 100000 in
theorem build_St (w : World) : buildStep Try.prog 114 #[(0, .agg (h8.map cw).toArray), (1, .agg (k64.map cw).toArray)] w = .ok (.value (.agg stCells)) w :=
  buildStep_eq w _ _ _ (by kernel_rfl)
attribute [local go_sem ↓] exec_build_St build_St exec_store_Hash
set_option maxHeartbeats 4000000 in
set_option maxRecDepth 100000 in
theorem sum_any (a : Option Addr) (n cap : Nat) (ps : List (List UInt8)) (w : World) (hn : n ≤ cap) (hcap : cap ≤ maxLen) (h : PiecesIn w a n ps) :
    Calls Try.prog 25 #[.slice a n cap] w fun r w' => (∃ o : Bs 32, o.1 = sumL ps.flatten ∧ r = .returned (.agg (bcells o))) ∧ Ext w w' := by
  go_enter Try.func25, Try.ntmps25
  go_wp2_with (first | (go_at_call 53; (refine (start_any _).mono ?_); rintro r w1 ⟨rfl, hx1⟩) | (go_at_call 54; (refine (constants_any _).mono ?_); rintro r w2 ⟨rfl, hx2⟩))
  have hgr : w.heap.size < w2.heap.size := by have h1 := hx1.size; have h2 := hx2.size; simp at h1; omega
  have hH := (hx2.block w.heap.size (by have h1 := hx1.size; simp at h1; omega)).trans ((hx1.block w.heap.size (by simp)).trans (heap_alloc_new w _))
  have hx : Ext w w2 := Ext.then ((Below.refl _ _).alloc (Nat.le_refl _) _) (hx1.then hx2)
  have hstr : StrAt (w2.alloc (.cells stCells 114)) w2.heap.size k64 h8 [] 0 := ⟨List.replicate 64 0, rfl, rfl, heap_alloc_new w2 _⟩
  have hxa : Ext w (w2.alloc (.cells stCells 114)) := hx.alloc hx.size _
  have hHa := (Below.heap_alloc w2 (.cells stCells 114) _ hgr).trans hH
  clear hx1 hx2 hH
  obtain ⟨g, hg⟩ : ∃ g, g = w2.heap.size := ⟨_, rfl⟩
  rw [← hg] at hgr hstr ⊢
  replace hg := hide hg
  go_loopw [12] (fun s12 wr => ∃ (i : Nat) (al : Int), i ≤ n ∧ s12 = .int .i64 i ∧ StrAt wr g k64 h8 (ps.take i).flatten al ∧ al = (((ps.take i).flatten.length % 18446744073709551616 : Nat) : Int) ∧ wr.heap[w.heap.size]? = some (.cells (bcells (zeros 32)) 23 (0, 0)) ∧ Ext w wr) (fun s _ => (n - intOf s).toNat)
  case atStart => exact ⟨0, 0, by omega, rfl, by simpa using hstr, by simp, hHa, hxa⟩
  case round =>
    clear hstr hHa hxa hx
    obtain ⟨i, al, hi, rfl, hst, hal, hH, hx⟩ := hrel
    obtain ⟨w3, rfl⟩ : ∃ w3, w3 = wr := ⟨_, rfl⟩
    by_cases hlt : i < n
    · have hlt' : (i : Int) < n := by omega
      have hi0 : (0 : Int) ≤ i := by omega
      have hi63 : (i : Int) + 1 ≤ 9223372036854775807 := by have := hcap; unfold maxLen at this; omega
      obtain ⟨ad, rfl, hc⟩ := h.2 (by omega)
      obtain ⟨a', q, cap', f1, f2, f3, f4⟩ := hc i hlt
      have f1 := (hx.cell (p := ad.add i) (block_lt_of_cell f1)).trans f1
      have f5 := BytesIn.at hx f4 (Nat.le_of_lt hgr)
      have hpl := h.1
      replace h := hide h
      clear hc f4
      have htk : (ps.take (i + 1)).flatten = (ps.take i).flatten ++ ps.getD i [] := by
        rw [List.take_succ_eq_append_getElem (by omega), List.flatten_append]
        simp [List.getD, List.getElem?_eq_getElem (show i < ps.length by omega)]
      replace htk := hide htk
      replace hal := hide hal
      go_wp2_with (go_at_call 55; (refine (add_any g k64 h8 _ al a' q cap' _ _ rfl rfl hst f5 f2 f3).mono ?_); rintro r w4 ⟨rfl, hst4, hg4⟩)
      go_roundw
      case rel =>
        refine ⟨i + 1, _, by omega, by go_num, by rw [htk.out]; exact hst4, ?_, grown_keeps hg4 hH (by omega), ext_grown hx hg4 (fun k hk => by simp only [Option.some.injEq] at hk; omega)⟩
        rw [htk.out, hal.out, List.length_append, f5.1, IntKind.wrap_u64, IntKind.wrap_u64]
        omega
      case measure => simp [intOf]; omega
    · obtain rfl : i = n := by omega
      rw [List.take_of_length_le (by rw [h.1]; exact Nat.le_refl _)] at hst hal
      subst hal
      have hlt' : ¬ (i : Int) < i := by omega
      go_wp2_with (first | (go_at_call 56; (refine (end_any g k64 h8 _ _ rfl rfl hst).mono ?_); rintro r w4 ⟨⟨o, ho, rfl⟩, hg4⟩; have hH4 := grown_keeps hg4 hH (by omega); have hx4 := ext_grown hx hg4 (fun k hk => by simp only [Option.some.injEq] at hk; omega); have hst5 := store_over (P := Try.prog) w4 w.heap.size 23 32 (bcells o) _ 23 (size_bcells o) (size_bcells (zeros 32)) (by kernel_rfl) (one_bcells o) hH4) | ((with_reducible show bodyPost _ _ _ _ _ _); refine ret_row (P := Try.prog) 2 23 32 (bcells o) _ rfl rfl Try.underlying23 rfl (by kernel_rfl) _ _ rfl (rowAt_whole (setRow_heap _ _ _ _ _ _ hH4) (size_bcells o)) ⟨⟨o, ho, rfl⟩, below_setRow hx4 (Nat.le_refl _) _⟩))
end Go.Proofs.Ytegicioofbhifaa
/- Hashes: compared, stored into blocks, returned; a message's hash. -/
namespace Go.Proofs.Ytegicioofbhifaa
open Go.RowKit
set_option linter.unusedVariables false
set_option linter.unusedSimpArgs false

theorem equal_hash (w : World) (a b : Bs 32) : (Op.equalIn 10000 23 (.agg (bcells a)) (.agg (bcells b))).run Try.prog w = .ok (bsEq a b) w :=
  equalIn_Bs w 9998 23 5 32 Try.underlying23 Try.underlying5 (by kernel_rfl) a b
theorem bsEq_self {n : Nat} (a : Bs n) : bsEq a a = true := by rw [bsEq_iff]
theorem bb_at {n : Nat} {w : World} {g : Nat} {h : Bs n} (hr : rowAt w g 0 n = some (bcells h)) (j : Nat) (hj : j < n) : w.cell? ⟨g, j, none⟩ = some (.int .u8 ((h.1.getD j 0).toNat : Int)) := by
  have := cell_of_rowAt' hr j hj
  rw [Nat.zero_add] at this
  rw [this]
  have h1 := h.2
  simp [bcells, Extern.Stop.cell, List.getD, List.getElem?_eq_getElem (show j < h.1.length by omega)]
theorem store_new_H (o : Bs 32) (w : World) (N : Nat) (hN : w.heap.size = N) (z : Array Value) (hz : z.size = 32) : storeStep Try.prog 23 (.pointer (some ⟨N, 0, none⟩)) (.agg (bcells o)) (w.alloc (.cells z 23)) = .ok .skip (w.alloc (.cells (bcells o) 23)) := by
  subst hN
  rw [store_over (P := Try.prog) _ w.heap.size 23 32 (bcells o) z 23 (size_bcells o) hz (by kernel_rfl) (one_bcells _) (heap_alloc_new w _), setRow_new]
theorem bc_whole {n : Nat} (o : Bs n) : (bcells o).extract 0 n = bcells o := by
  apply Array.ext'
  rw [Array.toList_extract, List.extract_eq_take_drop, List.drop_zero, List.take_of_length_le]
  rw [Array.length_toList, size_bcells]; omega
theorem ext_two (w : World) (a b : Obj) : Ext w ((w.alloc a).alloc b) := by go_grown
/-- The return of a function whose first result is a row of cells, the second a slot. -/
theorem ret_row2 {P : Program} {fn : Func} {R : Ending → World → Prop} {a : Act} {w : World} (p q : Tmp) (ty n : Nat) (cs : Array Value) (d : TypeDesc) (v : Value) (h : fn.results = #[.cell p ty, .tmp q]) (hd : a.defers = [])
    (hu : P.underlying ty = some d) (hg : (match d with | .struct _ | .array _ _ => true | _ => false) = true) (hi : (P.info? ty).map (·.size) = some n)
    (g o : Nat) (hp : a.tmps.getD p undef = .pointer (some ⟨g, o, none⟩)) (hq : a.tmps.getD q undef = v) (hrow : rowAt w g o n = some cs) (hR : R (.returned (.tuple #[.agg cs, v])) w) : bodyPost P fn R .ret a w := by
  refine bodyPost_ret (v := .tuple #[.agg cs, v]) ?_ hd hR
  have hp' : a.tmps[p]?.getD undef = .pointer (some ⟨g, o, none⟩) := by simpa using hp
  have hq' : a.tmps[q]?.getD undef = v := by simpa using hq
  simp [results, h, hp', hq', asAddr, loadVar_row w g o ty n cs d hu hg hi hrow]
theorem store_cells_hash (w : World) (g : Nat) (t : TypeId) (Z : Array Value) (hZ : Z.size = 32) (b : Bs 32) (h : w.heap[g]? = some (.cells Z t (0, 0))) : (storeCells ⟨g, 0, none⟩ (bcells b).toList).run Try.prog w = .ok () (w.setRow g (bcells b)) := by
  have h1 := run_storeCells_from (P := Try.prog) g t (bcells b).toList 0 Z w h (by rw [hZ]; simp [size_bcells]) (fun v hv => (Array.all_eq_true_iff_forall_mem.1 (one_bcells b)) v (by simpa using hv))
  rw [h1]
  simp
theorem length_sumL (c : List UInt8) : (sumL c).length = 32 := by
  have h := length_blocksF k64 ((followedL c).length / 64) h8 (followedL c) rfl
  have h2 := length_be4s (blocksF k64 ((followedL c).length / 64) h8 (followedL c))
  rw [h] at h2
  exact h2
/-- The hash of a message; the node of two hashes. -/
def hashB (c : List UInt8) : Bs 32 := ⟨sumL c, length_sumL c⟩
theorem hash_eq {o : Bs 32} {c : List UInt8} (h : o.1 = sumL c) : o = hashB c := by
  cases o; simp only [hashB, Bs.mk.injEq]; exact h
theorem alloc3 (w : World) (A B C : Obj) : (((w.alloc A).alloc B).alloc C).heap[w.heap.size]? = some A ∧ (((w.alloc A).alloc B).alloc C).heap[w.heap.size + 1]? = some B ∧ (((w.alloc A).alloc B).alloc C).heap[w.heap.size + 1 + 1]? = some C ∧ Ext w (((w.alloc A).alloc B).alloc C) ∧ (((w.alloc A).alloc B).alloc C).heap.size = w.heap.size + 3 := by
  have e2 : ((w.alloc A).alloc B).heap.size = w.heap.size + 1 + 1 := by simp
  refine ⟨(Below.heap_alloc _ C w.heap.size (by simp; omega)).trans (heap_alloc2_old w A B), (Below.heap_alloc _ C (w.heap.size + 1) (by simp)).trans (heap_alloc2_new w A B), ?_, (ext_two w A B).then (ext_alloc _ C), by simp⟩
  have := heap_alloc_new ((w.alloc A).alloc B)
  rw [e2] at this
  exact this C
theorem bytes_hash {w : World} {g : Nat} {t : TypeId} {fr : Nat × Nat} {b : Bs 32} (h : w.heap[g]? = some (.cells (bcells b) t fr)) : BytesIn w (some ⟨g, 0, none⟩) 32 b.1 := bytes_blk h b.2
theorem load_bytes {w : World} {ad : Addr} {b : Bs 32} (h : BytesIn w (some ad) 32 b.1) : (blkLoad ad 32).run Try.prog w = .ok (bcells b) w := by
  have := run_loadCells_list (P := Try.prog) w ad (b.1.map cb) (fun j v hj => news_of_bytes h j v hj)
  rw [List.length_map, b.2] at this
  exact this
/-- sha.Sum, by the hash's name. -/
theorem sumB_any (a : Option Addr) (n cap : Nat) (ps : List (List UInt8)) (c : List UInt8) (hc : ps.flatten = c) (w : World) (hn : n ≤ cap) (hcap : cap ≤ maxLen) (h : PiecesIn w a n ps) :
    Calls Try.prog 25 #[.slice a n cap] w fun r w' => r = .returned (.agg (bcells (hashB c))) ∧ Ext w w' :=
  (sum_any a n cap ps w hn hcap h).mono fun r w' ⟨⟨o, ho, hr⟩, hx⟩ => ⟨by rw [hr, hash_eq (ho.trans (congrArg sumL hc))], hx⟩
end Go.Proofs.Ytegicioofbhifaa
