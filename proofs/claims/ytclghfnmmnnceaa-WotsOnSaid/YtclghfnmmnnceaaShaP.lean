/- The hash, plainly: blocks of 64 bytes, what follows a message, the hash's bytes. No program in sight. -/
import Derived.Test.YtclghfnmmnnceaaByt
import Derived.Test.YtclghfnmmnnceaaShaS
import Derived.Test.YtclghfnmmnnceaaAgg
namespace Go.Proofs.Ytclghfnmmnnceaa
open Go.RowKit
set_option linter.unusedVariables false
set_option linter.unusedSimpArgs false

/-- Four bytes as a word. -/
def word4 (a b c d : UInt8) : UInt32 := UInt32.ofNat (a.toNat * 16777216 + b.toNat * 65536 + c.toNat * 256 + d.toNat)
def wordAt (m : List UInt8) (i : Nat) : UInt32 := word4 (m.getD (4 * i) 0) (m.getD (4 * i + 1) 0) (m.getD (4 * i + 2) 0) (m.getD (4 * i + 3) 0)
def sig0 (x : UInt32) : UInt32 := xorW (xorW (rotr x 7) (rotr x 18)) (shrw x 3)
def sig1 (x : UInt32) : UInt32 := xorW (xorW (rotr x 17) (rotr x 19)) (shrw x 10)
def nextOf (x2 x7 x15 x16 : UInt32) : UInt32 := addW (addW (addW (sig1 x2) x7) (sig0 x15)) x16
def nextW (L : List UInt32) (t : Nat) : UInt32 := nextOf (L.getD (t - 2) 0) (L.getD (t - 7) 0) (L.getD (t - 15) 0) (L.getD (t - 16) 0)
/-- The first words of a block's schedule. -/
def schedL (m : List UInt8) : Nat → List UInt32
  | 0 => []
  | t + 1 => schedL m t ++ [if t < 16 then wordAt m t else nextW (schedL m t) t]
theorem length_schedL (m : List UInt8) (t : Nat) : (schedL m t).length = t := by
  induction t with
  | zero => rfl
  | succ t ih => simp [schedL, ih]
/-- Eight words. -/
structure V8 where
  a : UInt32
  b : UInt32
  c : UInt32
  d : UInt32
  e : UInt32
  f : UInt32
  g : UInt32
  h : UInt32
def V8.list (v : V8) : List UInt32 := [v.a, v.b, v.c, v.d, v.e, v.f, v.g, v.h]
def V8.of (l : List UInt32) : V8 := ⟨l.getD 0 0, l.getD 1 0, l.getD 2 0, l.getD 3 0, l.getD 4 0, l.getD 5 0, l.getD 6 0, l.getD 7 0⟩
def oneOf (v : V8) (k w : UInt32) : UInt32 := addW (addW (addW (addW v.h (xorW (xorW (rotr v.e 6) (rotr v.e 11)) (rotr v.e 25))) (xorW (andW v.e v.f) (notW v.g v.e))) k) w
def twoOf (v : V8) : UInt32 := addW (xorW (xorW (rotr v.a 2) (rotr v.a 13)) (rotr v.a 22)) (xorW (xorW (andW v.a v.b) (andW v.a v.c)) (andW v.b v.c))
def stepV (v : V8) (k w : UInt32) : V8 := ⟨addW (oneOf v k w) (twoOf v), v.a, v.b, v.c, addW v.d (oneOf v k w), v.e, v.f, v.g⟩
def roundsV (k w : List UInt32) (v : V8) : Nat → V8
  | 0 => v
  | t + 1 => stepV (roundsV k w v t) (k.getD t 0) (w.getD t 0)
def addL : List UInt32 → List UInt32 → List UInt32
  | x :: l, y :: m => addW x y :: addL l m
  | _, _ => []
def compress (k e : List UInt32) (m : List UInt8) : List UInt32 := addL e (roundsV k (schedL m 64) (V8.of e) 64).list
/-- All whole blocks of a message. -/
def blocksF (k : List UInt32) : Nat → List UInt32 → List UInt8 → List UInt32
  | 0, e, _ => e
  | n + 1, e, m => blocksF k n (compress k e (m.take 64)) (m.drop 64)
def blocksL (k e : List UInt32) (m : List UInt8) : List UInt32 := blocksF k (m.length / 64) e m
def be8 (n : Nat) : List UInt8 := [UInt8.ofNat (n / 2 ^ 56), UInt8.ofNat (n / 2 ^ 48), UInt8.ofNat (n / 2 ^ 40), UInt8.ofNat (n / 2 ^ 32), UInt8.ofNat (n / 2 ^ 24), UInt8.ofNat (n / 2 ^ 16), UInt8.ofNat (n / 2 ^ 8), UInt8.ofNat n]
def be4 (x : UInt32) : List UInt8 := [UInt8.ofNat (x.toNat / 16777216), UInt8.ofNat (x.toNat / 65536), UInt8.ofNat (x.toNat / 256), UInt8.ofNat x.toNat]
/-- A message, and what follows it. -/
def followedL (b : List UInt8) : List UInt8 := b ++ (128 :: (List.replicate ((119 - b.length % 64) % 64) 0 ++ be8 (b.length * 8 % 18446744073709551616)))
def sumK (k e : List UInt32) (b : List UInt8) : List UInt8 := (blocksL k e (followedL b)).flatMap be4
def k64 : List UInt32 := [
  0x428a2f98, 0x71374491, 0xb5c0fbcf, 0xe9b5dba5, 0x3956c25b, 0x59f111f1, 0x923f82a4, 0xab1c5ed5,
  0xd807aa98, 0x12835b01, 0x243185be, 0x550c7dc3, 0x72be5d74, 0x80deb1fe, 0x9bdc06a7, 0xc19bf174,
  0xe49b69c1, 0xefbe4786, 0x0fc19dc6, 0x240ca1cc, 0x2de92c6f, 0x4a7484aa, 0x5cb0a9dc, 0x76f988da,
  0x983e5152, 0xa831c66d, 0xb00327c8, 0xbf597fc7, 0xc6e00bf3, 0xd5a79147, 0x06ca6351, 0x14292967,
  0x27b70a85, 0x2e1b2138, 0x4d2c6dfc, 0x53380d13, 0x650a7354, 0x766a0abb, 0x81c2c92e, 0x92722c85,
  0xa2bfe8a1, 0xa81a664b, 0xc24b8b70, 0xc76c51a3, 0xd192e819, 0xd6990624, 0xf40e3585, 0x106aa070,
  0x19a4c116, 0x1e376c08, 0x2748774c, 0x34b0bcb5, 0x391c0cb3, 0x4ed8aa4a, 0x5b9cca4f, 0x682e6ff3,
  0x748f82ee, 0x78a5636f, 0x84c87814, 0x8cc70208, 0x90befffa, 0xa4506ceb, 0xbef9a3f7, 0xc67178f2]
def h8 : List UInt32 := [0x6a09e667, 0xbb67ae85, 0x3c6ef372, 0xa54ff53a, 0x510e527f, 0x9b05688c, 0x1f83d9ab, 0x5be0cd19]
/-- THE HASH of a message. -/
def sumL (b : List UInt8) : List UInt8 := sumK k64 h8 b
end Go.Proofs.Ytclghfnmmnnceaa
