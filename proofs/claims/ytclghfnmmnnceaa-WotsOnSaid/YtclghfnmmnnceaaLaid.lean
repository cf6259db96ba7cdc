/- Bytes laid one by one into an array of noughts. -/
import Derived.Test.YtclghfnmmnnceaaByt
namespace Go.Proofs.Ytclghfnmmnnceaa
open Go.RowKit
set_option linter.unusedVariables false
set_option linter.unusedSimpArgs false

def laidL (c : List UInt8) (n i : Nat) : List UInt8 := c.take i ++ List.replicate (n - i) 0
theorem length_laidL (c : List UInt8) (n i : Nat) (hi : i ≤ n) (hc : i ≤ c.length) : (laidL c n i).length = n := by
  simp [laidL]; omega
theorem laid_succ (c : List UInt8) (n i : Nat) (hi : i < n) (hc : i < c.length) : (laidL c n i).set i (c.getD i 0) = laidL c n (i + 1) := by
  unfold laidL
  rw [show n - i = (n - (i + 1)) + 1 by omega, List.replicate_succ, List.set_append_right _ _ (by simp; omega)]
  rw [show i - (c.take i).length = 0 by rw [List.length_take]; omega, List.set_cons_zero, ← List.take_append_getElem hc, List.append_assoc]
  simp [List.getD, List.getElem?_eq_getElem hc]
theorem laid_zero (c : List UInt8) (n : Nat) : laidL c n 0 = List.replicate n 0 := by simp [laidL]
theorem laid_all (c : List UInt8) (n : Nat) : laidL c n n = c.take n := by simp [laidL]
/-- The cell turned. -/
theorem laid_set (c : List UInt8) (n i : Nat) (hi : i < n) (hc : i < c.length) : ((laidL c n i).map cb).toArray.setIfInBounds i (.int .u8 ((c.getD i 0).toNat : Int)) = ((laidL c n (i + 1)).map cb).toArray := by
  rw [b_set, laid_succ c n i hi hc]
end Go.Proofs.Ytclghfnmmnnceaa
