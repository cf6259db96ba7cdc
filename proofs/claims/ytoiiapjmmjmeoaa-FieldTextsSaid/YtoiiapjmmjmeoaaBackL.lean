/- Rows of a number and blobs, cut anywhere: plain laws. No program in sight. -/
import Derived.Test.YtoiiapjmmjmeoaaWread
import Derived.Test.YtoiiapjmmjmeoaaWblob
import Derived.Test.YtoiiapjmmjmeoaaWidthL
import Derived.Test.YtoiiapjmmjmeoaaWjoin
namespace Go.Proofs.Ytoiiapjmmjmeoaa
open Go.RowKit
set_option linter.unusedVariables false
set_option linter.unusedSimpArgs false

/-- A number, and blobs. -/
def rowL (n s : Nat) (ps : List (List UInt8)) : List UInt8 := putL n s ++ (ps.map blobL).flatten
/-- Where the first k blobs end. -/
def endL (s : Nat) (ps : List (List UInt8)) (k : Nat) : Nat := s + ((ps.take k).map blobL).flatten.length
theorem length_rowL (n s : Nat) (ps : List (List UInt8)) : (rowL n s ps).length = endL s ps ps.length := by
  unfold rowL endL; rw [List.length_append, length_putL, List.take_length]
theorem endL_zero (s : Nat) (ps : List (List UInt8)) : endL s ps 0 = s := by simp [endL]
theorem map_take_flat (ps : List (List UInt8)) (k : Nat) (h : k < ps.length) : ((ps.take (k + 1)).map blobL).flatten = ((ps.take k).map blobL).flatten ++ blobL (ps.getD k []) := by
  rw [List.take_succ_eq_append_getElem h, List.map_append, List.flatten_append]
  congr 1
  simp [List.getD, List.getElem?_eq_getElem h]
theorem rowL_succ (n s : Nat) (ps : List (List UInt8)) (k : Nat) (h : k < ps.length) : rowL n s (ps.take (k + 1)) = rowL n s (ps.take k) ++ blobL (ps.getD k []) := by
  unfold rowL; rw [map_take_flat ps k h, List.append_assoc]
theorem endL_succ (s : Nat) (ps : List (List UInt8)) (k : Nat) (h : k < ps.length) : endL s ps (k + 1) = endL s ps k + (2 + (ps.getD k []).length) := by
  unfold endL; rw [map_take_flat ps k h, List.length_append, length_blobL]; omega
theorem length_row_take (n s : Nat) (ps : List (List UInt8)) (k : Nat) (h : k ≤ ps.length) : (rowL n s (ps.take k)).length = endL s ps k := by
  rw [length_rowL]; unfold endL; rw [List.take_of_length_le (by omega)]
theorem endL_le (s : Nat) (ps : List (List UInt8)) (k : Nat) (h : k ≤ ps.length) : endL s ps k ≤ endL s ps ps.length := by
  unfold endL
  rw [List.take_length]
  conv => rhs; rw [← List.take_append_drop k ps, List.map_append, List.flatten_append, List.length_append]
  omega
theorem blobs_length : ∀ (ps : List (List UInt8)), (ps.map blobL).flatten.length = 2 * ps.length + ps.flatten.length
  | [] => rfl
  | p :: ps => by
    rw [List.map_cons, List.flatten_cons, List.length_append, length_blobL, blobs_length ps, List.flatten_cons, List.length_append, List.length_cons]; omega
theorem endL_bound (s : Nat) (ps : List (List UInt8)) : endL s ps ps.length = s + (2 * ps.length + ps.flatten.length) := by
  unfold endL; rw [List.take_length, blobs_length]
theorem row_drop (n s : Nat) (ps : List (List UInt8)) (k : Nat) (h : k < ps.length) : ∃ rest, (rowL n s ps).drop (endL s ps k) = blobL (ps.getD k []) ++ rest ∧ (rowL n s ps).drop (endL s ps (k + 1)) = rest := by
  have hk : rowL n s ps = rowL n s (ps.take (k + 1)) ++ ((ps.drop (k + 1)).map blobL).flatten := by
    unfold rowL
    conv => lhs; rw [← List.take_append_drop (k + 1) ps, List.map_append, List.flatten_append, ← List.append_assoc]
  refine ⟨((ps.drop (k + 1)).map blobL).flatten, ?_, ?_⟩
  · rw [hk, rowL_succ n s ps k h, List.append_assoc]
    exact List.drop_left' (length_row_take n s ps k (by omega))
  · rw [hk]
    exact List.drop_left' (length_row_take n s ps (k + 1) (by omega))
/-- What the reader of a cut row has left when the number and k blobs are read. -/
def stL (n s : Nat) (ps : List (List UInt8)) (cut k : Nat) : Option (List UInt8) :=
  if endL s ps k ≤ cut then some (((rowL n s ps).take cut).drop (endL s ps k)) else none
theorem takeN_nat (m : Nat) (c : List UInt8) : takeN (m : Int) (some c) = if m ≤ c.length then (some (c.drop m), c.take m) else (none, []) := by
  unfold takeN
  simp
theorem takeN_none (m : Int) : takeN m none = (none, []) := rfl
theorem head_read (n s : Nat) (ps : List (List UInt8)) (cut : Nat) (h1 : 1 ≤ s) (h8 : s ≤ 8) (hc : cut ≤ (rowL n s ps).length) (hn : n < p256 s) :
    ∃ x, takeN (numSz s) (some ((rowL n s ps).take cut)) = (stL n s ps cut 0, x) ∧ getN x = if s ≤ cut then n else 0 := by
  have hz : numSz (s : Int) = (s : Nat) := by unfold numSz; rw [if_pos (by omega)]
  rw [hz, takeN_nat]
  have hlen : ((rowL n s ps).take cut).length = cut := by rw [List.length_take]; omega
  rw [hlen]
  unfold stL
  rw [endL_zero]
  by_cases h : s ≤ cut
  · refine ⟨((rowL n s ps).take cut).take s, by rw [if_pos h, if_pos h], ?_⟩
    rw [if_pos h, List.take_take, Nat.min_eq_left h]
    unfold rowL
    rw [List.take_left' (length_putL n s), getN_putL, Nat.mod_eq_of_lt hn]
  · exact ⟨[], by rw [if_neg h, if_neg h], by rw [if_neg h]; rfl⟩
theorem blob_read (n s : Nat) (ps : List (List UInt8)) (cut k : Nat) (h : k < ps.length) (hl : (ps.getD k []).length ≤ 65535) (hc : cut ≤ (rowL n s ps).length) :
    blobN (stL n s ps cut k) = (stL n s ps cut (k + 1), if endL s ps (k + 1) ≤ cut then ps.getD k [] else []) := by
  have hsucc := endL_succ s ps k h
  obtain ⟨rest, hr1, hr2⟩ := row_drop n s ps k h
  generalize ps.getD k [] = x at *
  generalize hR : rowL n s ps = R at *
  unfold blobN stL
  rw [hR]
  by_cases hk : endL s ps k ≤ cut
  · rw [if_pos hk, show (2 : Int) = ((2 : Nat) : Int) from rfl, takeN_nat]
    have hd : (R.take cut).drop (endL s ps k) = (blobL x ++ rest).take (cut - endL s ps k) := by rw [List.drop_take, hr1]
    have hlen : ((R.take cut).drop (endL s ps k)).length = cut - endL s ps k := by rw [List.length_drop, List.length_take]; omega
    rw [hlen]
    by_cases h2 : 2 ≤ cut - endL s ps k
    · rw [if_pos h2]
      have ht : ((R.take cut).drop (endL s ps k)).take 2 = putL x.length 2 := by
        rw [hd, List.take_take, Nat.min_eq_left h2]
        unfold blobL
        rw [List.append_assoc, List.take_left' (length_putL _ _)]
      have hg : getN (putL x.length 2) = x.length := by rw [getN_putL, Nat.mod_eq_of_lt (by rw [p256_2]; omega)]
      simp only [ht, hg]
      rw [takeN_nat, List.length_drop, hlen]
      by_cases h3 : x.length ≤ cut - endL s ps k - 2
      · rw [if_pos h3, if_pos (by omega), if_pos (by omega)]
        congr 1
        · rw [List.drop_drop, List.drop_drop, hsucc]
        · rw [hd, List.drop_take, List.take_take, Nat.min_eq_left h3]
          unfold blobL
          rw [List.append_assoc, List.drop_left' (length_putL _ _), List.take_left]
      · rw [if_neg h3, if_neg (by omega), if_neg (by omega)]
    · rw [if_neg h2, if_neg (by omega), if_neg (by omega)]
      rfl
  · rw [if_neg hk, if_neg (by omega), if_neg (by omega)]
    rfl
theorem blob_whole (R : List UInt8) (h : R.length ≤ 65535) : blobN (some (blobL R)) = (some [], R) := by
  unfold blobN
  rw [show (2 : Int) = ((2 : Nat) : Int) from rfl, takeN_nat, length_blobL, if_pos (by omega)]
  have ht : (blobL R).take 2 = putL R.length 2 := by unfold blobL; exact List.take_left' (length_putL _ _)
  have hd : (blobL R).drop 2 = R := by unfold blobL; exact List.drop_left' (length_putL _ _)
  have hg : getN (putL R.length 2) = R.length := by rw [getN_putL, Nat.mod_eq_of_lt (by rw [p256_2]; omega)]
  simp only [ht, hd, hg]
  rw [takeN_nat, if_pos (Nat.le_refl _), List.drop_length, List.take_length]
theorem st_end (n s : Nat) (ps : List (List UInt8)) (cut : Nat) (hc : cut ≤ (rowL n s ps).length) : stL n s ps cut ps.length = if cut = (rowL n s ps).length then some [] else none := by
  unfold stL
  rw [length_rowL] at hc ⊢
  by_cases h : cut = endL s ps ps.length
  · rw [if_pos (by omega), if_pos h, List.drop_eq_nil_of_le (by rw [List.length_take]; omega)]
  · rw [if_neg (by omega), if_neg h]
end Go.Proofs.Ytoiiapjmmjmeoaa
