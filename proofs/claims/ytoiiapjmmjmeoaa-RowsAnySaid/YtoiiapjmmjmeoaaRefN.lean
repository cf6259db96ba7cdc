/- The walks of the reference's reader: numbers, blobs, what is left, the end. -/
import Derived.Test.YtoiiapjmmjmeoaaRefR
namespace Go.Proofs.Ytoiiapjmmjmeoaa
open Go.RowKit
set_option linter.unusedVariables false
set_option linter.unusedSimpArgs false

theorem RefIs.drewN {w : World} {p cap : Nat} {a : Option Addr} {c : List UInt8} {st : Option (List UInt8)} (h : RefIs w p a cap c st) (m : Nat) : RefIs (w.drewN m) p a cap c st := h
/-- A number's field read by the reference's reader. -/
def RefNum (w : World) (p : Nat) (a : Option Addr) (cap : Nat) (c : List UInt8) (t : Option (List UInt8) × List UInt8) (r : Ending) (w' : World) : Prop :=
  r = .returned (.int .u64 (getN t.2 : Int)) ∧ RefIs w' p a cap c t.1 ∧ w.grownBy w' (some p)
set_option maxHeartbeats 4000000 in
set_option maxRecDepth 100000 in
theorem refNumber_any (p cap : Nat) (a : Option Addr) (c : List UInt8) (st : Option (List UInt8)) (size : Int) (w : World) (h : RefIs w p a cap c st) :
    Calls Try.prog 12 #[.pointer (some ⟨p, 0, none⟩), .int .i64 size] w fun r w' => RefNum w p a cap c (takeN (numSz size) st) r w' := by
  have hz1 : -9223372036854775808 ≤ numSz size ∧ numSz size ≤ 9223372036854775807 := by unfold numSz; split <;> omega
  have hb := refBytes_any p cap a c st (numSz size) w hz1.1 hz1.2 h
  have hle := takeN_le (numSz size) st 8 (numSz_le size)
  have hsz : numSz size = if 1 ≤ size ∧ size ≤ 8 then size else -1 := rfl
  clear hz1
  generalize takeN (numSz size) st = t at *
  by_cases h1 : size < 1
  · have hd : decide (size < 1) = true := by simpa using h1
    rw [if_neg (by omega)] at hsz
    rw [hsz] at hb
    replace hb := hide hb
    clear hsz
    go_enter Try.func12, Try.ntmps12
    go_wp2_with (first | (go_at_call 16; (with_reducible refine hb.out.mono ?_); rintro r w1 ⟨a1, cap1, rfl, hc1, hc2, hin1, hr1, hg1⟩; replace hr1 := hide hr1; replace hg1 := hide hg1; replace hin1 := hide hin1) | (go_at_call 34; (with_reducible refine (get_any _ _ _ _ hle _ hin1.out).mono ?_); rintro r w2 ⟨rfl, m, rfl⟩))
    go_ret
    exact ⟨rfl, hr1.out.drewN m, grown_drewN hg1.out m⟩
  · have hd : decide (size < 1) = false := by simpa using h1
    by_cases h8 : 8 < size
    · have hd2 : decide (8 < size) = true := by simpa using h8
      rw [if_neg (by omega)] at hsz
      rw [hsz] at hb
      replace hb := hide hb
      clear hsz
      go_enter Try.func12, Try.ntmps12
      go_wp2_with (first | (go_at_call 16; (with_reducible refine hb.out.mono ?_); rintro r w1 ⟨a1, cap1, rfl, hc1, hc2, hin1, hr1, hg1⟩; replace hr1 := hide hr1; replace hg1 := hide hg1; replace hin1 := hide hin1) | (go_at_call 34; (with_reducible refine (get_any _ _ _ _ hle _ hin1.out).mono ?_); rintro r w2 ⟨rfl, m, rfl⟩))
      go_ret
      exact ⟨rfl, hr1.out.drewN m, grown_drewN hg1.out m⟩
    · have hd2 : decide (8 < size) = false := by simpa using h8
      rw [if_pos (by omega)] at hsz
      rw [hsz] at hb
      replace hb := hide hb
      clear hsz
      go_enter Try.func12, Try.ntmps12
      go_wp2_with (first | (go_at_call 16; (with_reducible refine hb.out.mono ?_); rintro r w1 ⟨a1, cap1, rfl, hc1, hc2, hin1, hr1, hg1⟩; replace hr1 := hide hr1; replace hg1 := hide hg1; replace hin1 := hide hin1) | (go_at_call 34; (with_reducible refine (get_any _ _ _ _ hle _ hin1.out).mono ?_); rintro r w2 ⟨rfl, m, rfl⟩))
      go_ret
      exact ⟨rfl, hr1.out.drewN m, grown_drewN hg1.out m⟩
set_option maxHeartbeats 4000000 in
set_option maxRecDepth 100000 in
theorem refBlob_any (p cap : Nat) (a : Option Addr) (c : List UInt8) (st : Option (List UInt8)) (w : World) (h : RefIs w p a cap c st) :
    Calls Try.prog 14 #[.pointer (some ⟨p, 0, none⟩)] w fun r w' => RefTake w p a cap c (blobN st).1 (blobN st).2 r w' := by
  have hn : Calls Try.prog 12 #[.pointer (some ⟨p, 0, none⟩), .int .i64 2] w fun r w' => RefNum w p a cap c (takeN 2 st) r w' := refNumber_any p cap a c st 2 w h
  have hL := getN_two 2 st (by decide)
  have hb := fun w1 (hr : RefIs w1 p a cap c (takeN 2 st).1) => refBytes_any p cap a c _ (getN (takeN 2 st).2 : Nat) w1 (by omega) (by omega) hr
  have hbl : takeN (getN (takeN 2 st).2 : Nat) (takeN 2 st).1 = blobN st := rfl
  rw [hbl] at hb
  generalize takeN 2 st = t at *
  have hw0 : wrap64 (getN t.2 : Int) = getN t.2 := by unfold wrap64; omega
  generalize blobN st = u at *
  have hw1 : IntKind.i64.wrap (getN t.2 : Int) = getN t.2 := by rw [IntKind.wrap_i64]; omega
  replace hn := hide hn
  replace hb := hide hb
  replace hbl := hide hbl
  go_enter Try.func14, Try.ntmps14
  go_wp2_with (first | (go_at_call 12; (with_reducible refine hn.out.mono ?_); rintro r w1 ⟨rfl, hr1, hg1⟩; replace hr1 := hide hr1; replace hg1 := hide hg1) | (go_at_call 16; (with_reducible refine (hb.out _ hr1.out).mono ?_); rintro r w2 ⟨a2, cap2, rfl, hc1, hc2, hin2, hr2, hg2⟩; replace hr2 := hide hr2; replace hg2 := hide hg2; replace hin2 := hide hin2))
  go_ret
  exact ⟨a2, cap2, rfl, hc1, hc2, hin2.out, hr2.out, grown_trans hg1.out hg2.out⟩
set_option maxHeartbeats 4000000 in
set_option maxRecDepth 100000 in
theorem refLeft_any (p cap : Nat) (a : Option Addr) (c : List UInt8) (st : Option (List UInt8)) (w : World) (h : RefIs w p a cap c st) :
    Calls Try.prog 19 #[.pointer (some ⟨p, 0, none⟩)] w fun r w' => r = .returned (.int .i64 (leftN st : Int)) ∧ ∃ m, w' = w.drewN m := by
  obtain ⟨i, hb, hi, hd, hc1, hc2, hnil, hin, hpl⟩ := h
  have d0 : w.cell? ⟨p, 0, none⟩ = some (.slice a c.length cap) := by rw [cell_of_row _ _ 0 _ _ _ hb]; rfl
  have d1 : w.cell? ⟨p, 1, none⟩ = some (.int .i64 (i : Int)) := by rw [cell_of_row _ _ 1 _ _ _ hb]; rfl
  have d2 : w.cell? ⟨p, 2, none⟩ = some (.bool st.isNone) := by rw [cell_of_row _ _ 2 _ _ _ hb]; rfl
  have hc63 : c.length ≤ 9223372036854775807 := Nat.le_trans hc1 hc2
  have j1 : IntKind.i64.wrap ((c.length : Int) - i) = ((c.length - i : Nat) : Int) := by rw [IntKind.wrap_i64]; omega
  have j2 : (c.length : Int) - i = ((c.length - i : Nat) : Int) := by omega
  cases st with
  | none =>
    go_enter Try.func19, Try.ntmps19
    go_wp2_with fail
    go_quiet (fail)
    go_wp2_with fail
    go_ret
    exact ⟨rfl, _, rfl⟩
  | some d =>
    obtain rfl := hd d rfl
    have hl : leftN (some (c.drop i)) = c.length - i := by simp [leftN]
    rw [hl]
    go_enter Try.func19, Try.ntmps19
    go_wp2_with fail
    go_quiet (fail)
    go_wp2_with fail
    go_ret
    exact ⟨rfl, _, rfl⟩
set_option maxHeartbeats 4000000 in
set_option maxRecDepth 100000 in
theorem refEnd_any (p cap : Nat) (a : Option Addr) (c : List UInt8) (st : Option (List UInt8)) (w : World) (h : RefIs w p a cap c st) :
    Calls Try.prog 22 #[.pointer (some ⟨p, 0, none⟩)] w fun r w' => r = .returned (.int .i64 (endN st : Int)) ∧ ∃ m, w' = w.drewN m := by
  obtain ⟨i, hb, hi, hd, hc1, hc2, hnil, hin, hpl⟩ := h
  have d0 : w.cell? ⟨p, 0, none⟩ = some (.slice a c.length cap) := by rw [cell_of_row _ _ 0 _ _ _ hb]; rfl
  have d1 : w.cell? ⟨p, 1, none⟩ = some (.int .i64 (i : Int)) := by rw [cell_of_row _ _ 1 _ _ _ hb]; rfl
  have d2 : w.cell? ⟨p, 2, none⟩ = some (.bool st.isNone) := by rw [cell_of_row _ _ 2 _ _ _ hb]; rfl
  cases st with
  | none =>
    go_enter Try.func22, Try.ntmps22
    go_wp2_with fail
    go_quiet (fail)
    go_wp2_with fail
    go_ret
    exact ⟨rfl, _, rfl⟩
  | some d =>
    obtain rfl := hd d rfl
    by_cases hc : c.length = i
    · have hl : endN (some (c.drop i)) = 0 := by simp [endN]; omega
      have hi' : ((i : Int) != (c.length : Int)) = false := by rw [hc]; simp
      rw [hl]
      go_enter Try.func22, Try.ntmps22
      go_wp2_with fail
      go_quiet (fail)
      go_wp2_with fail
      go_ret
      exact ⟨rfl, _, rfl⟩
    · have hl : endN (some (c.drop i)) = 4 := by simp [endN]; omega
      have hi' : ((i : Int) != (c.length : Int)) = true := by simp; omega
      rw [hl]
      go_enter Try.func22, Try.ntmps22
      go_wp2_with fail
      go_quiet (fail)
      go_wp2_with fail
      go_ret
      exact ⟨rfl, _, rfl⟩
end Go.Proofs.Ytoiiapjmmjmeoaa
