/- The walk of the reference's Much. -/
import Derived.Test.YtoiiapjmmjmeoaaByt
namespace Go.Proofs.Ytoiiapjmmjmeoaa
open Go.RowKit
set_option linter.unusedVariables false
set_option linter.unusedSimpArgs false

/-- What Much answers: where it is false, there is no more. -/
def MuchIs (n most : Nat) (ps : List (List UInt8)) (r : Ending) : Prop := ∃ m : Bool, r = .returned (.bool m) ∧ (m = false → n + ps.flatten.length ≤ most)
set_option maxHeartbeats 2000000 in
theorem much_any (a : Option Addr) (n cap most : Nat) (ps : List (List UInt8)) (w : World) (hn : n ≤ cap) (hcap : cap ≤ maxLen) (hm : most ≤ 1000000) (h : PiecesIn w a n ps) :
    Calls Try.prog 27 #[.slice a n cap, .int .i64 (most : Int)] w fun r w' => MuchIs n most ps r ∧ w' = w := by
  have hcm : cap ≤ 9223372036854775807 := by unfold maxLen at hcap; omega
  go_enter Try.func27, Try.ntmps27
  have j1 : IntKind.i64.wrap ((most : Int) - n) = (most : Int) - n := by rw [IntKind.wrap_i64]; omega
  have j2 : IntKind.i64.wrap ((most : Int) + 1) = (most : Int) + 1 := by rw [IntKind.wrap_i64]; omega
  go_wp2_with fail
  go_loop [5, 6] (fun s5 s6 => ∃ (i : Nat) (x : Int), i ≤ n ∧ s6 = .int .i64 i ∧ s5 = .int .i64 x ∧ x ≤ most ∧ - 9223372036854775807 ≤ x ∧ (0 ≤ x → x = (most : Int) - n - ((ps.take i).flatten.length : Int))) (fun _ s => (n - intOf s).toNat)
  case atStart => exact ⟨0, _, by omega, rfl, rfl, by omega, by omega, by simp⟩
  case round =>
    obtain ⟨i, x, hi, rfl, rfl, hx1, hx2, hx3⟩ := hrel
    by_cases hlt : i < n
    · have hlt' : (i : Int) < n := by omega
      have hi0 : (0 : Int) ≤ i := by omega
      by_cases hx0 : 0 ≤ x
      · have hd : decide (0 ≤ x) = true := by simpa using hx0
        obtain ⟨ad, rfl, hc⟩ := h.2 (by omega)
        obtain ⟨a', q, cap', f1, f2, f3, f4⟩ := hc i hlt
        have hpl := h.1
        have htk := take_flat ps i (by omega)
        have hql := f4.1
        replace h := hide h
        replace htk := hide htk
        clear hc f4
        go_wp2_with fail
        obtain ⟨M, eM⟩ : ∃ M : Int, (if (most : Int) + 1 < (q : Int) then (most : Int) + 1 else (q : Int)) = M := ⟨_, rfl⟩
        have hM : 0 ≤ M ∧ M ≤ (most : Int) + 1 ∧ (M ≤ most → M = q) := by rw [← eM]; split <;> refine ⟨by omega, by omega, fun h => by omega⟩
        rw [eM]
        refine ⟨⟨i + 1, x - M, by omega, by go_num, rfl, by omega, by omega, fun h0 => ?_⟩, by simp [intOf]; omega⟩
        rw [htk.out, List.length_append, hql]
        have h1 := hx3 hx0
        have h2 := hM.2.2 (by omega)
        omega
      · have hd : decide (0 ≤ x) = false := by simpa using hx0
        have hxx : x < 0 := by omega
        clear hx3
        go_wp2_with fail
        go_ret
        exact ⟨⟨true, rfl, fun h => by cases h⟩, rfl⟩
    · obtain rfl : i = n := by omega
      have hlt' : ¬ (i : Int) < i := by omega
      rw [List.take_of_length_le (by rw [h.1]; exact Nat.le_refl _)] at hx3
      by_cases hx0 : x < 0
      · have hd : decide (x < 0) = true := by simpa using hx0
        go_wp2_with fail
        go_ret
        exact ⟨⟨true, rfl, fun h => by cases h⟩, rfl⟩
      · have hd : decide (x < 0) = false := by simpa using hx0
        go_wp2_with fail
        go_ret
        have hf : i + ps.flatten.length ≤ most := by omega
        exact ⟨⟨false, rfl, fun _ => hf⟩, rfl⟩
end Go.Proofs.Ytoiiapjmmjmeoaa
