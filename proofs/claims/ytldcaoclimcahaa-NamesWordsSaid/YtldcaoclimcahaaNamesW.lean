/- The walk of the law on the start's words and the constants. -/
import Derived.Test.YtldcaoclimcahaaKnown3
import Derived.Test.YtldcaoclimcahaaWideB
namespace Go.Proofs.Ytldcaoclimcahaa
open Go.RowKit
set_option linter.unusedVariables false
set_option linter.unusedSimpArgs false

theorem prL_bound (k : Nat) (h : k < 64) : (prL 310).getD k 0 < 65536 := by
  have := prL_pos 310 ((prL 310).getD k 0) (by
    rw [show (prL 310).getD k 0 = (prL 310)[k]'(by rw [prL_full]; omega) by simp [List.getD, List.getElem?_eq_getElem (show k < (prL 310).length by rw [prL_full]; omega)]]
    exact List.getElem_mem _)
  omega
theorem frac_at (k : Nat) (h : k < 64) : fracW ((prL 310).getD k 0) 3 = k64.getD k 0 := by
  rw [← frac_k]
  simp [List.getD, List.getElem?_eq_getElem (show k < (prL 310).length by rw [prL_full]; omega)]
theorem frac2_at (k : Nat) (h : k < 8) : fracW ((prL 310).getD k 0) 2 = h8.getD k 0 := by
  rw [← frac_h]
  simp [List.getD, List.getElem?_take_of_lt h, List.getElem?_eq_getElem (show k < (prL 310).length by rw [prL_full]; omega)]
set_option maxHeartbeats 1000000 in
theorem refStartI_any (i : Int) (w : World) : Calls Try.prog 20 #[.int .i64 i] w fun r w' => r = .returned (.int .u32 ((wordI h8 i).toNat : Int)) ∧ Ext w w' := by
  by_cases h0 : i < 0
  · have hd : decide (i < 0) = true := by simpa using h0
    have hw : wordI h8 i = 0 := by simp [wordI, h0]
    replace hw := hide hw
    go_enter Try.func20, Try.ntmps20
    go_wp2_with fail
    go_ret
    exact ⟨by rw [hw.out]; rfl, Below.refl _ _⟩
  · by_cases h1 : 7 < i
    · have hd : decide (i < 0) = false := by simpa using h0
      have hw : wordI h8 i = 0 := by
        simp only [wordI, h0, if_false, List.getD]
        rw [List.getElem?_eq_none (by show 8 ≤ _; omega)]; rfl
      replace hw := hide hw
      go_enter Try.func20, Try.ntmps20
      go_wp2_with fail
      go_ret
      exact ⟨by rw [hw.out]; rfl, Below.refl _ _⟩
    · obtain ⟨k, rfl⟩ := Int.eq_ofNat_of_zero_le (show 0 ≤ i by omega)
      have hd : decide ((k : Int) < 0) = false := by simp
      have hk : k < 8 := by omega
      have hw : wordI h8 (k : Int) = fracW ((prL 310).getD k 0) 2 := by rw [frac2_at k hk]; unfold wordI; rw [if_neg (by omega), Int.toNat_natCast]
      have hk7 : ¬ (7 : Int) < k := h1
      have hk64 : (k : Int) < 64 := by omega
      have hk0 : (0 : Int) ≤ k := by omega
      have hf : Hid (∀ w, Calls Try.prog 45 #[.int .u64 (((prL 310).getD k 0 : Nat) : Int), .int .i64 2] w fun r w' => r = .returned (.int .u32 ((fracW ((prL 310).getD k 0) 2).toNat : Int)) ∧ Ext w w') := hide fun w => fraction_w ((prL 310).getD k 0) 2 (prL_bound k (by omega)) (by omega) w
      have hget : ∀ (w' : World) (g : Nat) (v : Value) (b : Nat), v = .slice (some ⟨g, 0, none⟩) 64 0 ∨ True → w'.ownsRow b 38 1 (.slice (some ⟨g, 0, none⟩) 64 0) 64 ((prL 310).map cd) → True := fun _ _ _ _ _ _ => trivial
      have hlen : ((prL 310).map cd)[k]? = some (.int .u64 (((prL 310).getD k 0 : Nat) : Int)) := by
        rw [List.getElem?_map, getD_of _ 0 k (by rw [prL_full]; omega)]; rfl
      generalize (prL 310).getD k 0 = p at *
      replace hw := hide hw
      replace hlen := hide hlen
      clear hget
      go_enter Try.func20, Try.ntmps20
      go_wp2_with (first | (go_at_call 44; (with_reducible refine (primes_w _).mono ?_); rintro r w1 ⟨g, cap, rfl, hown, hx1⟩; have d1 := (hown.cellAt k (by omega)).trans hlen.out; clear hown) | (go_at_call 45; (with_reducible refine (hf.out _).mono ?_); rintro r w2 ⟨rfl, hx2⟩))
      go_ret
      exact ⟨by rw [hw.out]; rfl, hx1.then hx2⟩
set_option maxHeartbeats 1000000 in
theorem refConstI_any (i : Int) (w : World) : Calls Try.prog 22 #[.int .i64 i] w fun r w' => r = .returned (.int .u32 ((wordI k64 i).toNat : Int)) ∧ Ext w w' := by
  by_cases h0 : i < 0
  · have hd : decide (i < 0) = true := by simpa using h0
    have hw : wordI k64 i = 0 := by simp [wordI, h0]
    replace hw := hide hw
    go_enter Try.func22, Try.ntmps22
    go_wp2_with fail
    go_ret
    exact ⟨by rw [hw.out]; rfl, Below.refl _ _⟩
  · by_cases h1 : 63 < i
    · have hd : decide (i < 0) = false := by simpa using h0
      have hw : wordI k64 i = 0 := by
        simp only [wordI, h0, if_false, List.getD]
        rw [List.getElem?_eq_none (by show 64 ≤ _; omega)]; rfl
      replace hw := hide hw
      go_enter Try.func22, Try.ntmps22
      go_wp2_with fail
      go_ret
      exact ⟨by rw [hw.out]; rfl, Below.refl _ _⟩
    · obtain ⟨k, rfl⟩ := Int.eq_ofNat_of_zero_le (show 0 ≤ i by omega)
      have hd : decide ((k : Int) < 0) = false := by simp
      have hk : k < 64 := by omega
      have hw : wordI k64 (k : Int) = fracW ((prL 310).getD k 0) 3 := by rw [frac_at k hk]; unfold wordI; rw [if_neg (by omega), Int.toNat_natCast]
      have hk7 : ¬ (63 : Int) < k := h1
      have hk64 : (k : Int) < 64 := by omega
      have hk0 : (0 : Int) ≤ k := by omega
      have hf : Hid (∀ w, Calls Try.prog 45 #[.int .u64 (((prL 310).getD k 0 : Nat) : Int), .int .i64 3] w fun r w' => r = .returned (.int .u32 ((fracW ((prL 310).getD k 0) 3).toNat : Int)) ∧ Ext w w') := hide fun w => fraction_w ((prL 310).getD k 0) 3 (prL_bound k (by omega)) (by omega) w
      have hget : ∀ (w' : World) (g : Nat) (v : Value) (b : Nat), v = .slice (some ⟨g, 0, none⟩) 64 0 ∨ True → w'.ownsRow b 38 1 (.slice (some ⟨g, 0, none⟩) 64 0) 64 ((prL 310).map cd) → True := fun _ _ _ _ _ _ => trivial
      have hlen : ((prL 310).map cd)[k]? = some (.int .u64 (((prL 310).getD k 0 : Nat) : Int)) := by
        rw [List.getElem?_map, getD_of _ 0 k (by rw [prL_full]; omega)]; rfl
      generalize (prL 310).getD k 0 = p at *
      replace hw := hide hw
      replace hlen := hide hlen
      clear hget
      go_enter Try.func22, Try.ntmps22
      go_wp2_with (first | (go_at_call 44; (with_reducible refine (primes_w _).mono ?_); rintro r w1 ⟨g, cap, rfl, hown, hx1⟩; have d1 := (hown.cellAt k (by omega)).trans hlen.out; clear hown) | (go_at_call 45; (with_reducible refine (hf.out _).mono ?_); rintro r w2 ⟨rfl, hx2⟩))
      go_ret
      exact ⟨by rw [hw.out]; rfl, hx1.then hx2⟩

def foxL : List UInt8 := [84, 104, 101, 32, 113, 117, 105, 99, 107, 32, 98, 114, 111, 119, 110, 32, 102, 111, 120, 32, 106, 117, 109, 112, 115, 32, 111, 118, 101, 114, 32, 116, 104, 101, 32, 108, 97, 122, 121, 32, 100, 111, 103]
theorem sum_fox : getN ((sumL foxL).take 4) = 3618175923 := by decide +kernel
set_option maxHeartbeats 4000000 in
set_option maxRecDepth 100000 in
theorem namesWords_walk (w : World) : Calls Try.prog 5 #[] w fun r w' => r = .returned (.bool true) ∧ Ext w w' := by
  have hcv : ∀ w : World, (convert 25 25 (.slice (some ⟨w.heap.size, 0, none⟩) 43 43)).run Try.prog (w.alloc (.cells #[.int .u8 84, .int .u8 104, .int .u8 101, .int .u8 32, .int .u8 113, .int .u8 117, .int .u8 105, .int .u8 99, .int .u8 107, .int .u8 32, .int .u8 98, .int .u8 114, .int .u8 111, .int .u8 119, .int .u8 110, .int .u8 32, .int .u8 102, .int .u8 111, .int .u8 120, .int .u8 32, .int .u8 106, .int .u8 117, .int .u8 109, .int .u8 112, .int .u8 115, .int .u8 32, .int .u8 111, .int .u8 118, .int .u8 101, .int .u8 114, .int .u8 32, .int .u8 116, .int .u8 104, .int .u8 101, .int .u8 32, .int .u8 108, .int .u8 97, .int .u8 122, .int .u8 121, .int .u8 32, .int .u8 100, .int .u8 111, .int .u8 103] 5)) = .ok (.slice (some ⟨w.heap.size, 0, none⟩) 43 43) (w.alloc (.cells #[.int .u8 84, .int .u8 104, .int .u8 101, .int .u8 32, .int .u8 113, .int .u8 117, .int .u8 105, .int .u8 99, .int .u8 107, .int .u8 32, .int .u8 98, .int .u8 114, .int .u8 111, .int .u8 119, .int .u8 110, .int .u8 32, .int .u8 102, .int .u8 111, .int .u8 120, .int .u8 32, .int .u8 106, .int .u8 117, .int .u8 109, .int .u8 112, .int .u8 115, .int .u8 32, .int .u8 111, .int .u8 118, .int .u8 101, .int .u8 114, .int .u8 32, .int .u8 116, .int .u8 104, .int .u8 101, .int .u8 32, .int .u8 108, .int .u8 97, .int .u8 122, .int .u8 121, .int .u8 32, .int .u8 100, .int .u8 111, .int .u8 103] 5 (43, 44))) := fun w => Lib.run_convert_bytes_const w 25 5 _ 43 43 Try.underlying25 Try.underlying5
  go_enter Try.func5, Try.ntmps5
  go_wp2_with fail
  go_loopw [1] (fun s1 wr => ∃ i : Int, -2 ≤ i ∧ i ≤ 70 ∧ s1 = .int .i64 i ∧ Ext w wr) (fun s _ => (70 - intOf s).toNat)
  case atStart => exact ⟨-2, by omega, by omega, rfl, Below.refl _ _⟩
  case round =>
    obtain ⟨i, h2, h70, rfl, hx⟩ := hrel
    obtain ⟨w2, rfl⟩ : ∃ w2, w2 = wr := ⟨_, rfl⟩
    by_cases hlt : i < 70
    · go_wp2_with (first | (go_at_call 19; (with_reducible refine (startI_any i _).mono ?_); rintro r w3 ⟨rfl, hx3⟩) | (go_at_call 20; (with_reducible refine (refStartI_any i _).mono ?_); rintro r w4 ⟨rfl, hx4⟩) | (go_at_call 21; (with_reducible refine (constI_any i _).mono ?_); rintro r w5 ⟨rfl, hx5⟩) | (go_at_call 22; (with_reducible refine (refConstI_any i _).mono ?_); rintro r w6 ⟨rfl, hx6⟩))
      go_roundw
      case rel => exact ⟨i + 1, by omega, by omega, by go_num, hx.then (hx3.then (hx4.then (hx5.then hx6)))⟩
      case measure => simp [intOf]; omega
    · go_wp2_with (first | (go_at_call 16; (refine (sum_any (some ⟨w2.heap.size + 1, 0, none⟩) 1 1 [foxL] _ (by omega) (by unfold maxLen; omega) (text_piece foxL w2 (43, 44) _ rfl 43 rfl (by unfold maxLen; omega) _ rfl)).mono ?_); rintro r w3 ⟨⟨o3, ho3, rfl⟩, hx3⟩; have hx3 := (ext_two w2 _ _).then hx3) | (go_at_call 23; (with_reducible refine (first_any o3 _).mono ?_); rintro r w4 ⟨rfl, hx4⟩; rw [ho3, show [foxL].flatten = foxL from rfl, sum_fox]; clear ho3) | (go_at_call 13; (with_reducible refine (known03_any _).mono ?_); rintro r w5 ⟨rfl, hx5⟩))
      go_ret
      exact ⟨rfl, hx.then (hx3.then (hx4.then hx5))⟩
end Go.Proofs.Ytldcaoclimcahaa
