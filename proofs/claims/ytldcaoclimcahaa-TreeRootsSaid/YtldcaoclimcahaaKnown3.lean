/- The walk of the hash's known rows: a word of the start, a constant, a hash's first bytes. -/
import Derived.Test.YtldcaoclimcahaaRefA
import Derived.Lib.SlBytesConst
namespace Go.Proofs.Ytldcaoclimcahaa
open Go.RowKit
set_option linter.unusedVariables false
set_option linter.unusedSimpArgs false

/-- A word of the start, a constant: nought where there is none. -/
def wordI (l : List UInt32) (i : Int) : UInt32 := if i < 0 then 0 else l.getD i.toNat 0
theorem run_index_list {P : Program} (w : World) (t e n : Nat) (l : List UInt32) (i : Nat) (hn : l.length = n) (ht : P.underlying t = some (.array n e)) (he : P.underlying e = some (.int .u32)) (hs : (P.info? e).map (·.size) = some 1) (hi : i < n) :
    (Instr.index t (.agg (l.map cw).toArray) (.int .i64 (i : Int))).run P w = .ok (.int .u32 ((l.getD i 0).toNat : Int)) w :=
  run_index_arr w t e n .u32 _ i _ ht he hs hi (by rw [List.getElem?_toArray, List.getElem?_map, getD_of l 0 i (by omega)]; rfl)
set_option maxHeartbeats 1000000 in
theorem startI_any (i : Int) (w : World) : Calls Try.prog 19 #[.int .i64 i] w fun r w' => r = .returned (.int .u32 ((wordI h8 i).toNat : Int)) ∧ Ext w w' := by
  by_cases h0 : i < 0
  · have hd : decide (i < 0) = true := by simpa using h0
    have hw : wordI h8 i = 0 := by simp [wordI, h0]
    replace hw := hide hw
    go_enter Try.func19, Try.ntmps19
    go_wp2_with fail
    go_ret
    exact ⟨by rw [hw.out]; rfl, Below.refl _ _⟩
  · by_cases h1 : 7 < i
    · have hd : decide (i < 0) = false := by simpa using h0
      have hw : wordI h8 i = 0 := by
        simp only [wordI, h0, if_false, List.getD]
        rw [List.getElem?_eq_none (by show 8 ≤ _; omega)]; rfl
      replace hw := hide hw
      go_enter Try.func19, Try.ntmps19
      go_wp2_with fail
      go_ret
      exact ⟨by rw [hw.out]; rfl, Below.refl _ _⟩
    · obtain ⟨k, rfl⟩ := Int.eq_ofNat_of_zero_le (show 0 ≤ i by omega)
      have hd : decide ((k : Int) < 0) = false := by simp
      have hw : wordI h8 (k : Int) = h8.getD k 0 := by unfold wordI; rw [if_neg (by omega), Int.toNat_natCast]
      have hk7 : ¬ (7 : Int) < k := h1
      have hk : k < 8 := by omega
      have hidx : ∀ w, (Instr.index 32 (.agg (h8.map cw).toArray) (.int .i64 (k : Int))).run Try.prog w = .ok (.int .u32 ((h8.getD k 0).toNat : Int)) w := fun w => run_index_list w _ 31 8 h8 k rfl Try.underlying32 Try.underlying31 (by kernel_rfl) hk
      generalize hl : h8 = l at hw hidx
      replace hw := hide hw
      go_enter Try.func19, Try.ntmps19
      go_wp2_with (go_at_call 40; (refine (start_any _).mono ?_); rintro r w1 ⟨rfl, hx1⟩; rw [hl])
      go_ret
      exact ⟨by rw [hw.out]; rfl, hx1⟩
set_option maxHeartbeats 1000000 in
theorem constI_any (i : Int) (w : World) : Calls Try.prog 21 #[.int .i64 i] w fun r w' => r = .returned (.int .u32 ((wordI k64 i).toNat : Int)) ∧ Ext w w' := by
  by_cases h0 : i < 0
  · have hd : decide (i < 0) = true := by simpa using h0
    have hw : wordI k64 i = 0 := by simp [wordI, h0]
    replace hw := hide hw
    go_enter Try.func21, Try.ntmps21
    go_wp2_with fail
    go_ret
    exact ⟨by rw [hw.out]; rfl, Below.refl _ _⟩
  · by_cases h1 : 63 < i
    · have hd : decide (i < 0) = false := by simpa using h0
      have hw : wordI k64 i = 0 := by
        simp only [wordI, h0, if_false, List.getD]
        rw [List.getElem?_eq_none (by show 64 ≤ _; omega)]; rfl
      replace hw := hide hw
      go_enter Try.func21, Try.ntmps21
      go_wp2_with fail
      go_ret
      exact ⟨by rw [hw.out]; rfl, Below.refl _ _⟩
    · obtain ⟨k, rfl⟩ := Int.eq_ofNat_of_zero_le (show 0 ≤ i by omega)
      have hd : decide ((k : Int) < 0) = false := by simp
      have hw : wordI k64 (k : Int) = k64.getD k 0 := by unfold wordI; rw [if_neg (by omega), Int.toNat_natCast]
      have hk7 : ¬ (63 : Int) < k := h1
      have hk : k < 64 := by omega
      have hidx : ∀ w, (Instr.index 33 (.agg (k64.map cw).toArray) (.int .i64 (k : Int))).run Try.prog w = .ok (.int .u32 ((k64.getD k 0).toNat : Int)) w := fun w => run_index_list w _ 31 64 k64 k rfl Try.underlying33 Try.underlying31 (by kernel_rfl) hk
      generalize hl : k64 = l at hw hidx
      replace hw := hide hw
      go_enter Try.func21, Try.ntmps21
      go_wp2_with (go_at_call 41; (refine (constants_any _).mono ?_); rintro r w1 ⟨rfl, hx1⟩; rw [hl])
      go_ret
      exact ⟨by rw [hw.out]; rfl, hx1⟩

set_option maxHeartbeats 1000000 in
theorem first_any (o : Bs 32) (w : World) : Calls Try.prog 23 #[.agg (bcells o)] w fun r w' => r = .returned (.int .u64 (getN (o.1.take 4) : Int)) ∧ Ext w w' := by
  have hb : BytesIn (w.alloc (.cells (bcells o) 28)) (some ⟨w.heap.size, 0, none⟩) 4 (o.1.take 4) := by
    refine ⟨by rw [List.length_take, o.2]; rfl, fun _ => ⟨_, rfl, fun j hj => ?_⟩⟩
    have hadd : (⟨w.heap.size, 0, none⟩ : Addr).add j = ⟨w.heap.size, j, none⟩ := by unfold Addr.add; split <;> simp_all
    rw [hadd, cell_of_row _ _ j _ _ _ (heap_alloc_new w _)]
    have h1 := o.2
    simp [bcells, Extern.Stop.cell, cb, List.getD, List.getElem?_take_of_lt hj, List.getElem?_eq_getElem (show j < o.1.length by omega)]
  have hget := get_any (some ⟨w.heap.size, 0, none⟩) 4 32 _ (by omega) _ hb
  replace hget := hide hget
  replace hb := hide hb
  go_enter Try.func23, Try.ntmps23
  go_wp2_with (go_at_call 47; (refine hget.out.mono ?_); rintro r w1 ⟨rfl, m, rfl⟩)
  go_ret
  exact ⟨rfl, ((Below.refl _ _).alloc (Nat.le_refl _) _).trans ⟨rfl, rfl, rfl, Nat.le_refl _, fun _ _ => rfl⟩⟩

theorem sum_empty : getN ((sumL []).take 4) = 3820012610 := by decide +kernel
theorem sum_abc : getN ((sumL [97, 98, 99]).take 4) = 3128432319 := by decide +kernel
theorem word_start : (wordI h8 0).toNat = 1779033703 := by decide +kernel
theorem word_const : (wordI k64 0).toNat = 1116352408 := by decide +kernel
/-- One piece alone, in a slice that is made for it. -/
theorem one_piece {w : World} {a : Option Addr} {q cap : Nat} {c : List UInt8} (h : BytesIn w a q c) (hq : q ≤ cap) (hc : cap ≤ maxLen) (N : Nat) (hN : w.heap.size = N) : PiecesIn (w.alloc (.cells #[.slice a q cap] 25)) (some ⟨N, 0, none⟩) 1 [c] := by
  subst hN
  refine ⟨rfl, fun _ => ⟨_, rfl, fun i hi => ?_⟩⟩
  obtain rfl : i = 0 := by omega
  refine ⟨a, q, cap, ?_, hq, hc, h.ext ((Below.refl _ _).alloc (Nat.le_refl _) _)⟩
  show (w.alloc _).cell? ⟨w.heap.size, 0, none⟩ = _
  rw [cell_of_row _ _ 0 _ _ _ (heap_alloc_new w _)]; rfl
/-- A constant text's bytes, in a slice of slices of its own. -/
theorem text_piece (C : List UInt8) (w : World) (fr : Nat × Nat) (N : Nat) (hN : w.heap.size + 1 = N) (n : Nat) (hn : C.length = n) (hm : n ≤ maxLen) (A : Array Value) (hA : A = (C.map cb).toArray) :
    PiecesIn ((w.alloc (.cells A 5 fr)).alloc (.cells #[.slice (some ⟨w.heap.size, 0, none⟩) n n] 25)) (some ⟨N, 0, none⟩) 1 [C] := by
  subst hA
  refine one_piece ⟨hn, fun _ => ⟨_, rfl, fun j hj => ?_⟩⟩ (Nat.le_refl _) hm N (by simpa using hN)
  have hadd : (⟨w.heap.size, 0, none⟩ : Addr).add j = ⟨w.heap.size, j, none⟩ := by unfold Addr.add; split <;> simp_all
  rw [hadd, cell_of_row _ _ j _ _ _ (heap_alloc_new w _), List.getElem?_toArray, List.getElem?_map, getD_of C 0 j (by omega)]; rfl
theorem ext_two (w : World) (a b : Obj) : Ext w ((w.alloc a).alloc b) := by go_grown
set_option maxHeartbeats 2000000 in
set_option maxRecDepth 100000 in
theorem known03_any (w : World) : Calls Try.prog 13 #[] w fun r w' => r = .returned (.bool true) ∧ Ext w w' := by
  have h0 := sum_any none 0 0 [] w (by omega) (by unfold maxLen; omega) ⟨rfl, fun h => absurd h (by omega)⟩
  have hcv : ∀ w : World, (convert 25 25 (.slice (some ⟨w.heap.size, 0, none⟩) 3 3)).run Try.prog (w.alloc (.cells #[.int .u8 97, .int .u8 98, .int .u8 99] 5)) = .ok (.slice (some ⟨w.heap.size, 0, none⟩) 3 3) (w.alloc (.cells #[.int .u8 97, .int .u8 98, .int .u8 99] 5 (3, 4))) := fun w => Lib.run_convert_bytes_const w 25 5 _ 3 3 Try.underlying25 Try.underlying5
  have h1 := fun w2 => sum_any (some ⟨w2 + 1, 0, none⟩) 1 1 [[97, 98, 99]]
  replace h0 := hide h0
  replace h1 := hide h1
  go_enter Try.func13, Try.ntmps13
  go_wp2_with (first | (go_at_call 16; (with_reducible refine h0.out.mono ?_); rintro r w1 ⟨⟨o, ho, rfl⟩, hx1⟩) | (go_at_call 23; (with_reducible refine (first_any o _).mono ?_); rintro r w2 ⟨rfl, hx2⟩; rw [ho, List.flatten_nil, sum_empty]; clear ho) | (go_at_call 16; (refine (sum_any (some ⟨w2.heap.size + 1, 0, none⟩) 1 1 [[97, 98, 99]] _ (by omega) (by unfold maxLen; omega) (text_piece [97, 98, 99] w2 (3, 4) _ rfl 3 rfl (by unfold maxLen; omega) _ rfl)).mono ?_); rintro r w3 ⟨⟨o3, ho3, rfl⟩, hx3⟩; have hx3 := (ext_two w2 _ _).then hx3) | (go_at_call 23; (with_reducible refine (first_any o3 _).mono ?_); rintro r w4 ⟨rfl, hx4⟩; rw [ho3, show [[97, 98, 99]].flatten = ([97, 98, 99] : List UInt8) from rfl, sum_abc]; clear ho3) | (go_at_call 19; (with_reducible refine (startI_any 0 _).mono ?_); rintro r w5 ⟨rfl, hx5⟩; rw [word_start]) | (go_at_call 21; (with_reducible refine (constI_any 0 _).mono ?_); rintro r w6 ⟨rfl, hx6⟩; rw [word_const]))
  go_ret
  exact ⟨rfl, hx1.then (hx2.then (hx3.then (hx4.then (hx5.then hx6))))⟩
end Go.Proofs.Ytldcaoclimcahaa
