/- The walk of wire.Hex. -/
import Derived.Test.YtoiiapjmmjmeoaaHexS
namespace Go.Proofs.Ytoiiapjmmjmeoaa
open Go.RowKit
set_option linter.unusedVariables false
set_option linter.unusedSimpArgs false

/-- The sign of 0 to 15. -/
def sg (k : Nat) : UInt8 := if k < 10 then UInt8.ofNat (48 + k) else UInt8.ofNat (87 + k)
/-- A text of bytes. -/
def hexL : List UInt8 → List UInt8
  | [] => []
  | x :: c => sg (x.toNat / 16) :: sg (x.toNat % 16) :: hexL c
theorem hexL_append (a b : List UInt8) : hexL (a ++ b) = hexL a ++ hexL b := by
  induction a with
  | nil => rfl
  | cons x a ih => simp [hexL, ih]
theorem length_hexL (c : List UInt8) : (hexL c).length = 2 * c.length := by
  induction c with
  | nil => rfl
  | cons x c ih => simp [hexL, ih]; omega
set_option maxHeartbeats 2000000 in
theorem sign_index (k : Nat) (hk : k < 16) (W : World) : (Instr.index 9 (.string ⟨#[48, 49, 50, 51, 52, 53, 54, 55, 56, 57, 97, 98, 99, 100, 101, 102]⟩) (.int .u8 (k : Int))).run Try.prog W = .ok (.int .u8 ((sg k).toNat : Int)) W := by
  rcases (by omega : k = 0 ∨ k = 1 ∨ k = 2 ∨ k = 3 ∨ k = 4 ∨ k = 5 ∨ k = 6 ∨ k = 7 ∨ k = 8 ∨ k = 9 ∨ k = 10 ∨ k = 11 ∨ k = 12 ∨ k = 13 ∨ k = 14 ∨ k = 15) with rfl | rfl | rfl | rfl | rfl | rfl | rfl | rfl | rfl | rfl | rfl | rfl | rfl | rfl | rfl | rfl <;> kernel_rfl
set_option maxHeartbeats 2000000 in
set_option maxRecDepth 100000 in
theorem whex_any (a : Option Addr) (n cap : Nat) (c : List UInt8) (w : World) (hn : n ≤ 1000000) (h : BytesIn w a n c) :
    Calls Try.prog 31 #[.slice a n cap] w fun r w' => r = .returned (.string ⟨(hexL c).toArray⟩) ∧ Ext w w' := by
  have hl := h.1
  subst hl
  have hfr := Lib.fresh_isBuilder 69 5 w
  have hE := ext_alloc w (.cells #[.pointer none, .slice none 0 0] 69)
  go_enter Try.func31, Try.ntmps31
  go_wp2_with fail
  replace hE := hide hE
  go_loopw [8] (fun s8 wr => ∃ i : Nat, i ≤ c.length ∧ s8 = .int .i64 i ∧ Lib.IsBuilder 69 5 w.heap.size w.heap.size (Lib.byteCells (hexL (c.take i))) wr ∧ Ext w wr ∧ (i = 0 → wr = w.alloc (.cells #[.pointer none, .slice none 0 0] 69))) (fun s _ => (c.length - intOf s).toNat)
  case atStart => exact ⟨0, Nat.zero_le _, rfl, hfr, hE.out, fun _ => rfl⟩
  case round =>
    obtain ⟨i, hi, rfl, hB, hx, hw0⟩ := hrel
    obtain ⟨w2, rfl⟩ : ∃ w2, w2 = wr := ⟨_, rfl⟩
    by_cases hlt : i < c.length
    · have hlt' : (i : Int) < c.length := by omega
      obtain ⟨ad, rfl, hc⟩ := (h.ext hx).2 (by omega)
      have d1 := hc i hlt
      unfold cb at d1
      have htk : hexL (c.take (i + 1)) = hexL (c.take i) ++ [sg ((c.getD i 0).toNat / 16), sg ((c.getD i 0).toNat % 16)] := by
        rw [List.take_succ_eq_append_getElem hlt, hexL_append]
        simp [hexL, List.getD, List.getElem?_eq_getElem hlt]
      have hlen : (hexL (c.take i)).length = 2 * i := by rw [length_hexL, List.length_take, Nat.min_eq_left (by omega)]
      generalize c.getD i 0 = x at *
      have hx8 := UInt8.toNat_lt x
      have e1 : ∀ W, (Instr.index 9 (.string ⟨#[48, 49, 50, 51, 52, 53, 54, 55, 56, 57, 97, 98, 99, 100, 101, 102]⟩) (.int .u8 ((x.toNat : Int) / 16))).run Try.prog W = .ok (.int .u8 ((sg (x.toNat / 16)).toNat : Int)) W := fun W => sign_index (x.toNat / 16) (by omega) W
      have e2 : ∀ W, (Instr.index 9 (.string ⟨#[48, 49, 50, 51, 52, 53, 54, 55, 56, 57, 97, 98, 99, 100, 101, 102]⟩) (.int .u8 ((x.toNat : Int) % 16))).run Try.prog W = .ok (.int .u8 ((sg (x.toNat % 16)).toNat : Int)) W := fun W => sign_index (x.toNat % 16) (by omega) W
      generalize sg (x.toNat / 16) = s1 at *
      generalize sg (x.toNat % 16) = s2 at *
      obtain ⟨l, hle⟩ : ∃ l, l = hexL (c.take i) := ⟨_, rfl⟩
      rw [← hle] at htk hlen hB
      have hw1 := writeByte_any w.heap.size w.heap.size (Lib.byteCells l) (s1.toNat : Int) w2 hB (by rw [Lib.byteCells_length]; omega) hx.size
      have hw2 := fun (w3 : World) (h3 : Lib.BuilderAt 69 5 w.heap.size w.heap.size (.pointer (some ⟨w.heap.size, 0, none⟩)) (Lib.byteCells l ++ [.int .u8 (s1.toNat : Int)]) w3) (hx3 : Ext w w3) => writeByte_any w.heap.size w.heap.size (Lib.byteCells l ++ [.int .u8 (s1.toNat : Int)]) (s2.toNat : Int) w3 (.inr h3) (by rw [List.length_append, Lib.byteCells_length]; simp; omega) hx3.size
      replace hw1 := hide hw1
      replace hw2 := hide hw2
      replace htk := hide htk
      replace hc := hide hc
      clear hB hfr hw0
      go_wp2_with (first
        | (go_at_call 38; (with_reducible refine hw1.out.mono ?_); rintro r w3 ⟨rfl, hB3, hx3⟩; have hx3 := Below.trans hx hx3; replace hB3 := hide hB3)
        | (go_at_call 38; (with_reducible refine (hw2.out _ hB3.out hx3).mono ?_); rintro r w4 ⟨rfl, hB4, hx4⟩; have hx4 := Below.trans hx3 hx4; replace hB4 := hide hB4))
      exact ⟨⟨i + 1, by omega, by go_num, by rw [htk.out, Lib.byteCells_append]; have h9 : Lib.IsBuilder 69 5 w.heap.size w.heap.size (Lib.byteCells l ++ [.int .u8 (s1.toNat : Int)] ++ [.int .u8 (s2.toNat : Int)]) w4 := .inr hB4.out; rw [List.append_assoc] at h9; exact h9, hx4, fun h => absurd h (by omega)⟩, by simp [intOf]; omega⟩
    · obtain rfl : i = c.length := by omega
      have hlt' : ¬ (c.length : Int) < c.length := by omega
      rw [List.take_length] at hB
      have hst : Calls Try.prog 39 #[.pointer (some ⟨w.heap.size, 0, none⟩)] w2 fun e w' => e = .returned (.string ⟨(hexL c).toArray⟩) ∧ Below w.heap.size w2 w' := by
        by_cases h0 : c.length = 0
        · rw [hw0 h0, List.eq_nil_of_length_eq_zero h0]
          exact bstring_nil w.heap.size w.heap.size (.pointer none) _ (heap_alloc_new w _)
        · exact bstring_some w.heap.size w.heap.size (hexL c) w2 hB (fun h => h0 (by have := length_hexL c; rw [h] at this; simp at this; omega))
      replace hst := hide hst
      clear hB hw0 hfr
      replace h := hide h
      go_wp2_with (go_at_call 39; (with_reducible refine hst.out.mono ?_); rintro r w3 ⟨rfl, hx3⟩; have hx3 := Below.trans hx hx3)
      go_ret
      exact ⟨rfl, hx3⟩
end Go.Proofs.Ytoiiapjmmjmeoaa
