/- The walks of sha.sign and sha.Text. -/
import Derived.Test.YtldcaoclimcahaaKnown3
import Derived.Laws.IdiomStrings
namespace Go.Proofs.Ytldcaoclimcahaa
open Go.RowKit
set_option linter.unusedVariables false
set_option linter.unusedSimpArgs false

/-- The sign of four bits. -/
def sg (n : Nat) : Nat := if 9 < n then n + 87 else n + 48
theorem sg_lt (n : Nat) (h : n < 16) : sg n < 256 := by unfold sg; split <;> omega
def sgB (n : Nat) : UInt8 := UInt8.ofNat (sg n)
theorem sgB_toNat (n : Nat) (h : n < 16) : ((sgB n).toNat : Int) = sg n := by
  have := sg_lt n h
  rw [sgB, UInt8.toNat_ofNat']; omega
theorem sign_any (n : Nat) (h : n < 16) (w : World) : Calls Try.prog 52 #[.int .u8 (n : Int)] w fun r w' => r = .returned (.int .u8 (sg n : Int)) ∧ w' = w := by
  by_cases h9 : 9 < n
  · have h9' : (9 : Int) < n := by omega
    have hs : sg n = n + 87 := by simp [sg, h9]
    replace hs := hide hs
    have e1 : IntKind.u8.wrap ((n : Int) + 39) = (n : Int) + 39 := by rw [IntKind.wrap_u8]; omega
    have e2 : IntKind.u8.wrap (48 + ((n : Int) + 39)) = ((n + 87 : Nat) : Int) := by rw [IntKind.wrap_u8]; omega
    go_enter Try.func52, Try.ntmps52
    go_wp2_with fail
    go_ret
    refine ⟨?_, rfl⟩
    rw [hs.out]
    exact congrArg (fun z => Ending.returned (.int .u8 z)) (by omega)
  · have h9' : ¬ (9 : Int) < n := by omega
    have hs : sg n = n + 48 := by simp [sg, h9]
    replace hs := hide hs
    have e2 : IntKind.u8.wrap (48 + (n : Int)) = ((n + 48 : Nat) : Int) := by rw [IntKind.wrap_u8]; omega
    go_enter Try.func52, Try.ntmps52
    go_wp2_with fail
    go_ret
    refine ⟨?_, rfl⟩
    rw [hs.out]
    exact congrArg (fun z => Ending.returned (.int .u8 z)) (by omega)

/-- A hash's text. -/
def txL (l : List UInt8) : List UInt8 := l.flatMap fun x => [sgB (x.toNat / 16), sgB (x.toNat % 16)]
theorem length_txL (l : List UInt8) : (txL l).length = 2 * l.length := by
  induction l with
  | nil => rfl
  | cons x l ih => simp only [txL, List.flatMap_cons, List.length_append, List.length_cons] at ih ⊢; rw [ih]; simp; omega
def tM (h : List UInt8) : Nat → List UInt8
  | 0 => List.replicate 64 0
  | i + 1 => ((tM h i).set (2 * i) (sgB ((h.getD i 0).toNat / 16))).set (2 * i + 1) (sgB ((h.getD i 0).toNat % 16))
theorem length_tM (h : List UInt8) (i : Nat) : (tM h i).length = 64 := by
  induction i with
  | zero => rfl
  | succ i ih => simp [tM, ih]
theorem tM_eq (h : List UInt8) (i : Nat) (hi : i ≤ 32) (hh : h.length = 32) : tM h i = txL (h.take i) ++ List.replicate (64 - 2 * i) 0 := by
  induction i with
  | zero => rfl
  | succ i ih =>
    have hl : (txL (h.take i)).length = 2 * i := by rw [length_txL, List.length_take, Nat.min_eq_left (by omega)]
    rw [tM, ih (by omega), List.set_append_right _ _ (by omega), hl, Nat.sub_self, show 64 - 2 * i = (64 - 2 * (i + 1)) + 1 + 1 by omega, List.replicate_succ, List.replicate_succ, List.set_cons_zero, List.set_append_right _ _ (by omega), hl, show 2 * i + 1 - 2 * i = 1 by omega, List.set_cons_succ, List.set_cons_zero]
    rw [List.take_succ_eq_append_getElem (by omega)]
    simp only [txL, List.flatMap_append, List.append_assoc]
    congr 1
    simp [List.getD, List.getElem?_eq_getElem (show i < h.length by omega)]
theorem tM_all (h : List UInt8) (hh : h.length = 32) : tM h 32 = txL h := by
  rw [tM_eq h 32 (Nat.le_refl _) hh, List.take_of_length_le (by omega)]; simp
theorem b_set (l : List UInt8) (i : Nat) (x : UInt8) : (l.map cb).toArray.setIfInBounds i (.int .u8 (x.toNat : Int)) = ((l.set i x).map cb).toArray := by
  apply Array.ext'
  rw [Array.toList_setIfInBounds, List.map_set]; rfl
theorem b_at (l : List UInt8) {w : World} {g : Nat} {t : TypeId} {fr : Nat × Nat} (h : w.heap[g]? = some (.cells (l.map cb).toArray t fr)) (i : Nat) (hi : i < l.length) : w.cell? ⟨g, i, none⟩ = some (.int .u8 ((l.getD i 0).toNat : Int)) := by
  rw [cell_blk h i, List.getElem?_map, getD_of l 0 i hi]; rfl
theorem and_15 (x : UInt8) : bits BinOp.and IntKind.u8 (x.toNat : Int) 15 = ((x.toNat % 16 : Nat) : Int) := by
  have hx := UInt8.toNat_lt x
  show IntKind.u8.wrap ((BitVec.ofInt 8 (x.toNat : Int) &&& BitVec.ofInt 8 15).toNat : Int) = _
  rw [BitVec.toNat_and, BitVec.ofInt_natCast, BitVec.toNat_ofNat, Nat.mod_eq_of_lt (by omega), show (BitVec.ofInt 8 15).toNat = 2 ^ 4 - 1 from by decide, Nat.and_two_pow_sub_one_eq_mod, IntKind.wrap_u8]
  omega
theorem bc_whole {n : Nat} (o : Bs n) : (bcells o).extract 0 n = bcells o := by
  apply Array.ext'
  rw [Array.toList_extract, List.extract_eq_take_drop, List.drop_zero, List.take_of_length_le]
  rw [Array.length_toList, size_bcells]; omega
attribute [local go_sem ↓] loadCells_blk
attribute [local go_sem] run_blkLoad rowAt_drew rowAt_new rowAt_old size_bcells bc_whole
attribute [local go_sem] cb
set_option maxHeartbeats 4000000 in
set_option maxRecDepth 100000 in
theorem text_any (o : Bs 32) (w : World) : Calls Try.prog 30 #[.agg (bcells o)] w fun r w' => r = .returned (.string ⟨(txL o.1).toArray⟩) ∧ Ext w w' := by
  have hN2 := heap_alloc2_new w (.cells (bcells o) 28) (.cells ((tM o.1 0).map cb).toArray 67)
  have hx : Ext w ((w.alloc (.cells (bcells o) 28)).alloc (.cells ((tM o.1 0).map cb).toArray 67)) := by go_grown
  have hidx : ∀ (i : Nat), i < 32 → ∀ w, (Instr.index 28 (.agg (bcells o)) (.int .i64 (i : Int))).run Try.prog w = .ok (.int .u8 ((o.1.getD i 0).toNat : Int)) w := fun i hi w =>
    run_index_arr w _ 5 32 .u8 _ i _ Try.underlying28 Try.underlying5 (by kernel_rfl) hi (by
      have h1 := o.2
      simp [bcells, Extern.Stop.cell, List.getD, List.getElem?_eq_getElem (show i < o.1.length by omega)])
  replace hN2 := hide hN2
  replace hx := hide hx
  replace hidx := hide hidx
  go_enter Try.func30, Try.ntmps30
  go_wp2_with fail
  change Code.wp _ _ _ _ ((w.alloc (.cells (bcells o) 28)).alloc (.cells ((tM o.1 0).map cb).toArray 67))
  have hN2 := hN2.out
  have hx := hx.out
  obtain ⟨g, hg⟩ : ∃ g, g = w.heap.size + 1 := ⟨_, rfl⟩
  rw [← hg] at hN2 ⊢
  generalize (w.alloc (.cells (bcells o) 28)).alloc (.cells ((tM o.1 0).map cb).toArray 67) = W at *
  have hgw : w.heap.size ≤ g := by omega
  replace hg := hide hg
  go_loopw [7] (fun s7 wr => ∃ i : Nat, i ≤ 32 ∧ s7 = .int .i64 i ∧ wr.heap[g]? = some (.cells ((tM o.1 i).map cb).toArray 67 (0, 0)) ∧ Ext w wr) (fun s _ => (32 - intOf s).toNat)
  case atStart => exact ⟨0, by omega, rfl, hN2, hx⟩
  case round =>
    clear hN2 hx
    obtain ⟨i, hi, rfl, hN2, hx⟩ := hrel
    obtain ⟨w2, rfl⟩ : ∃ w2, w2 = wr := ⟨_, rfl⟩
    by_cases hlt : i < 32
    · have hlt' : (i : Int) < 32 := by omega
      have hi0 : (0 : Int) ≤ i := by omega
      have hix := hidx.out i hlt w2
      have hstep : tM o.1 (i + 1) = ((tM o.1 i).set (2 * i) (sgB ((o.1.getD i 0).toNat / 16))).set (2 * i + 1) (sgB ((o.1.getD i 0).toNat % 16)) := rfl
      generalize o.1.getD i 0 = x at hix hstep
      have hxl := UInt8.toNat_lt x
      obtain ⟨p, hp⟩ : ∃ p, p = 2 * i := ⟨_, rfl⟩
      have j1 : IntKind.i64.wrap (2 * (i : Int)) = p := by rw [IntKind.wrap_i64]; omega
      have j2 : (2 : Int) * (i : Int) = p := by omega
      have j3 : (p : Int) < 64 := by omega
      have j4 : (0 : Int) ≤ p := by omega
      have j5 : (p : Int) + 1 < 64 := by omega
      have j6 : ((p : Int) + 1).toNat = p + 1 := by omega
      have hsh : (x.toNat : Int) / 16 = ((x.toNat / 16 : Nat) : Int) := by omega
      have hand := and_15 x
      have hs1 : Hid (∀ w, Calls Try.prog 52 #[.int .u8 ((x.toNat / 16 : Nat) : Int)] w fun r w' => r = .returned (.int .u8 ((sgB (x.toNat / 16)).toNat : Int)) ∧ w' = w) := hide fun w => by rw [sgB_toNat _ (by omega)]; exact sign_any _ (by omega) w
      have hs2 : Hid (∀ w, Calls Try.prog 52 #[.int .u8 ((x.toNat % 16 : Nat) : Int)] w fun r w' => r = .returned (.int .u8 ((sgB (x.toNat % 16)).toNat : Int)) ∧ w' = w) := hide fun w => by rw [sgB_toNat _ (by omega)]; exact sign_any _ (by omega) w
      rw [← hp] at hstep
      generalize sgB (x.toNat / 16) = y1 at *
      generalize sgB (x.toNat % 16) = y2 at *
      generalize x.toNat / 16 = q1 at *
      generalize x.toNat % 16 = q2 at *
      have hlen := length_tM o.1 i
      have d1 := b_at _ hN2 p (by omega)
      have f1 := free_blk hN2 p
      have d2 := b_at _ hN2 (p + 1) (by omega)
      have f2 := free_blk hN2 (p + 1)
      replace hstep := hide hstep
      replace hlen := hide hlen
      clear hp hidx
      go_wp2_with (first | (go_at_call 52; (with_reducible refine (hs1.out _).mono ?_); rintro r w3 ⟨rfl, rfl⟩) | (go_at_call 52; (with_reducible refine (hs2.out _).mono ?_); rintro r w3 ⟨rfl, rfl⟩))
      go_roundw
      case rel =>
        refine ⟨i + 1, by omega, by go_num, ?_, Below.setCell (p := ⟨g, p + 1, none⟩) (Below.setCell (p := ⟨g, p, none⟩) hx hgw _) hgw _⟩
        rw [heap_setCell (heap_setCell hN2 _) _, hstep.out, b_set, b_set]
      case measure => simp [intOf]; omega
    · obtain rfl : i = 32 := by omega
      rw [tM_all o.1 o.2] at hN2
      have hl := length_txL o.1
      rw [o.2] at hl
      have hconv := run_convert_bytes_back (P := Try.prog) w2 25 9 5 ⟨g, 0, none⟩ 64 (txL o.1) Try.underlying25 Try.underlying5 Try.underlying9 (fun j hj => by
        have hadd : (⟨g, 0, none⟩ : Addr).add j = ⟨g, j, none⟩ := by unfold Addr.add; split <;> simp_all
        rw [hadd, b_at _ hN2 j hj]
        simp [List.getD, List.getElem?_eq_getElem hj])
      rw [hl] at hconv
      clear hidx hl hN2
      go_wp2_with fail
      go_ret
      exact ⟨rfl, hx⟩
end Go.Proofs.Ytldcaoclimcahaa
