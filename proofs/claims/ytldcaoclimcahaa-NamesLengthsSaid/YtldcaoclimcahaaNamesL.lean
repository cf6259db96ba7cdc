/- The walk of the law on lengths. -/
import Derived.Test.YtldcaoclimcahaaSumC
import Derived.Deep.RegionWith
namespace Go.Proofs.Ytldcaoclimcahaa
open Go.RowKit
set_option linter.unusedVariables false
set_option linter.unusedSimpArgs false

/-- The bytes so far, and noughts. -/
def lenL : Nat → List UInt8
  | 0 => List.replicate 140 0
  | n + 1 => (lenL n).set n (UInt8.ofNat (7 * n))
theorem length_lenL (n : Nat) : (lenL n).length = 140 := by
  induction n with
  | zero => rfl
  | succ n ih => rw [lenL, List.length_set, ih]
attribute [local go_sem ↓] exec_store_Bg zero_Bg equal_hash
attribute [local go_sem ↓] loadCells_blk
attribute [local go_sem] run_blkLoad rowAt_drew rowAt_old bsEq_self
set_option maxHeartbeats 4000000 in
set_option maxRecDepth 100000 in
theorem namesLengths_walk (w : World) : Calls Try.prog 4 #[] w fun r w' => r = .returned (.bool true) ∧ Ext w w' := by
  have hsC : begC.size = 72 := rfl
  have hsZ : zBg.size = 72 := rfl
  have hst : ∀ w : World, storeStep Try.prog 35 (.pointer (some ⟨w.heap.size, 0, none⟩)) (.agg begC) (w.alloc (.cells zBg 35)) = .ok .skip (w.alloc (.cells begC 35)) := fun w => by
    rw [store_over (P := Try.prog) _ w.heap.size 35 72 begC zBg 35 hsC hsZ (by kernel_rfl) (one_bgL _ _) (heap_alloc_new w _), setRow_new]
  have hmk : ∀ w : World, (Instr.makeSlice 25 (.int .i64 140) (.int .i64 140)).run Try.prog w = .ok (.slice (some ⟨w.heap.size, 0, none⟩) 140 140) (w.alloc (.cells ((lenL 0).map cb).toArray 5)) := fun w => by
    obtain ⟨i0, hi, hz0, hz1, hz2⟩ := info_parts info_u8
    rw [run_makeSlice w 25 5 i0 (.int .u8 0) Try.underlying25 hi hz0 .i64 .i64 140 140 (by omega) (by omega) (by rw [hz1]; decide) (by rw [hz2]; decide) (by omega), hz1]
    exact congrArg (fun A => Result.ok (Value.slice (some ⟨w.heap.size, 0, none⟩) 140 140) (w.alloc (.cells A 5))) (by kernel_rfl)
  go_enter Try.func4, Try.ntmps4
  go_wp2_with (go_at_call 17; (with_reducible refine (begin_w _).mono ?_); rintro r w1 ⟨rfl, hx1⟩)
  have hB := heap_alloc2_old w1 (.cells begC 35) (.cells ((lenL 0).map cb).toArray 5)
  have hN := heap_alloc2_new w1 (.cells begC 35) (.cells ((lenL 0).map cb).toArray 5)
  have hx : Ext w ((w1.alloc (.cells begC 35)).alloc (.cells ((lenL 0).map cb).toArray 5)) := hx1.then (ext_two w1 _ _)
  have hsz := hx1.size
  obtain ⟨g0, hg0⟩ : ∃ g, g = w1.heap.size := ⟨_, rfl⟩
  generalize (w1.alloc (.cells begC 35)).alloc (.cells ((lenL 0).map cb).toArray 5) = W at *
  rw [← hg0] at hB hN hsz ⊢
  replace hg0 := hide hg0
  clear hst hmk hx1 hsZ
  go_loopw [3] (fun s3 wr => ∃ n : Nat, n ≤ 140 ∧ s3 = .int .i64 n ∧ wr.heap[g0]? = some (.cells begC 35 (0, 0)) ∧ wr.heap[g0 + 1]? = some (.cells ((lenL n).map cb).toArray 5 (0, 0)) ∧ Ext w wr) (fun s _ => (140 - intOf s).toNat)
  case atStart => exact ⟨0, by omega, rfl, hB, hN, hx⟩
  case round =>
    clear hB hN hx
    obtain ⟨n, hn, rfl, hB, hN, hx⟩ := hrel
    obtain ⟨w2, rfl⟩ : ∃ w2, w2 = wr := ⟨_, rfl⟩
    by_cases hlt : n < 140
    · have hlt' : (n : Int) < 140 := by omega
      have hn0 : (0 : Int) ≤ n := by omega
      have hlen := length_lenL n
      have hbt : BytesIn w2 (some ⟨g0 + 1, 0, none⟩) n ((lenL n).take n) := by
        refine ⟨by rw [List.length_take, hlen]; omega, fun _ => ⟨_, rfl, fun j hj => ?_⟩⟩
        rw [show (⟨g0 + 1, 0, none⟩ : Addr).add j = ⟨g0 + 1, j, none⟩ by unfold Addr.add; split <;> simp_all, cell_of_row _ _ j _ _ _ hN, List.getElem?_toArray, List.getElem?_map, getD_of (lenL n) 0 j (by omega)]
        simp [List.getD, List.getElem?_take_of_lt hj]
      generalize hc : (lenL n).take n = c at *
      have r1 : rowAt w2 g0 0 72 = some begC := rowAt_whole hB hsC
      have hg0w := lt_of_block hB
      replace hN := hide hN
      replace hB := hide hB
      replace hbt := hide hbt
      clear hlen hc
      have n0 : (n : Int) ≤ 140 := by omega
      go_wp2_with fail
      go_cut [22] from 12 to 22 (fun s22 wx => s22 = .bool false ∧ Ext w2 wx)
      case first =>
        have hb0 := hbt.out
        have hmx : 1 ≤ maxLen := by unfold maxLen; omega
        have hmx2 : 140 ≤ maxLen := by unfold maxLen; omega
        have pcA : PiecesIn (w2.alloc (.cells #[.slice (some ⟨g0 + 1, 0, none⟩) n 140] 25)).drew (some ⟨w2.heap.size, 0, none⟩) 1 [c] := one_piece hb0 (by omega) hmx2 _ rfl
        have hxA : Ext w2 (w2.alloc (.cells #[.slice (some ⟨g0 + 1, 0, none⟩) n 140] 25)).drew := (show Ext w2 (w2.alloc (.cells #[.slice (some ⟨g0 + 1, 0, none⟩) n 140] 25)) from (Below.refl _ _).alloc (Nat.le_refl _) _).trans ⟨rfl, rfl, rfl, Nat.le_refl _, fun _ _ => rfl⟩
        have hxD : Ext w2 w2.drew := ⟨rfl, rfl, rfl, Nat.le_refl _, fun _ _ => rfl⟩
        have hnl : (some ⟨g0 + 1, 0, none⟩ : Option Addr) = none → 140 = 0 := fun h => by cases h
        have hl8 : h8.length = 8 := rfl
        have hl64 : k64.length = 64 := rfl
        have hfl : [c].flatten = c := by simp
        replace pcA := hide pcA
        replace hnl := hide hnl
        replace hl8 := hide hl8
        replace hl64 := hide hl64
        replace hfl := hide hfl
        replace hb0 := hide hb0
        go_region_with (first
          | (go_at_call 16; (with_reducible refine (sum_any (some ⟨w2.heap.size, 0, none⟩) 1 1 [c] _ (Nat.le_refl _) hmx pcA.out).mono ?_); rintro r w4 ⟨⟨o, ho, rfl⟩, hx4⟩; have hx4 := hxA.then hx4; have r1 := rowAt_ext hx4 r1; have hb4 := hide (hb0.out.ext hx4))
          | (go_at_call 18; (with_reducible refine (refSum_c (some ⟨g0 + 1, 0, none⟩) n 140 c (by omega) _ hb4.out hnl.out).mono ?_); rintro r w5 ⟨⟨o', ho', rfl⟩, hx5⟩; have heq : bsEq o o' = true := (by rw [sum_one (ho.trans (congrArg sumL hfl.out)) ho', bsEq_iff]); have hfin := hx4.then hx5)
          | (go_at_call 18; (with_reducible refine (refSum_c (some ⟨g0 + 1, 0, none⟩) n 140 c (by omega) _ (hb0.out.ext hxA) hnl.out).mono ?_); rintro r w5 ⟨⟨o', ho', rfl⟩, hx5⟩; have pc5 := hide (pcA.out.ext hx5); have hx5 := hxA.then hx5)
          | (go_at_call 16; (with_reducible refine (sum_any (some ⟨w2.heap.size, 0, none⟩) 1 1 [c] _ (Nat.le_refl _) hmx pc5.out).mono ?_); rintro r w4 ⟨⟨o, ho, rfl⟩, hx4⟩; have heq : bsEq o o' = true := (by rw [sum_one (ho.trans (congrArg sumL hfl.out)) ho', bsEq_iff]); have hfin := hx5.then hx4)
          | (go_at_call 18; (with_reducible refine (refSum_c (some ⟨g0 + 1, 0, none⟩) n 140 c (by omega) _ (hb0.out.ext hxD) hnl.out).mono ?_); rintro r w5 ⟨⟨o', ho', rfl⟩, hx5⟩; have hx5 := hxD.then hx5; have pc5 := hide (one_piece (hb0.out.ext hx5) (show n ≤ 140 by omega) hmx2 _ rfl))
          | (go_at_call 16; (with_reducible refine (sum_any (some ⟨w5.heap.size, 0, none⟩) 1 1 [c] _ (Nat.le_refl _) hmx pc5.out).mono ?_); rintro r w4 ⟨⟨o, ho, rfl⟩, hx4⟩; have heq : bsEq o o' = true := (by rw [sum_one (ho.trans (congrArg sumL hfl.out)) ho', bsEq_iff]); have hfin := (hx5.alloc hx5.size _).then hx4))
        all_goals
          go_wp2_with fail
          go_meet
          exact ⟨rfl, hfin⟩
      case rest =>
        obtain ⟨rfl, hx4⟩ := hcut
        have hN := (hx4.block _ (lt_of_block hN.out)).trans hN.out
        have hB := (hx4.block _ (lt_of_block hB.out)).trans hB.out
        have hx := hx.then hx4
        clear r1 hbt
        have f1 := free_blk hN n
        have d1 := cell_blk hN n
        obtain ⟨y0, hy0⟩ : ∃ y, ((lenL n).map cb)[n]? = some y := ⟨_, List.getElem?_eq_getElem (by rw [List.length_map, length_lenL]; exact hlt)⟩
        rw [hy0] at d1
        have j1 : IntKind.i64.wrap (7 * (n : Int)) = 7 * (n : Int) := by rw [IntKind.wrap_i64]; omega
        have j2 : IntKind.u8.wrap (7 * (n : Int)) = ((UInt8.ofNat (7 * n)).toNat : Int) := by rw [IntKind.wrap_u8, UInt8.toNat_ofNat']; omega
        have hset : ((lenL n).map cb).toArray.setIfInBounds n (cb (UInt8.ofNat (7 * n))) = ((lenL (n + 1)).map cb).toArray := by
          apply Array.ext'
          rw [Array.toList_setIfInBounds, lenL, List.map_set]
        replace hset := hide hset
        clear hy0
        replace hN := hide hN
        replace hB := hide hB
        go_wp2_with fail
        go_roundw
        case rel =>
          refine ⟨n + 1, by omega, by go_num, (Below.heap_setCell _ _ _ _ (by show g0 ≠ g0 + 1; omega)).trans hB.out, ?_, Below.setCell (p := ⟨g0 + 1, n, none⟩) hx (by show w.heap.size ≤ g0 + 1; omega) _⟩
          rw [heap_setCell hN.out]
          exact congrArg (fun A => some (Obj.cells A _ _)) hset.out
        case measure => simp [intOf]; omega
    · obtain rfl : n = 140 := by omega
      rw [show ((140 : Nat) : Int) = 140 from rfl]
      clear hB hN
      go_wp2_with (go_at_call 13; (with_reducible refine (known03_any _).mono ?_); rintro r w7 ⟨rfl, hx7⟩)
      go_ret
      exact ⟨rfl, hx.then hx7⟩
end Go.Proofs.Ytldcaoclimcahaa
