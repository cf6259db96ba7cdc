/- The law on what can be told of a signature: its walk. -/
import Derived.Test.YtclghfnmmnnceaaStepX
import Derived.Test.YtclghfnmmnnceaaSecEq
import Derived.Test.YtclghfnmmnnceaaLaid
import Derived.BigQuiet
import Derived.Deep.QuietTactic
import Derived.Test.YtclghfnmmnnceaaKnown6
import Derived.Test.YtclghfnmmnnceaaSignW
namespace Go.Proofs.Ytclghfnmmnnceaa
open Go.RowKit
set_option linter.unusedVariables false
set_option linter.unusedSimpArgs false

theorem equal_node10 (w : World) (a b : Bs 16) : (Op.equalIn 10000 23 (.agg (bcells a)) (.agg (bcells b))).run Try.prog w = .ok (bsEq a b) w := equal_node w 9998 a b
theorem length_signD (S : Nat → Bs 16) (D : Nat → Nat) : (signB S D).length = 1088 := length_joinB _ 68
theorem sign_at (S : Nat → Bs 16) (D : Nat → Nat) (i : Nat) (hi : i < 68) (j : Nat) (hj : j < 16) : (signB S D).getD (16 * i + j) 0 = (goB (S i) i 0 (D i)).1.getD j 0 := by
  have h := joinB_at (eachB S (fun _ => 0) D) i 68 hi
  have e : eachB S (fun _ => 0) D i = goB (S i) i 0 (D i) := rfl
  rw [← e, ← h]
  unfold signB
  rw [List.getD_eq_getElem?_getD, List.getD_eq_getElem?_getD, List.getElem?_take_of_lt hj, List.getElem?_drop, Nat.mul_comm 16 i]
attribute [local go_sem ↓] exec_store_Hash exec_store_Node exec_store_Secret
attribute [local go_sem ↓] loadCells_blk
attribute [local go_sem] run_blkLoad rowAt_drew rowAt_drewN rowAt_old rowAt_new size_bcells size_scells bc_whole sc_whole equal_node10
set_option maxHeartbeats 8000000 in
set_option maxRecDepth 100000 in
theorem wotsOn_walk (S : Nat → Bs 16) (h g : Bs 32) (w : World) : Calls Try.prog 3 #[.agg (scells S), .agg (bcells h), .agg (bcells g)] w fun e w' => e = .returned (.bool true) ∧ Ext w w' := by
  obtain ⟨hS, hH, hG, hx, hsz⟩ := alloc3 w (.cells (scells S) 25) (.cells (bcells h) 27) (.cells (bcells g) 27)
  have rS := rowAt_whole hS (size_scells S)
  have rH := rowAt_whole hH (size_bcells h)
  have rG := rowAt_whole hG (size_bcells g)
  clear hS hH hG hsz
  have hsh := fun w' => sign_any S h w'
  have hsg := fun w' => sign_any S g w'
  have hlh := length_signD S (digN h)
  have hlg := length_signD S (digN g)
  have hat := sign_at S (digN h)
  have hbt := sign_at S (digN g)
  have hD3 := digN_le h
  have hE3 := digN_le g
  have hdh := fun w' => digits_ints h w'
  have hdg := fun w' => digits_ints g w'
  generalize hCA : signB S (digN h) = CA at *
  generalize hCB : signB S (digN g) = CB at *
  replace hsh := hide hsh
  replace hsg := hide hsg
  replace hlh := hide hlh
  replace hlg := hide hlg
  replace hat := hide hat
  replace hbt := hide hbt
  replace hD3 := hide hD3
  replace hE3 := hide hE3
  replace hdh := hide hdh
  replace hdg := hide hdg
  replace hx := hide hx
  clear hCA hCB
  go_enter Try.func3, Try.ntmps3
  go_upto_region 1 with fail
  generalize ((w.alloc (.cells (scells S) 25)).alloc (.cells (bcells h) 27)).alloc (.cells (bcells g) 27) = W at *
  go_cut [7, 8] from 20 to 25 (fun s7 s8 wx => ∃ a c1 b c2, s7 = .slice (some a) 1088 c1 ∧ s8 = .slice (some b) 1088 c2 ∧ BytesIn wx (some a) 1088 CA ∧ BytesIn wx (some b) 1088 CB ∧ Ext W wx)
  case first =>
    go_region_with (first
      | (go_at_call 7; (with_reducible refine (hsh.out _).mono ?_); rintro r w1 ⟨⟨v, rfl, a1, c1, rfl, hc1, hc2, hc3, hb1, hc5⟩, hx1⟩; rw [hlh.out] at hb1; clear hc1 hc2 hc3 hc5; obtain ⟨ad1, rfl, _⟩ := hb1.2 (by omega); replace hx1 : Ext W w1 := Ext.then (b := W.drew) ((Below.refl _ _).drew) hx1; have rS1 := rowAt_ext hx1 rS; have rG1 := rowAt_ext hx1 rG; rw [hlh.out])
      | (go_at_call 7; (with_reducible refine (hsg.out _).mono ?_); rintro r w2 ⟨⟨v, rfl, a2, c2, rfl, hc1, hc2, hc3, hb2, hc5⟩, hx2⟩; rw [hlg.out] at hb2; clear hc1 hc2 hc3 hc5; obtain ⟨ad2, rfl, _⟩ := hb2.2 (by omega); rw [hlg.out]))
    all_goals (go_wp2_with fail; go_meet; exact ⟨ad1, _, ad2, _, rfl, rfl, hb1.ext hx2, hb2, hx1.then hx2⟩)
  case rest =>
    obtain ⟨a, c1, b, c2, rfl, rfl, hba, hbb, hx1⟩ := hcut
    have rH1 := rowAt_ext hx1 rH
    have rG1 := rowAt_ext hx1 rG
    replace hx1 := hx.out.then hx1
    clear rS rH rG hsh hsg hx
    obtain ⟨w1, rfl⟩ : ∃ v, v = wc := ⟨_, rfl⟩
    replace hba := hide hba
    replace hbb := hide hbb
    replace hx1 := hide hx1
    go_upto_region 2 with fail
    go_cut [9, 10] from 26 to 29 (fun s9 s10 wx => ∃ g1 c1 g2 c2, s9 = .slice (some ⟨g1, 0, none⟩) 68 c1 ∧ s10 = .slice (some ⟨g2, 0, none⟩) 68 c2 ∧ HasInts wx g1 (digL h) ∧ HasInts wx g2 (digL g) ∧ Ext w1 wx)
    case first =>
      go_region_with (first
        | (go_at_call 8; (with_reducible refine (hdh.out _).mono ?_); rintro e w3 ⟨g1, cap1, rfl, hi1, hx3⟩; have rG3 := rowAt_ext hx3 rG1)
        | (go_at_call 8; (with_reducible refine (hdg.out _).mono ?_); rintro e w4 ⟨g2, cap2, rfl, hi2, hx4⟩))
      all_goals (go_wp2_with fail; go_meet; exact ⟨g1, cap1, g2, cap2, rfl, rfl, hi1.ext hx4, hi2, Ext.then (b := w1.drew) ((Below.refl _ _).drew) (Ext.then hx3 hx4)⟩)
    case rest =>
      obtain ⟨g1, cp1, g2, cp2, rfl, rfl, hi1, hi2, hx2⟩ := hcut
      clear rH1 rG1 hdh hdg
      obtain ⟨w2, rfl⟩ : ∃ v, v = wc := ⟨_, rfl⟩
      have hba2 := hide (hba.out.ext hx2)
      have hbb2 := hide (hbb.out.ext hx2)
      have hi1 := hide (fun i hi => hi1.digit i hi)
      have hi2 := hide (fun i hi => hi2.digit i hi)
      replace hx2 := hide (hx1.out.then hx2)
      clear hba hbb hx1
      go_wp2_with fail
      go_loopw [11] (fun s11 wr => ∃ i : Nat, i ≤ 68 ∧ s11 = .int .i64 i ∧ Ext w2 wr) (fun i _ => 68 - (intOf i).toNat)
      case atStart => exact ⟨0, by omega, rfl, Below.refl _ _⟩
      case round =>
        obtain ⟨i, hi, rfl, hr⟩ := hrel
        obtain ⟨w5, rfl⟩ : ∃ v, v = wr := ⟨_, rfl⟩
        by_cases hlt : i < 68
        · have hlt' : (i : Int) < 68 := by omega
          have hi0 : (0 : Int) ≤ i := by omega
          have hba5 := hide (hba2.out.ext hr)
          have hbb5 := hide (hbb2.out.ext hr)
          have d1 := hide ((hr.cell (p := ⟨g1, i, none⟩) (block_lt_of_cell (hi1.out i hlt))).trans (hi1.out i hlt))
          have d2 := hide ((hr.cell (p := ⟨g2, i, none⟩) (block_lt_of_cell (hi2.out i hlt))).trans (hi2.out i hlt))
          have hat5 := hide (hat.out i hlt)
          have hbt5 := hide (hbt.out i hlt)
          have hD5 := hD3.out i
          have hE5 := hE3.out i
          generalize digN h i = D at *
          generalize digN g i = E at *
          clear hi1 hi2 hba2 hbb2 hat hbt hD3 hE3
          have hz0 : ∀ (P : List UInt8), ((laidL P 16 0).map cb).toArray = bcells (zeros 16) := fun P => by rw [laid_zero]; rfl
          have hxy := ext_two w5 (.cells (bcells (zeros 16)) 23) (.cells (bcells (zeros 16)) 23)
          have hX := heap_alloc2_old w5 (.cells (bcells (zeros 16)) 23) (.cells (bcells (zeros 16)) 23)
          have hY := heap_alloc2_new w5 (.cells (bcells (zeros 16)) 23) (.cells (bcells (zeros 16)) 23)
          rw [bcells_zeros16] at hxy hX hY
          replace hz0 := hide hz0
          replace hxy := hide hxy
          replace hX := hide hX
          replace hY := hide hY
          go_wp2_with fail
          have hxy := hxy.out
          have hX := hX.out
          have hY := hY.out
          generalize (w5.alloc _).alloc _ = W5 at *
          rw [← bcells_zeros16, ← hz0.out (goB (S i) i 0 D).1] at hX
          rw [← bcells_zeros16, ← hz0.out (goB (S i) i 0 E).1] at hY
          have hPl := (goB (S i) i 0 D).2
          have hQl := (goB (S i) i 0 E).2
          go_loopw [14] (fun s14 wr => ∃ k : Nat, k ≤ 16 ∧ s14 = .int .i64 k ∧ wr.heap[w5.heap.size]? = some (.cells ((laidL (goB (S i) i 0 D).1 16 k).map cb).toArray 23 (0, 0)) ∧ wr.heap[w5.heap.size + 1]? = some (.cells ((laidL (goB (S i) i 0 E).1 16 k).map cb).toArray 23 (0, 0)) ∧ Ext w5 wr) (fun i _ => 16 - (intOf i).toNat)
          case atStart => exact ⟨0, by omega, rfl, hX, hY, hxy⟩
          case round =>
            clear hX hY hxy
            obtain ⟨k, hk, rfl, hX, hY, hxk⟩ := hrel
            obtain ⟨w6, rfl⟩ : ∃ v, v = wr := ⟨_, rfl⟩
            by_cases hkt : k < 16
            · have hkt' : (k : Int) < 16 := by omega
              have hk0 : (0 : Int) ≤ k := by omega
              have ca : w6.cell? (a.add (16 * i + k)) = some (.int .u8 (((goB (S i) i 0 D).1.getD k 0).toNat : Int)) := by
                obtain ⟨ad', e, c0⟩ := (hba5.out.ext hxk).2 (by omega)
                obtain rfl := Option.some.inj e
                rw [c0 (16 * i + k) (by omega), hat5.out k hkt]; rfl
              have cbb : w6.cell? (b.add (16 * i + k)) = some (.int .u8 (((goB (S i) i 0 E).1.getD k 0).toNat : Int)) := by
                obtain ⟨ad', e, c0⟩ := (hbb5.out.ext hxk).2 (by omega)
                obtain rfl := Option.some.inj e
                rw [c0 (16 * i + k) (by omega), hbt5.out k hkt]; rfl
              have hbl : (b.add (16 * i + k)).block < w5.heap.size := by
                obtain ⟨ad', e, c0⟩ := hbb5.out.2 (by omega)
                obtain rfl := Option.some.inj e
                exact block_lt_of_cell (c0 (16 * i + k) (by omega))
              have f1 := free_blk hX k
              have f2 := free_blk hY k
              have c2 := b_at _ hX k (by rw [length_laidL _ _ _ hk (by omega)]; omega)
              have c3 := b_at _ hY k (by rw [length_laidL _ _ _ hk (by omega)]; omega)
              have hset1 := laid_set (goB (S i) i 0 D).1 16 k hkt (by omega)
              have hset2 := laid_set (goB (S i) i 0 E).1 16 k hkt (by omega)
              obtain ⟨m, hm⟩ : ∃ m, m = 16 * i + k := ⟨_, rfl⟩
              rw [← hm] at ca cbb hbl
              have hmi : (m : Int) = 16 * (i : Int) + k := by omega
              have hm1 : (m : Int) < 1088 := by omega
              have hm0 : (0 : Int) ≤ 16 * (i : Int) + k := by omega
              have hm2 : 16 * (i : Int) + k < 1088 := by omega
              have hm3 : (16 * (i : Int) + k).toNat = m := by omega
              generalize (goB (S i) i 0 D).1.getD k 0 = y1 at ca hset1
              generalize (goB (S i) i 0 E).1.getD k 0 = y2 at cbb hset2
              generalize (laidL (goB (S i) i 0 D).1 16 k).getD k 0 = z1 at c2
              generalize (laidL (goB (S i) i 0 E).1 16 k).getD k 0 = z2 at c3
              have cb2 := (World.cell?_setCell_other w6 ⟨w5.heap.size, k, none⟩ (b.add m) (.int .u8 (y1.toNat : Int)) (fun e => by rw [← e] at hbl; exact absurd hbl (Nat.lt_irrefl _))).trans cbb
              replace hbl := hide hbl
              replace hm := hide hm
              replace hmi := hide hmi
              replace hX := hide hX
              replace hY := hide hY
              replace hset1 := hide hset1
              replace hset2 := hide hset2
              clear hPl hQl
              go_wp2_with fail
              go_roundw
              case rel => exact ⟨k + 1, by omega, by go_num, (Below.heap_setCell _ _ _ _ (by show w5.heap.size ≠ w5.heap.size + 1; omega)).trans (by rw [heap_setCell hX.out, hset1.out]), by rw [heap_setCell ((Below.heap_setCell _ _ _ _ (by show w5.heap.size + 1 ≠ w5.heap.size; omega)).trans hY.out), hset2.out], Below.setCell (p := ⟨w5.heap.size + 1, k, none⟩) (Below.setCell (p := ⟨w5.heap.size, k, none⟩) hxk (Nat.le_refl _) _) (by show w5.heap.size ≤ w5.heap.size + 1; omega) _⟩
              case measure => simp [intOf]; omega
            · obtain rfl : k = 16 := by omega
              rw [show ((16 : Nat) : Int) = 16 from rfl]
              rw [laid_all, List.take_of_length_le (by omega)] at hX hY
              replace hX : w6.heap[w5.heap.size]? = some (.cells (bcells (goB (S i) i 0 D)) 23 (0, 0)) := hX
              replace hY : w6.heap[w5.heap.size + 1]? = some (.cells (bcells (goB (S i) i 0 E)) 23 (0, 0)) := hY
              have e1 := (hxk.cell (p := ⟨g1, i, none⟩) (block_lt_of_cell d1.out)).trans d1.out
              have e2 := (hxk.cell (p := ⟨g2, i, none⟩) (block_lt_of_cell d2.out)).trans d2.out
              have hi68 : (i : Int) < 68 := hlt'
              clear hPl hQl hz0 hba5 hbb5 hat5 hbt5 d1 d2
              replace hX := hide hX
              replace hY := hide hY
              go_wp2_with fail
              go_quiet (fail)
              have hxq := hxk.then (ext_drewN w6 nq)
              have hX := ((ext_drewN w6 nq).block _ (lt_of_block hX.out)).trans hX.out
              have hY := ((ext_drewN w6 nq).block _ (lt_of_block hY.out)).trans hY.out
              clear e1 e2 hxk
              generalize w6.drewN nq = w7 at *
              obtain ⟨B, hB⟩ : ∃ B, decide ((E : Int) < D) = B := ⟨_, rfl⟩
              go_upto_if 84 with fail
              replace hB := hide hB
              go_cut [15, 16] from 85 to 88 (fun s15 s16 wx => ∃ f t : Nat, f ≤ t ∧ t ≤ 3 ∧ s15 = .int .i64 f ∧ s16 = .int .i64 t ∧ wx.heap[w5.heap.size]? = some (.cells (bcells (goB (S i) i 0 f)) 23 (0, 0)) ∧ wx.heap[w5.heap.size + 1]? = some (.cells (bcells (goB (S i) i 0 t)) 23 (0, 0)) ∧ Ext w5 wx)
              case first =>
                cases B
                rotate_left
                · have hED : E < D := by have := of_decide_eq_true hB.out; omega
                  have rX := rowAt_whole hX (size_bcells _)
                  have rY := rowAt_whole hY (size_bcells _)
                  have hst1 := store_over (P := Try.prog) w7 w5.heap.size 23 16 (bcells (goB (S i) i 0 E)) _ 23 (size_bcells _) (size_bcells _) (by kernel_rfl) (one_bcells _) hX
                  have hX1 := setRow_heap w7 w5.heap.size _ (bcells (goB (S i) i 0 E)) _ _ hX
                  have hY1 := (setRow_other w7 w5.heap.size (w5.heap.size + 1) (bcells (goB (S i) i 0 E)) (by omega)).trans hY
                  have hst2 := store_over (P := Try.prog) (w7.setRow w5.heap.size (bcells (goB (S i) i 0 E))) (w5.heap.size + 1) 23 16 (bcells (goB (S i) i 0 D)) _ 23 (size_bcells _) (size_bcells _) (by kernel_rfl) (one_bcells _) hY1
                  have hX2 := (setRow_other (w7.setRow w5.heap.size (bcells (goB (S i) i 0 E))) (w5.heap.size + 1) w5.heap.size (bcells (goB (S i) i 0 D)) (by omega)).trans hX1
                  have hY2 := setRow_heap _ (w5.heap.size + 1) _ (bcells (goB (S i) i 0 D)) _ _ hY1
                  have hx2' : Ext w5 ((w7.setRow w5.heap.size (bcells (goB (S i) i 0 E))).setRow (w5.heap.size + 1) (bcells (goB (S i) i 0 D))) := below_setRow (below_setRow hxq (Nat.le_refl _) _) (by omega) _
                  replace hX2 := hide hX2
                  replace hY2 := hide hY2
                  replace hx2' := hide hx2'
                  clear hX hY hX1 hY1
                  go_wp2_with fail
                  go_meet
                  exact ⟨E, D, by omega, hD5, rfl, rfl, hX2.out, hY2.out, hx2'.out⟩
                · have hED : ¬ E < D := by have := of_decide_eq_false hB.out; omega
                  replace hX := hide hX
                  replace hY := hide hY
                  go_wp2_with fail
                  go_meet
                  exact ⟨D, E, by omega, hE5, rfl, rfl, hX.out, hY.out, hxq⟩
              case rest =>
                clear hX hY hxq hD5 hE5
                obtain ⟨f, t, hft, ht3, rfl, rfl, hX, hY, hxq⟩ := hcut
                obtain ⟨w8, rfl⟩ : ∃ v, v = wc := ⟨_, rfl⟩
                replace hX := hide hX
                replace hY := hide hY
                go_wp2_with fail
                have hX := hX.out
                have hY := hY.out
                go_loopw [17] (fun s17 wr => ∃ m : Nat, f ≤ m ∧ m ≤ t ∧ s17 = .int .i64 m ∧ wr.heap[w5.heap.size]? = some (.cells (bcells (goB (S i) i 0 m)) 23 (0, 0)) ∧ wr.heap[w5.heap.size + 1]? = some (.cells (bcells (goB (S i) i 0 t)) 23 (0, 0)) ∧ Ext w5 wr) (fun i _ => t - (intOf i).toNat)
                case atStart => exact ⟨f, Nat.le_refl _, hft, rfl, hX, hY, hxq⟩
                case round =>
                  clear hX hY hxq
                  obtain ⟨m, hfm, hmt, rfl, hX, hY, hxq⟩ := hrel
                  obtain ⟨w9, rfl⟩ : ∃ v, v = wr := ⟨_, rfl⟩
                  by_cases hlt3 : m < t
                  · have hlt3' : (m : Int) < t := by omega
                    have rX := rowAt_whole hX (size_bcells _)
                    have hgo : goB (S i) i 0 (m + 1) = stepB (goB (S i) i 0 m) i m := by rw [goB, Nat.zero_add]
                    have hG5 := lt_of_block hY
                    have hz16 : (bcells (zeros 16)).size = 16 := size_bcells _
                    rw [bcells_zeros16] at hz16
                    generalize goB (S i) i 0 m = x at *
                    have hSt := fun w' => stepYes x i m hlt (by omega) w'
                    generalize stepB x i m = y at *
                    replace hX := hide hX
                    replace hY := hide hY
                    replace hgo := hide hgo
                    replace hSt := hide hSt
                    go_wp2_with (go_at_call 9; (with_reducible refine (hSt.out _).mono ?_); rintro r w10 ⟨rfl, hx10⟩; have hst1 := store_new_N y w10 _ rfl _ hz16; have rZ := rowAt_whole (heap_alloc_new w10 (.cells (bcells y) 23)) (size_bcells y); replace hx10 := hx10.then (ext_alloc w10 (.cells (bcells y) 23)); have hX10 := (hx10.block _ (lt_of_block hX.out)).trans hX.out; have hst2 := store_over (P := Try.prog) _ w5.heap.size 23 16 (bcells y) _ 23 (size_bcells _) (size_bcells _) (by kernel_rfl) (one_bcells _) hX10)
                    go_roundw
                    case rel => exact ⟨m + 1, by omega, by omega, by go_num, by rw [hgo.out]; exact setRow_heap _ _ _ _ _ _ hX10, (setRow_other _ _ _ _ (by omega)).trans ((hx10.block _ (lt_of_block hY.out)).trans hY.out), below_setRow (hxq.then hx10) (Nat.le_refl _) _⟩
                    case measure => simp [intOf]; omega
                  · have hlt3' : ¬ (m : Int) < t := by omega
                    obtain rfl : m = t := by omega
                    have rX := rowAt_whole hX (size_bcells _)
                    have rY := rowAt_whole hY (size_bcells _)
                    generalize goB (S i) i 0 m = x at *
                    have hself := bsEq_self x
                    replace hX := hide hX
                    replace hY := hide hY
                    go_wp2_with fail
                    go_roundw
                    case rel => exact ⟨i + 1, by omega, by go_num, hr.then hxq⟩
                    case measure => simp [intOf]; omega
        · obtain rfl : i = 68 := by omega
          go_wp2_with (go_at_call 10; (with_reducible refine (known06 _).mono ?_); rintro r w6 ⟨rfl, hx6⟩)
          go_ret
          exact ⟨rfl, hx2.out.then (hr.then hx6)⟩
end Go.Proofs.Ytclghfnmmnnceaa
