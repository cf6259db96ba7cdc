/- The walk of the reference's Sum, by words that are found already. -/
import Derived.Test.YtclghfnmmnnceaaWideB
import Derived.Test.YtclghfnmmnnceaaRefA
namespace Go.Proofs.Ytclghfnmmnnceaa
open Go.RowKit
set_option linter.unusedVariables false
set_option linter.unusedSimpArgs false

theorem bg_e {e k : List UInt32} (he : e.length = 8) (i : Nat) (hi : i < 8) : (bgL e k)[i]? = some (cw (e.getD i 0)) := by
  unfold bgL
  rw [List.getElem?_append_left (by simp; omega), List.getElem?_map, getD_of e 0 i (by omega)]; rfl
theorem bg_k {e k : List UInt32} (he : e.length = 8) (hk : k.length = 64) (t : Nat) (ht : t < 64) : (bgL e k)[8 + t]? = some (cw (k.getD t 0)) := by
  unfold bgL
  rw [List.getElem?_append_right (by simp; omega), List.length_map, he, Nat.add_sub_cancel_left, List.getElem?_map, getD_of k 0 t (by omega)]; rfl
theorem e8_at (e : List UInt32) (he : e.length = 8) {w : World} {g : Nat} {t : TypeId} {fr : Nat × Nat} (h : w.heap[g]? = some (.cells (e.map cw).toArray t fr)) (i : Nat) (hi : i < 8) : w.cell? ⟨g, i, none⟩ = some (.int .u32 ((e.getD i 0).toNat : Int)) := by
  rw [cell_blk h i, List.getElem?_map, getD_of e 0 i (by omega)]; rfl
theorem e8_set (e : List UInt32) (i : Nat) (x : UInt32) : (e.map cw).toArray.setIfInBounds i (cw x) = ((e.set i x).map cw).toArray := by
  apply Array.ext'
  rw [Array.toList_setIfInBounds, List.map_set]
theorem bg_e' {e k : List UInt32} (he : e.length = 8) (i : Nat) (hi : i < 8) : ∀ h : i < (bgL e k).length, (bgL e k)[i]'h = .int .u32 ((e.getD i 0).toNat : Int) := by
  intro h
  have := bg_e (k := k) he i hi
  rw [List.getElem?_eq_getElem h] at this
  exact Option.some.inj this
def cplW (x : UInt32) : UInt32 := ~~~x
theorem w_cpl (x : UInt32) : bits BinOp.xor IntKind.u32 IntKind.u32.max (x.toNat : Int) = ((cplW x).toNat : Int) := by
  have h := w_xor 4294967295 x
  rw [show ((4294967295 : UInt32).toNat : Int) = IntKind.u32.max from rfl] at h
  rw [h]
  congr 2
theorem w_add4 (a b c d : UInt32) : ((a.toNat : Int) + (b.toNat : Int) + (c.toNat : Int) + (d.toNat : Int)) % 4294967296 = ((addW (addW (addW a b) c) d).toNat : Int) := by
  rw [← w_add', ← w_add', ← w_add']; omega
theorem and_cpl (e g : UInt32) : andW (cplW e) g = notW g e := by
  unfold andW cplW notW
  exact UInt32.and_comm _ _
theorem mix_addL (e V : List UInt32) (he : e.length = 8) (hV : V.length = 8) : mixE e V 8 = addL e V := by
  obtain ⟨a0, a1, a2, a3, a4, a5, a6, a7, rfl⟩ := list8 e he
  obtain ⟨b0, b1, b2, b3, b4, b5, b6, b7, rfl⟩ := list8 V hV
  rfl
theorem be4_part (e : List UInt32) (i : Nat) (hi : i < e.length) : ((e.flatMap be4).drop (4 * i)).take 4 = be4 (e.getD i 0) := by
  have hl := length_be4s e
  apply List.ext_getElem?
  intro j
  by_cases hj : j < 4
  · have h1 := be4s_at e i j hj hi
    rw [List.getElem?_take_of_lt hj, List.getElem?_drop, getD_of _ 0 (4 * i + j) (by omega), h1, getD_of (be4 (e.getD i 0)) 0 j (by show j < 4; exact hj)]
  · rw [List.getElem?_eq_none (by simp; omega), List.getElem?_eq_none (by show 4 ≤ j; omega)]
theorem out_splice (e : List UInt32) (he : e.length = 8) (i : Nat) (hi : i < 8) : splice (outC e (4 * i)) (4 * i) ((be4 (e.getD i 0)).map cb) = outC e (4 * (i + 1)) := by
  have hl := length_be4s e
  have hp := be4_part e i (by omega)
  have h1 : ((e.flatMap be4).take (4 * i)).length = 4 * i := by rw [List.length_take]; omega
  have h4 : (be4 (e.getD i 0)).length = 4 := rfl
  unfold splice outC
  rw [show 4 * (i + 1) = 4 * i + 4 by omega, List.take_add, hp, List.map_append, List.take_append_of_le_length (by rw [List.length_map, h1]; exact Nat.le_refl _), List.take_of_length_le (by rw [List.length_map, h1]; exact Nat.le_refl _), List.length_map, h4]
  rw [List.drop_append, List.drop_eq_nil_of_le (by rw [List.length_map, h1]; omega), List.length_map, h1, List.nil_append, ← List.map_drop, List.drop_replicate]
  simp only [List.map_append, List.append_assoc]
  congr 3
  congr 1
  omega
theorem length_outC (e : List UInt32) (n : Nat) (he : e.length = 8) (hn : n ≤ 32) : (outC e n).length = 32 := by
  have hl := length_be4s e
  rw [he] at hl
  unfold outC; simp only [List.length_map, List.length_append, List.length_take, List.length_replicate]; omega
/-- What stands in memory while the reference sums: the words, the result, the eight, the message. -/
structure RS (w wr : World) (g0 g1 g2 gF : Nat) (E k : List UInt32) (F : List UInt8) (e8 : List UInt32) : Prop where
  bg : wr.heap[g0]? = some (.cells (bgL E k).toArray 62 (0, 0))
  z : wr.heap[g1]? = some (.cells (bcells (zeros 32)) 27 (0, 0))
  e : wr.heap[g2]? = some (.cells (e8.map cw).toArray 59 (0, 0))
  f : ∀ j, j < F.length → wr.cell? ⟨gF, j, none⟩ = some (.int .u8 ((F.getD j 0).toNat : Int))
  x : Ext w wr
section
variable {w wr w' : World} {g0 g1 g2 gF B : Nat} {E k e8 : List UInt32} {F : List UInt8}
theorem RS.below (h : RS w wr g0 g1 g2 gF E k F e8) (hb : Below B wr w') (h0 : g0 < B) (h1 : g1 < B) (h2 : g2 < B) (hF : gF < B) (hw : w.heap.size ≤ B) : RS w w' g0 g1 g2 gF E k F e8 :=
  ⟨(hb.block _ h0).trans h.bg, (hb.block _ h1).trans h.z, (hb.block _ h2).trans h.e, fun j hj => (World.cell?_of_block (a := ⟨gF, j, none⟩) (hb.block gF hF)).trans (h.f j hj), h.x.trans (hb.mono hw)⟩
theorem RS.setE (h : RS w wr g0 g1 g2 gF E k F e8) (h0 : g0 ≠ g2) (h1 : g1 ≠ g2) (hF : gF ≠ g2) (hw : w.heap.size ≤ g2) (i : Nat) (y : UInt32) : RS w (wr.setCell ⟨g2, i, none⟩ (.int .u32 (y.toNat : Int))) g0 g1 g2 gF E k F (e8.set i y) :=
  ⟨(Below.heap_setCell _ _ _ _ h0).trans h.bg, (Below.heap_setCell _ _ _ _ h1).trans h.z, by rw [heap_setCell h.e]; exact congrArg (fun A => some (Obj.cells A _ _)) (e8_set e8 i y), fun j hj => (World.cell?_of_block (a := ⟨gF, j, none⟩) (Below.heap_setCell _ _ _ _ hF)).trans (h.f j hj), Below.setCell (p := ⟨g2, i, none⟩) h.x hw _⟩
end
attribute [local go_sem ↓] exec_store_Hash loadCells_blk
attribute [local go_sem] run_blkLoad rowAt_drew rowAt_new rowAt_old
attribute [local go_sem] cb cw w_xor w_add w_add' w_and w_andNot w_shr3 w_shr10 w_cpl and_cpl
set_option maxHeartbeats 40000000 in
set_option maxRecDepth 100000 in
theorem refSum_any (a : Option Addr) (n cap : Nat) (c : List UInt8) (k e0 : List UInt32) (hk : k.length = 64) (he0 : e0.length = 8) (hn : n ≤ 1000000) (w : World) (h : BytesIn w a n c) (hnil : a = none → cap = 0) :
    Calls Try.prog 43 #[.agg (bgL e0 k).toArray, .slice a n cap] w fun r w' => (∃ o : Bs 32, o.1 = sumK k e0 c ∧ r = .returned (.agg (bcells o))) ∧ Ext w w' := by
  obtain ⟨q0, q1, q2, q3, q4, q5, q6, q7, rfl⟩ := list8 e0 he0
  generalize hE : [q0, q1, q2, q3, q4, q5, q6, q7] = E at he0
  have hEm : (E.map cw).toArray = #[.int .u32 (q0.toNat : Int), .int .u32 (q1.toNat : Int), .int .u32 (q2.toNat : Int), .int .u32 (q3.toNat : Int), .int .u32 (q4.toNat : Int), .int .u32 (q5.toNat : Int), .int .u32 (q6.toNat : Int), .int .u32 (q7.toNat : Int)] := by rw [← hE]; rfl
  have x0 := bg_e' (k := k) he0 0 (by omega)
  have x1 := bg_e' (k := k) he0 1 (by omega)
  have x2 := bg_e' (k := k) he0 2 (by omega)
  have x3 := bg_e' (k := k) he0 3 (by omega)
  have x4 := bg_e' (k := k) he0 4 (by omega)
  have x5 := bg_e' (k := k) he0 5 (by omega)
  have x6 := bg_e' (k := k) he0 6 (by omega)
  have x7 := bg_e' (k := k) he0 7 (by omega)
  rw [show E.getD 0 0 = q0 by rw [← hE]; rfl] at x0
  rw [show E.getD 1 0 = q1 by rw [← hE]; rfl] at x1
  rw [show E.getD 2 0 = q2 by rw [← hE]; rfl] at x2
  rw [show E.getD 3 0 = q3 by rw [← hE]; rfl] at x3
  rw [show E.getD 4 0 = q4 by rw [← hE]; rfl] at x4
  rw [show E.getD 5 0 = q5 by rw [← hE]; rfl] at x5
  rw [show E.getD 6 0 = q6 by rw [← hE]; rfl] at x6
  rw [show E.getD 7 0 = q7 by rw [← hE]; rfl] at x7
  have hbg : (bgL E k).length = 72 := length_bgL _ k he0 hk
  have hex : (bgL E k).toArray.extract 0 8 = #[.int .u32 (q0.toNat : Int), .int .u32 (q1.toNat : Int), .int .u32 (q2.toNat : Int), .int .u32 (q3.toNat : Int), .int .u32 (q4.toNat : Int), .int .u32 (q5.toNat : Int), .int .u32 (q6.toNat : Int), .int .u32 (q7.toNat : Int)] := by
    apply Array.ext'
    rw [Array.toList_extract, List.extract_eq_take_drop, ← hE]; rfl
  have e2 : ((w.alloc (.cells (bgL E k).toArray 62)).alloc (.cells (bcells (zeros 32)) 27)).heap.size = w.heap.size + 1 + 1 := by simp
  have hN2 := heap_alloc_new ((w.alloc (.cells (bgL E k).toArray 62)).alloc (.cells (bcells (zeros 32)) 27)) (.cells (E.map cw).toArray 59)
  rw [e2] at hN2
  have hN1 := (Below.heap_alloc _ (.cells (E.map cw).toArray 59) (w.heap.size + 1) (by simp)).trans (heap_alloc2_new w (.cells (bgL E k).toArray 62) (.cells (bcells (zeros 32)) 27))
  have hN0 := (Below.heap_alloc _ (.cells (E.map cw).toArray 59) w.heap.size (by simp; omega)).trans (heap_alloc2_old w (.cells (bgL E k).toArray 62) (.cells (bcells (zeros 32)) 27))
  have hx : Ext w (((w.alloc (.cells (bgL E k).toArray 62)).alloc (.cells (bcells (zeros 32)) 27)).alloc (.cells (E.map cw).toArray 59)) := by go_grown
  have hsz : (((w.alloc (.cells (bgL E k).toArray 62)).alloc (.cells (bcells (zeros 32)) 27)).alloc (.cells (E.map cw).toArray 59)).heap.size = w.heap.size + 3 := by simp
  rw [hEm, bcells_zeros] at hN2 hN1 hN0 hx hsz
  have hb := h.ext hx
  replace h := hide h
  replace hb := hide hb
  replace hE := hide hE
  replace hEm := hide hEm
  replace hN0 := hide hN0
  replace hN1 := hide hN1
  replace hN2 := hide hN2
  replace hsz := hide hsz
  clear e2
  go_enter Try.func43, Try.ntmps43
  go_wp2_with (go_at_call 47; (refine (followed_any a n cap c hn _ hb.out hnil).mono ?_); rintro e w1 ⟨gF, cF, rfl, hown, hx1⟩)
  have hsz := hsz.out
  have hN0 := (hx1.block w.heap.size (by omega)).trans hN0.out
  have hN1 := (hx1.block (w.heap.size + 1) (by omega)).trans hN1.out
  have hN2 := (hx1.block (w.heap.size + 1 + 1) (by omega)).trans hN2.out
  have hx2 := hx.then hx1
  have hgF : w.heap.size + 3 ≤ gF := by
    rcases hown.2 with ⟨h, _⟩ | ⟨g, cap7, cur, h, hb, _⟩
    · cases h
    · simp only [Value.slice.injEq, Option.some.injEq, Addr.mk.injEq] at h
      omega
  have hgFlt : gF < w1.heap.size := (hown.lt gF rfl).2
  have hFc : ∀ j, j < (followedL c).length → w1.cell? ⟨gF, j, none⟩ = some (cb ((followedL c).getD j 0)) := by
    intro j hj
    rw [hown.cellAt j (by omega), List.getElem?_map, getD_of _ 0 j hj]; rfl
  have hFlen := length_followedL c
  have hcapF : (followedL c).length ≤ cF ∧ cF ≤ maxLen := by
    rcases hown.2 with ⟨h, _⟩ | ⟨g, cap7, cur, h, hb, _, hcc, hcm, _⟩
    · cases h
    · simp only [Value.slice.injEq] at h
      omega
  have hsum : sumK k E c = (blocksF k ((followedL c).length / 64) E (followedL c)).flatMap be4 := rfl
  have hL64 : (followedL c).length % 64 = 0 := by rw [hFlen]; unfold zerosN; omega
  have hLbig : (followedL c).length ≤ 1000100 := by rw [hFlen, h.out.1]; unfold zerosN; omega
  generalize followedL c = F at *
  obtain ⟨N, hN⟩ : ∃ N, N = w.heap.size := ⟨_, rfl⟩
  rw [← hEm.out] at hN2
  rw [← bcells_zeros] at hN1
  clear hx1 hx hsz hbg hex x0 x1 x2 x3 x4 x5 x6 x7 hown hFlen
  replace hb := hide True.intro
  obtain ⟨g0, hg0⟩ : ∃ g, g = w.heap.size := ⟨_, rfl⟩
  obtain ⟨g1, hg1⟩ : ∃ g, g = w.heap.size + 1 := ⟨_, rfl⟩
  obtain ⟨g2, hg2⟩ : ∃ g, g = w.heap.size + 1 + 1 := ⟨_, rfl⟩
  rw [← hg2] at hN2 ⊢
  rw [← hg1] at hN1 ⊢
  rw [← hg0] at hN0 ⊢
  have hrs : RS w w1 g0 g1 g2 gF E k F (blocksF k 0 E F) := ⟨hN0, hN1, hN2, hFc, hx2⟩
  have o1 : g0 < g2 ∧ g1 < g2 ∧ g2 < gF ∧ w.heap.size ≤ g2 ∧ w.heap.size ≤ g1 := by omega
  obtain ⟨o0, o1, o2, ow, ow1⟩ := o1
  replace hg0 := hide hg0
  replace hg1 := hide hg1
  replace hg2 := hide hg2
  obtain ⟨hcF, hcM⟩ := hcapF
  clear hN0 hN1 hN2 hFc hx2 hgF
  go_loopw [6] (fun s6 wr => ∃ (t q cap' : Nat) (a' : Option Addr), q + 64 * t = F.length ∧ q ≤ cap' ∧ cap' ≤ maxLen ∧ s6 = .slice a' q cap' ∧ (0 < q → a' = some ⟨gF, 64 * t, none⟩) ∧ RS w wr g0 g1 g2 gF E k F (blocksF k t E F) ∧ gF < wr.heap.size) (fun s _ => (match s with | .slice _ q _ => q | _ => 0))
  case atStart => exact ⟨0, F.length, cF, _, by omega, hcF, hcM, rfl, fun _ => rfl, hrs, hgFlt⟩
  case round =>
    clear hrs hcF hcM
    obtain ⟨t, q, cap', a', hq, hqc, hcm, rfl, ha, hrs, hgw⟩ := hrel
    obtain ⟨w2, rfl⟩ : ∃ w2, w2 = wr := ⟨_, rfl⟩
    by_cases hq0 : 0 < q
    · have hq0' : (0 : Int) < q := by omega
      obtain rfl := ha hq0
      have hq64 : 64 ≤ q := by omega
      have hq64' : (64 : Int) ≤ q := by omega
      obtain ⟨blk, hblk⟩ : ∃ blk, blk = (F.drop (64 * t)).take 64 := ⟨_, rfl⟩
      have hbl : blk.length = 64 := by rw [hblk]; simp; omega
      have hba : ∀ j, j < 64 → blk.getD j 0 = F.getD (64 * t + j) 0 := by
        intro j hj
        rw [hblk]
        simp only [List.getD, List.getElem?_take_of_lt hj, List.getElem?_drop]
      have hst := blocksF_snoc k t E F
      rw [← hblk] at hst
      have hl8 := length_blocksF k t E F he0
      generalize blocksF k t E F = e8 at hrs hst hl8
      generalize he9 : blocksF k (t + 1) E F = e9 at hst
      replace he9 := hide he9
      obtain ⟨o, ho⟩ : ∃ o, o = 64 * t := ⟨_, rfl⟩
      rw [← ho] at hba
      replace hblk := hide hblk
      replace hst := hide hst
      have hW := heap_alloc_new w2 (.cells (padW []).toArray 60)
      have hbW : Below w2.heap.size w2 (w2.alloc (.cells (padW []).toArray 60)) := (Below.refl _ _).alloc (Nat.le_refl _) _
      rw [← ho]
      replace ho := hide ho
      replace hW := hide hW
      go_wp2_with fail
      change Code.wp _ _ _ _ (w2.alloc (.cells (padW []).toArray 60))
      obtain ⟨gw, hgw1⟩ : ∃ g, g = w2.heap.size := ⟨_, rfl⟩
      have hW := hW.out
      rw [← hgw1] at hW hbW hgw ⊢
      have hrsW : RS w (w2.alloc (.cells (padW []).toArray 60)) g0 g1 g2 gF E k F e8 := hrs.below hbW (by omega) (by omega) (by omega) hgw (by omega)
      have hgwlt : gw < (w2.alloc (.cells (padW []).toArray 60)).heap.size := by simp; omega
      generalize w2.alloc (.cells (padW []).toArray 60) = W at *
      replace hgw1 := hide hgw1
      clear hrs hbW
      go_loopw [8] (fun s8 wr => ∃ i : Nat, i ≤ 64 ∧ s8 = .int .i64 i ∧ wr.heap[gw]? = some (.cells (padW (schedL blk i)).toArray 60 (0, 0)) ∧ Below gw W wr) (fun s _ => (64 - intOf s).toNat)
      case atStart => exact ⟨0, by omega, rfl, hW, Below.refl _ _⟩
      case round =>
        clear hW
        obtain ⟨i, hi, rfl, hW, hbw⟩ := hrel
        obtain ⟨w3, rfl⟩ : ∃ w3, w3 = wr := ⟨_, rfl⟩
        by_cases hlt : i < 64
        · have hlt' : (i : Int) < 64 := by omega
          have hi0 : (0 : Int) ≤ i := by omega
          by_cases h16 : i < 16
          · have h16' : (i : Int) < 16 := by omega
            obtain ⟨p, hp⟩ : ∃ p, p = 4 * i := ⟨_, rfl⟩
            have j1 : IntKind.i64.wrap (4 * (i : Int)) = p := by rw [IntKind.wrap_i64]; omega
            have j2 : (4 : Int) * (i : Int) = p := by omega
            have j3 : (0 : Int) ≤ p := by omega
            have j4 : (p : Int) ≤ p + 4 := by omega
            have j5 : (p : Int) + 4 ≤ cap' := by omega
            have j6 : ((p : Int) + 4).toNat = p + 4 := by omega
            have j7 : ¬ cap' = p := by omega
            have j8 : (p : Int) + 4 ≤ 64 := by omega
            have hrs3 := hrsW.below hbw (by omega) (by omega) (by omega) hgw (by omega)
            have hbytes : BytesIn w3 (some ⟨gF, o + p, none⟩) 4 [F.getD (o + p) 0, F.getD (o + p + 1) 0, F.getD (o + p + 2) 0, F.getD (o + p + 3) 0] := by
              refine ⟨rfl, fun _ => ⟨_, rfl, fun j hj => ?_⟩⟩
              rw [add_flat, hrs3.f (o + p + j) (by have := ho.out; omega)]
              rcases (by omega : j = 0 ∨ j = 1 ∨ j = 2 ∨ j = 3) with rfl | rfl | rfl | rfl <;> rfl
            have hword : UInt32.ofNat (getN [F.getD (o + p) 0, F.getD (o + p + 1) 0, F.getD (o + p + 2) 0, F.getD (o + p + 3) 0]) = wordAt blk i := by
              rw [getN_4, wordAt, ← hp, hba p (by omega), hba (p + 1) (by omega), hba (p + 2) (by omega), hba (p + 3) (by omega)]; rfl
            have hget := get_any (some ⟨gF, o + p, none⟩) 4 (cap' - p) _ (by omega) w3 hbytes
            have hwr := wd_wrap (getN [F.getD (o + p) 0, F.getD (o + p + 1) 0, F.getD (o + p + 2) 0, F.getD (o + p + 3) 0])
            rw [hword] at hwr
            generalize getN [F.getD (o + p) 0, F.getD (o + p + 1) 0, F.getD (o + p + 2) 0, F.getD (o + p + 3) 0] = G at hget hwr
            have hwr2 : (G : Int) % 4294967296 = ((wordAt blk i).toNat : Int) := by rw [← hwr, IntKind.wrap_u32]
            have hsch : schedL blk (i + 1) = schedL blk i ++ [wordAt blk i] := by rw [schedL, if_pos h16]
            generalize wordAt blk i = x at *
            have c1 := cell_blk hW i
            have c2 := free_blk hW i
            rw [getD_of _ undef i (by simp [padW, length_schedL]; omega)] at c1
            replace hget := hide hget
            replace hsch := hide hsch
            clear hp hword hbytes hrs3
            go_wp2_with (go_at_call 48; (refine hget.out.mono ?_); rintro e w4 ⟨rfl, m4, rfl⟩)
            go_roundw
            case rel =>
              refine ⟨i + 1, by omega, by go_num, ?_, Below.setCell (p := ⟨gw, i, none⟩) (below_drewN hbw m4) (Nat.le_refl _) _⟩
              rw [heap_setCell (w := w3.drewN m4) hW, hsch.out]
              have := pad_set (schedL blk i) x (by rw [length_schedL]; omega)
              rw [length_schedL] at this
              exact congrArg (fun A => some (Obj.cells A _ _)) this
            case measure => simp [intOf]; omega
          · have h16' : ¬ (i : Int) < 16 := by omega
            have hlen := length_schedL blk i
            obtain ⟨n2, h2⟩ : ∃ n, n = i - 2 := ⟨_, rfl⟩
            obtain ⟨n7, h7⟩ : ∃ n, n = i - 7 := ⟨_, rfl⟩
            obtain ⟨n15, h15⟩ : ∃ n, n = i - 15 := ⟨_, rfl⟩
            obtain ⟨n16, h16e⟩ : ∃ n, n = i - 16 := ⟨_, rfl⟩
            have k2 : IntKind.i64.wrap ((i : Int) - 2) = n2 := by rw [IntKind.wrap_i64]; omega
            have k7 : IntKind.i64.wrap ((i : Int) - 7) = n7 := by rw [IntKind.wrap_i64]; omega
            have k15 : IntKind.i64.wrap ((i : Int) - 15) = n15 := by rw [IntKind.wrap_i64]; omega
            have k16 : IntKind.i64.wrap ((i : Int) - 16) = n16 := by rw [IntKind.wrap_i64]; omega
            have j2 : (i : Int) - 2 = n2 := by omega
            have j7 : (i : Int) - 7 = n7 := by omega
            have j15 : (i : Int) - 15 = n15 := by omega
            have j16 : (i : Int) - 16 = n16 := by omega
            have l2 : (n2 : Int) < 64 ∧ (0 : Int) ≤ n2 := by omega
            have l7 : (n7 : Int) < 64 ∧ (0 : Int) ≤ n7 := by omega
            have l15 : (n15 : Int) < 64 ∧ (0 : Int) ≤ n15 := by omega
            have l16 : (n16 : Int) < 64 ∧ (0 : Int) ≤ n16 := by omega
            have v7 : IntKind.i64.wrap (n7 : Int) = n7 := by rw [IntKind.wrap_i64]; omega
            have v16 : IntKind.i64.wrap (n16 : Int) = n16 := by rw [IntKind.wrap_i64]; omega
            obtain ⟨l2, l2'⟩ := l2
            obtain ⟨l7, l7'⟩ := l7
            obtain ⟨l15, l15'⟩ := l15
            obtain ⟨l16, l16'⟩ := l16
            have d2 := (cell_blk hW n2).trans (pad_at _ _ (by omega))
            have d7 := (cell_blk hW n7).trans (pad_at _ _ (by omega))
            have d15 := (cell_blk hW n15).trans (pad_at _ _ (by omega))
            have d16 := (cell_blk hW n16).trans (pad_at _ _ (by omega))
            obtain ⟨vt, hvt⟩ := pad_in (schedL blk i) i (by omega) hlt
            have dt := (cell_blk hW i).trans hvt
            have ft := free_blk hW i
            clear hvt
            have hnext : nextW (schedL blk i) i = nextOf ((schedL blk i).getD n2 0) ((schedL blk i).getD n7 0) ((schedL blk i).getD n15 0) ((schedL blk i).getD n16 0) := by rw [nextW, h2, h7, h15, h16e]
            generalize (schedL blk i).getD n2 0 = x2 at d2 hnext
            generalize (schedL blk i).getD n7 0 = x7 at d7 hnext
            generalize (schedL blk i).getD n15 0 = x15 at d15 hnext
            generalize (schedL blk i).getD n16 0 = x16 at d16 hnext
            replace hnext := hide hnext
            clear h2 h7 h15 h16e hlen
            go_wp2_with fail
            go_quiet (fail)
            go_wp2_with fail
            replace hW : (w3.drewN nq).heap[gw]? = _ := hW
            replace hbw : Below gw W (w3.drewN nq) := below_drewN hbw nq
            replace d7 : (w3.drewN nq).cell? _ = _ := d7
            replace d16 : (w3.drewN nq).cell? _ = _ := d16
            replace dt : (w3.drewN nq).cell? _ = _ := dt
            replace ft : (w3.drewN nq).frozen? _ = _ := ft
            clear d2 d15
            generalize w3.drewN nq = w4 at *
            replace hW : w4.drew.heap[gw]? = _ := hW
            replace hbw : Below gw W w4.drew := hbw.trans ⟨rfl, rfl, rfl, Nat.le_refl _, fun _ _ => rfl⟩
            replace d7 : w4.drew.cell? _ = _ := d7
            replace d16 : w4.drew.cell? _ = _ := d16
            replace dt : w4.drew.cell? _ = _ := dt
            replace ft : w4.drew.frozen? _ = _ := ft
            go_still_tail 29, (by kernel_rfl)
            still_call (refRot_any x2 17 (by decide) (by decide) _)
            repeat still_step
            still_call (refRot_any x2 19 (by decide) (by decide) _)
            repeat still_step
            still_call (refRot_any x15 7 (by decide) (by decide) _)
            repeat still_step
            still_call (refRot_any x15 18 (by decide) (by decide) _)
            repeat still_step
            try refine wpStill_nil ?_
            change wpList _ _ _ _ _ w4.drew
            generalize w4.drew = w5 at *
            go_wp2_with fail
            go_roundw
            case rel =>
              refine ⟨i + 1, by omega, by go_num, ?_, Below.setCell (p := ⟨gw, i, none⟩) hbw (Nat.le_refl _) _⟩
              rw [heap_setCell hW, schedL, if_neg h16, hnext.out]
              have := pad_set (schedL blk i) (nextOf x2 x7 x15 x16) (by rw [length_schedL]; omega)
              rw [length_schedL] at this
              rw [← this]
              rfl
            case measure => simp [intOf]; omega
        · obtain rfl : i = 64 := by omega
          rw [show ((64 : Nat) : Int) = 64 from rfl]
          have hrs3 := hrsW.below hbw (by omega) (by omega) (by omega) hgw (by omega)
          have c0 := e8_at e8 hl8 hrs3.e 0 (by omega)
          have c1 := e8_at e8 hl8 hrs3.e 1 (by omega)
          have c2 := e8_at e8 hl8 hrs3.e 2 (by omega)
          have c3 := e8_at e8 hl8 hrs3.e 3 (by omega)
          have c4 := e8_at e8 hl8 hrs3.e 4 (by omega)
          have c5 := e8_at e8 hl8 hrs3.e 5 (by omega)
          have c6 := e8_at e8 hl8 hrs3.e 6 (by omega)
          have c7 := e8_at e8 hl8 hrs3.e 7 (by omega)
          have hvof : V8.of e8 = ⟨e8.getD 0 0, e8.getD 1 0, e8.getD 2 0, e8.getD 3 0, e8.getD 4 0, e8.getD 5 0, e8.getD 6 0, e8.getD 7 0⟩ := rfl
          generalize e8.getD 0 0 = p0 at *
          generalize e8.getD 1 0 = p1 at *
          generalize e8.getD 2 0 = p2 at *
          generalize e8.getD 3 0 = p3 at *
          generalize e8.getD 4 0 = p4 at *
          generalize e8.getD 5 0 = p5 at *
          generalize e8.getD 6 0 = p6 at *
          generalize e8.getD 7 0 = p7 at *
          go_wp2_with fail
          go_cut [11, 12, 13, 14, 15, 16, 17, 18] from 89 to 104 (fun s11 s12 s13 s14 s15 s16 s17 s18 wx => s11 = .int .u32 (p0.toNat : Int) ∧ s12 = .int .u32 (p1.toNat : Int) ∧ s13 = .int .u32 (p2.toNat : Int) ∧ s14 = .int .u32 (p3.toNat : Int) ∧ s15 = .int .u32 (p4.toNat : Int) ∧ s16 = .int .u32 (p5.toNat : Int) ∧ s17 = .int .u32 (p6.toNat : Int) ∧ s18 = .int .u32 (p7.toNat : Int) ∧ ∃ nq, wx = w3.drewN nq)
          case first =>
            (try clear hba); (try clear hW); (try clear hbw); (try clear hrsW); (try clear hk); (try clear hn); (try clear he0); (try clear hl8); (try clear hbl); (try clear hsum); (try clear hL64); (try clear hLbig); (try clear hrs3); (try clear hq); (try clear hqc); (try clear hcm); (try clear ha); (try clear hgwlt); (try clear hgw); (try clear hq64); (try clear hq64'); (try clear hq0); (try clear hq0'); (try clear hnil); (try clear o0); (try clear o1); (try clear o2); (try clear ow); (try clear ow1); (try clear hpw)
            go_quiet (fail)
            go_wp2_with fail
            go_meet
            exact ⟨rfl, rfl, rfl, rfl, rfl, rfl, rfl, rfl, nq, rfl⟩
          case rest =>
          obtain ⟨rfl, rfl, rfl, rfl, rfl, rfl, rfl, rfl, nq, rfl⟩ := hcut
          clear c0 c1 c2 c3 c4 c5 c6 c7
          go_wp2_with fail
          have hw3 : ∀ j, j < 64 → w3.cell? ⟨gw, j, none⟩ = some (.int .u32 (((schedL blk 64).getD j 0).toNat : Int)) := fun j hj => (cell_blk hW j).trans (pad_at _ _ (by rw [length_schedL]; exact hj))
          have hk3 : ∀ j, j < 64 → w3.cell? ⟨g0, 8 + j, none⟩ = some (.int .u32 ((k.getD j 0).toNat : Int)) := fun j hj => (cell_blk hrs3.bg (8 + j)).trans (bg_k he0 hk j hj)
          replace hw3 := hide hw3
          replace hk3 := hide hk3
          go_loopw [11, 12, 13, 14, 15, 16, 17, 18, 19] (fun s11 s12 s13 s14 s15 s16 s17 s18 s19 wr => ∃ (i m : Nat) (v : V8), i ≤ 64 ∧ s19 = .int .i64 i ∧ v = roundsV k (schedL blk 64) (V8.of e8) i ∧ s11 = .int .u32 (v.a.toNat : Int) ∧ s12 = .int .u32 (v.b.toNat : Int) ∧ s13 = .int .u32 (v.c.toNat : Int) ∧ s14 = .int .u32 (v.d.toNat : Int) ∧ s15 = .int .u32 (v.e.toNat : Int) ∧ s16 = .int .u32 (v.f.toNat : Int) ∧ s17 = .int .u32 (v.g.toNat : Int) ∧ s18 = .int .u32 (v.h.toNat : Int) ∧ wr = w3.drewN m) (fun _ _ _ _ _ _ _ _ s _ => (64 - intOf s).toNat)
          case atStart => exact ⟨0, nq, _, by omega, rfl, hvof.symm, rfl, rfl, rfl, rfl, rfl, rfl, rfl, rfl, rfl⟩
          case round =>
            obtain ⟨i, m, v, hi, rfl, hv, rfl, rfl, rfl, rfl, rfl, rfl, rfl, rfl, hwr⟩ := hrel
            obtain ⟨w5, rfl⟩ : ∃ w5, w5 = wr := ⟨_, rfl⟩
            replace hvof := hide hvof
            by_cases hlt : i < 64
            · have hlt' : (i : Int) < 64 := by omega
              have hi0 : (0 : Int) ≤ i := by omega
              have dk : w5.cell? ⟨g0, 8 + i, none⟩ = some (.int .u32 ((k.getD i 0).toNat : Int)) := by rw [hwr]; exact hk3.out i hlt
              have dw : w5.cell? ⟨gw, i, none⟩ = some (.int .u32 (((schedL blk 64).getD i 0).toNat : Int)) := by rw [hwr]; exact hw3.out i hlt
              have hstep : roundsV k (schedL blk 64) (V8.of e8) (i + 1) = stepV v (k.getD i 0) ((schedL blk 64).getD i 0) := by rw [hv]; rfl
              generalize k.getD i 0 = kt at dk hstep
              generalize (schedL blk 64).getD i 0 = wt at dw hstep
              replace hstep := hide hstep
              replace hv := hide hv
              replace hwr := hide hwr
              have hr2 : Hid (∀ w, Calls Try.prog 49 #[.int .u32 (v.a.toNat : Int), .int .u64 2] w fun e w' => e = .returned (.int .u32 ((rotr v.a 2).toNat : Int)) ∧ w' = w) := hide fun w => refRot_any v.a 2 (by decide) (by decide) w
              have hr13 : Hid (∀ w, Calls Try.prog 49 #[.int .u32 (v.a.toNat : Int), .int .u64 13] w fun e w' => e = .returned (.int .u32 ((rotr v.a 13).toNat : Int)) ∧ w' = w) := hide fun w => refRot_any v.a 13 (by decide) (by decide) w
              have hr22 : Hid (∀ w, Calls Try.prog 49 #[.int .u32 (v.a.toNat : Int), .int .u64 22] w fun e w' => e = .returned (.int .u32 ((rotr v.a 22).toNat : Int)) ∧ w' = w) := hide fun w => refRot_any v.a 22 (by decide) (by decide) w
              go_wp2_with fail
              go_cut [20] from 109 to 136 (fun s20 wx => s20 = .int .u32 ((oneOf v kt wt).toNat : Int) ∧ ∃ nq, wx = w5.drewN nq)
              case first =>
                (try clear hba); (try clear hW); (try clear hbw); (try clear hrsW); (try clear hk); (try clear hn); (try clear he0); (try clear hl8); (try clear hbl); (try clear hsum); (try clear hL64); (try clear hLbig); (try clear hrs3); (try clear hq); (try clear hqc); (try clear hcm); (try clear ha); (try clear hgwlt); (try clear hgw); (try clear hq64); (try clear hq64'); (try clear hq0); (try clear hq0'); (try clear hnil); (try clear o0); (try clear o1); (try clear o2); (try clear ow); (try clear ow1); (try clear hpw)
                have hq6 : Hid (∀ w, Calls Try.prog 49 #[.int .u32 (v.e.toNat : Int), .int .u64 6] w fun e w' => e = .returned (.int .u32 ((rotr v.e 6).toNat : Int)) ∧ w' = w) := hide fun w => refRot_any v.e 6 (by decide) (by decide) w
                have hq11 : Hid (∀ w, Calls Try.prog 49 #[.int .u32 (v.e.toNat : Int), .int .u64 11] w fun e w' => e = .returned (.int .u32 ((rotr v.e 11).toNat : Int)) ∧ w' = w) := hide fun w => refRot_any v.e 11 (by decide) (by decide) w
                have hq25 : Hid (∀ w, Calls Try.prog 49 #[.int .u32 (v.e.toNat : Int), .int .u64 25] w fun e w' => e = .returned (.int .u32 ((rotr v.e 25).toNat : Int)) ∧ w' = w) := hide fun w => refRot_any v.e 25 (by decide) (by decide) w
                go_quiet (first | (go_at_call 49; with_reducible exact Calls.quiet_of_same (hq6.out _)) | (go_at_call 49; with_reducible exact Calls.quiet_of_same (hq11.out _)) | (go_at_call 49; with_reducible exact Calls.quiet_of_same (hq25.out _)))
                go_wp2_with fail
                go_meet
                exact ⟨by rw [w_add4]; rfl, nq, rfl⟩
              case rest =>
                obtain ⟨rfl, nq2, rfl⟩ := hcut
                go_wp2_with (first | (go_at_call 49; (with_reducible refine (hr2.out _).mono ?_); rintro e w6 ⟨rfl, rfl⟩) | (go_at_call 49; (with_reducible refine (hr13.out _).mono ?_); rintro e w6 ⟨rfl, rfl⟩) | (go_at_call 49; (with_reducible refine (hr22.out _).mono ?_); rintro e w6 ⟨rfl, rfl⟩))
                go_roundw
                case rel => exact ⟨i + 1, m + nq2, stepV v kt wt, by omega, by go_num, hstep.out.symm, rfl, rfl, rfl, rfl, rfl, rfl, rfl, rfl, by rw [hwr.out, World.drewN_drewN]⟩
                case measure => simp [intOf]; omega
            · obtain rfl : i = 64 := by omega
              clear hlt hi
              rw [show ((64 : Nat) : Int) = 64 from rfl]
              have hrs5 : RS w w5 g0 g1 g2 gF E k F e8 := by rw [hwr]; exact hrs3.below (B := gw) (below_drewN (Below.refl _ _) m) (by omega) (by omega) (by omega) hgw (by omega)
              have hF5 : gF < w5.heap.size := by
                have h1 := hbw.size
                rw [hwr]; show gF < w3.heap.size; omega
              have hcomp : compress k e8 blk = mixE e8 v.list 8 := by rw [mix_addL e8 v.list hl8 rfl, hv]; rfl
              clear hv hwr hw3 hk3 hvof hrs3 hbw hW hrsW
              have hV6 := heap_alloc_new w5 (.cells (v8c v) 59)
              have hb6 : Below w5.heap.size w5 (w5.alloc (.cells (v8c v) 59)) := (Below.refl _ _).alloc (Nat.le_refl _) _
              have hrs6 := hrs5.below hb6 (by omega) (by omega) (by omega) hF5 (by omega)
              replace hV6 := hide hV6
              replace hb6 := hide hb6
              go_wp2_with fail
              change Code.wp _ _ _ _ (w5.alloc (.cells (v8c v) 59))
              have hV6 := hV6.out
              have hF6 : gF < (w5.alloc (.cells (v8c v) 59)).heap.size := by simp; omega
              obtain ⟨gv, hgv⟩ : ∃ g, g = w5.heap.size := ⟨_, rfl⟩
              rw [← hgv] at hV6 ⊢
              generalize w5.alloc (.cells (v8c v) 59) = w6 at *
              replace hcomp := hide hcomp
              have hgvF : gF < gv := by omega
              clear hb6
              replace hgv := hide hgv
              go_loopw [23] (fun s23 wr => ∃ i : Nat, i ≤ 8 ∧ s23 = .int .i64 i ∧ RS w wr g0 g1 g2 gF E k F (mixE e8 v.list i) ∧ wr.heap[gv]? = some (.cells (v8c v) 59 (0, 0)) ∧ gF < wr.heap.size) (fun s _ => (8 - intOf s).toNat)
              case atStart => exact ⟨0, by omega, rfl, hrs6, hV6, hF6⟩
              case round =>
                clear hrs6 hV6 hF6
                obtain ⟨i, hi, rfl, hrs6, hV6, hF6⟩ := hrel
                obtain ⟨w7, rfl⟩ : ∃ w7, w7 = wr := ⟨_, rfl⟩
                have hml := length_mixE e8 v.list i
                rw [hl8] at hml
                by_cases hlt : i < 8
                · have hlt' : (i : Int) < 8 := by omega
                  have hi0 : (0 : Int) ≤ i := by omega
                  have d1 := e8_at _ hml hrs6.e i hlt
                  rw [mixE_at e8 v.list i i (Nat.le_refl _)] at d1
                  have d2 := (cell_of_row w7 gv i _ _ _ hV6).trans (v8c_at v i hlt)
                  have f1 := free_blk hrs6.e i
                  have hmix : mixE e8 v.list (i + 1) = (mixE e8 v.list i).set i (addW (e8.getD i 0) (v.list.getD i 0)) := rfl
                  generalize e8.getD i 0 = x at d1 hmix
                  generalize v.list.getD i 0 = y at d2 hmix
                  replace hmix := hide hmix
                  replace hml := hide hml
                  replace d1 : w7.drew.cell? _ = _ := d1
                  replace d2 : w7.drew.cell? _ = _ := d2
                  replace f1 : w7.drew.frozen? _ = _ := f1
                  go_wp2_with fail
                  go_still_tail 9, (by kernel_rfl)
                  change wpList _ _ _ _ _ w7.drew
                  have hrs7 : RS w w7.drew g0 g1 g2 gF E k F (mixE e8 v.list i) := ⟨hrs6.bg, hrs6.z, hrs6.e, hrs6.f, hrs6.x.trans ⟨rfl, rfl, rfl, Nat.le_refl _, fun _ _ => rfl⟩⟩
                  replace hV6 : w7.drew.heap[gv]? = _ := hV6
                  replace hF6 : gF < w7.drew.heap.size := hF6
                  clear hrs6
                  generalize w7.drew = w8 at *
                  go_wp2_with fail
                  go_roundw
                  case rel =>
                    refine ⟨i + 1, by omega, by go_num, ?_, (Below.heap_setCell _ _ _ _ (by show gv ≠ g2; omega)).trans hV6, by simpa [World.setCell] using hF6⟩
                    rw [hmix.out]
                    exact hrs7.setE (by omega) (by omega) (by omega) ow i (addW x y)
                  case measure => simp [intOf]; omega
                · obtain rfl : i = 8 := by omega
                  rw [show ((8 : Nat) : Int) = 8 from rfl]
                  have hfin : RS w w7 g0 g1 g2 gF E k F e9 := by rw [hst.out, hcomp.out]; exact hrs6
                  clear hrs6
                  go_wp2_with fail
                  go_roundw
                  case rel =>
                    refine ⟨t + 1, q - 64, cap' - 64, _, by have := ho.out; omega, by omega, by omega, rfl, ?_, he9.out ▸ hfin, hF6⟩
                    intro hq1
                    rw [if_neg (by omega)]
                    congr 2
                    have := ho.out
                    omega
                  case measure => show q - 64 < q; omega
    · obtain rfl : q = 0 := by omega
      have hB : F.length / 64 = t := by omega
      rw [hB] at hsum
      have hl8 := length_blocksF k t E F he0
      generalize blocksF k t E F = e8 at *
      have hlen8 := length_be4s e8
      rw [hl8] at hlen8
      have hO := heap_alloc_new w2 (.cells (outC e8 0).toArray 27)
      have hbO : Below w2.heap.size w2 (w2.alloc (.cells (outC e8 0).toArray 27)) := (Below.refl _ _).alloc (Nat.le_refl _) _
      have hrsO := hrs.below hbO (by omega) (by omega) (by omega) hgw (by omega)
      have hOz : (outC e8 0).toArray = bcells (zeros 32) := rfl
      rw [hOz] at hO hbO hrsO
      rw [bcells_zeros] at hO hbO hrsO
      replace hO := hide hO
      replace hbO := hide hbO
      go_wp2_with fail
      have hO := hO.out
      have hbO := hbO.out
      rw [← bcells_zeros, ← hOz] at hO hbO hrsO ⊢
      have hOlt : w2.heap.size < (w2.alloc (.cells (outC e8 0).toArray 27)).heap.size := by simp
      obtain ⟨go, hgo⟩ : ∃ g, g = w2.heap.size := ⟨_, rfl⟩
      rw [← hgo] at hO hbO hOlt hgw ⊢
      generalize w2.alloc (.cells (outC e8 0).toArray 27) = W at *
      replace hgo := hide hgo
      clear hrs hbO hOz
      go_loopw [25] (fun s25 wr => ∃ i : Nat, i ≤ 8 ∧ s25 = .int .i64 i ∧ wr.heap[go]? = some (.cells (outC e8 (4 * i)).toArray 27 (0, 0)) ∧ Below go W wr) (fun s _ => (8 - intOf s).toNat)
      case atStart => exact ⟨0, by omega, rfl, hO, Below.refl _ _⟩
      case round =>
        clear hO
        obtain ⟨i, hi, rfl, hO, hbO⟩ := hrel
        obtain ⟨w3, rfl⟩ : ∃ w3, w3 = wr := ⟨_, rfl⟩
        have hrs3 := hrsO.below hbO (by omega) (by omega) (by omega) hgw (by omega)
        by_cases hlt : i < 8
        · have hlt' : (i : Int) < 8 := by omega
          have hi0 : (0 : Int) ≤ i := by omega
          obtain ⟨p, hp⟩ : ∃ p, p = 4 * i := ⟨_, rfl⟩
          have j1 : IntKind.i64.wrap (4 * (i : Int)) = p := by rw [IntKind.wrap_i64]; omega
          have j2 : (4 : Int) * (i : Int) = p := by omega
          have j3 : (0 : Int) ≤ p := by omega
          have j4 : (p : Int) ≤ 32 := by omega
          have j7 : ¬ 32 = p := by omega
          have j5 : IntKind.i64.wrap (p : Int) = p := by rw [IntKind.wrap_i64]; omega
          have hspl := out_splice e8 hl8 i hlt
          have hol := length_outC e8 (4 * i) hl8 (by omega)
          rw [← hp] at hspl hO hol
          have d1 := e8_at e8 hl8 hrs3.e i hlt
          have hlt3 : go < w3.heap.size := lt_of_block hO
          have hput : Hid (∀ w, Calls Try.prog 50 #[.int .u64 ((e8.getD i 0).toNat : Int), .int .i64 4] w fun r w' => ∃ g cap, r = .returned (.slice (some ⟨g, 0, none⟩) 4 cap) ∧ w'.ownsRow w.heap.size 5 1 (.slice (some ⟨g, 0, none⟩) 4 cap) 4 ((be4 (e8.getD i 0)).map cb) ∧ Ext w w') := hide fun w => by
            have h1 := UInt32.toNat_lt (e8.getD i 0)
            have := put_any (e8.getD i 0).toNat 4 (by omega) (by omega) (by omega) w
            rw [putL_4] at this
            exact this
          have hbl : (be4 (e8.getD i 0)).length = 4 := rfl
          have hxw : IntKind.u64.wrap ((e8.getD i 0).toNat : Int) = ((e8.getD i 0).toNat : Int) := by
            have h1 := UInt32.toNat_lt (e8.getD i 0)
            rw [IntKind.wrap_u64]; omega
          generalize e8.getD i 0 = x at *
          generalize hbx : be4 x = bx at *
          replace hbx := hide hbx
          replace hspl := hide hspl
          replace hp := hide hp
          have hO : w3.drew.heap[go]? = some (.cells (outC e8 p).toArray 27 (0, 0)) := hO
          have hbO : Below go W w3.drew := hbO.trans ⟨rfl, rfl, rfl, Nat.le_refl _, fun _ _ => rfl⟩
          replace d1 : w3.drew.cell? _ = _ := d1
          clear hrs3
          go_wp2_with fail
          go_region_law (first | (refine step_copy_splice rfl _ _ 28 28 rfl 5 Try.underlying28 (by kernel_rfl) (some ⟨go, p, none⟩) (some ⟨gp, 0, none⟩) (32 - p) (32 - p) 4 cp (by simp [Act.eval, Act.put]) (by simp [Act.eval, Act.put]) go p (outC e8 p) 27 hO4 (bx.map cb) (by rw [List.length_map, hbl]; exact (Nat.min_eq_left (by omega)).symm) (fun _ => ⟨rfl, _, rfl, hown4.cells rfl⟩) (by rw [List.length_map, hbl, hol]; omega) (by intro v hv; simp only [List.mem_map] at hv; obtain ⟨y, _, rfl⟩ := hv; rfl) go W hbO4 (Nat.le_refl _) ?_; intro w5 hO5 hb5) | (go_simp; go_at_call 50; (with_reducible refine (hput.out _).mono ?_); rintro e w4 ⟨gp, cp, rfl, hown4, hx4⟩; have hO4 := (hx4.block go hlt3).trans hO; have hbO4 := hbO.trans (hx4.mono (Nat.le_of_lt hlt3))))
          all_goals
            go_wp2_with fail
            go_roundw
            case rel => exact ⟨i + 1, by omega, by go_num, by rw [hO5.out, hspl.out], hb5⟩
            case measure => simp [intOf]; omega
        · obtain rfl : i = 8 := by omega
          rw [outC_all _ hl8] at hO
          obtain ⟨oo, hoo⟩ : ∃ oo : Bs 32, oo = ⟨e8.flatMap be4, hlen8⟩ := ⟨_, rfl⟩
          have hO : w3.heap[go]? = some (.cells (bcells oo) 27 (0, 0)) := by rw [hoo]; exact hO
          have ho1 : oo.1 = sumK k E c := by rw [hoo, hsum]
          have hres : ∃ o : Bs 32, o.1 = sumK k [q0, q1, q2, q3, q4, q5, q6, q7] c ∧ Ending.returned (.agg (bcells oo)) = Ending.returned (.agg (bcells o)) := ⟨oo, by rw [ho1, hE.out], rfl⟩
          have hres2 : ∃ o : Bs 32, o.1 = sumK k E c ∧ Ending.returned (.agg (bcells oo)) = Ending.returned (.agg (bcells o)) := ⟨oo, ho1, rfl⟩
          replace hres := hide hres
          replace hres2 := hide hres2
          clear hoo ho1
          have hrow := rowAt_whole hO (size_bcells oo)
          have hst := store_over (P := Try.prog) w3 g1 27 32 (bcells oo) _ 27 (size_bcells oo) (size_bcells (zeros 32)) (by kernel_rfl) (one_bcells oo) hrs3.z
          go_wp2_with ((with_reducible show bodyPost _ _ _ _ _ _); refine ret_row (P := Try.prog) 4 27 32 (bcells oo) _ rfl rfl Try.underlying27 rfl (by kernel_rfl) _ _ rfl (rowAt_whole (setRow_heap _ _ _ _ _ _ hrs3.z) (size_bcells oo)) ⟨by first | exact hres.out | exact hres2.out, below_setRow hrs3.x ow1 _⟩)
end Go.Proofs.Ytclghfnmmnnceaa
