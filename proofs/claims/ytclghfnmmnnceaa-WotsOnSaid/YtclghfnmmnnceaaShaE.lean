/- The walk of a stream's end: what follows a message, and the hash. -/
import Derived.Test.YtclghfnmmnnceaaShaA
namespace Go.Proofs.Ytclghfnmmnnceaa
open Go.RowKit
set_option linter.unusedVariables false
set_option linter.unusedSimpArgs false

theorem be8_at (n i : Nat) (h : i < 8) : (be8 n).getD i 0 = UInt8.ofNat (n / 2 ^ (56 - 8 * i)) := by
  match i, h with
  | 0, _ | 1, _ | 2, _ | 3, _ | 4, _ | 5, _ | 6, _ => rfl
  | 7, _ => simp [be8]
theorem StrAt.grown {w w' : World} {g : Nat} {k e0 : List UInt32} {b : List UInt8} {al : Int} (h : StrAt w g k e0 b al) (hb : w'.heap[g]? = w.heap[g]?) : StrAt w' g k e0 b al := by
  obtain ⟨m, h1, h2, h3⟩ := h
  exact ⟨m, h1, h2, hb.trans h3⟩
/-- One byte goes in. -/
theorem add_one (g : Nat) (k e0 : List UInt32) (b : List UInt8) (al : Int) (x : UInt8) (w : World) (N : Nat) (hN : w.heap.size = N) (hk : k.length = 64) (he0 : e0.length = 8) (h : StrAt w g k e0 b al) :
    Calls Try.prog 41 #[.pointer (some ⟨g, 0, none⟩), .slice (some ⟨N, 0, none⟩) 1 1] (w.alloc (.cells #[.int .u8 (x.toNat : Int)] 5)) fun r w' => r = .returned (.tuple #[]) ∧ (∃ al', StrAt w' g k e0 (b ++ [x]) al') ∧ w.grownBy w' (some g) := by
  subst hN
  have hlt : g < w.heap.size := by obtain ⟨m, _, _, h3⟩ := h; exact lt_of_block h3
  have h1 : StrAt (w.alloc (.cells #[.int .u8 (x.toNat : Int)] 5)) g k e0 b al := h.grown (Below.heap_alloc w _ g hlt)
  refine (add_any g k e0 b al (some ⟨w.heap.size, 0, none⟩) 1 1 [x] _ hk he0 h1 ⟨rfl, fun _ => ⟨_, rfl, by show w.heap.size ≠ g; omega, ?_⟩⟩ (Nat.le_refl _) (by unfold maxLen; omega)).mono ?_
  · intro j hj
    obtain rfl : j = 0 := by omega
    show (w.alloc _).cell? ⟨w.heap.size, 0, none⟩ = _
    rw [cell_of_row _ _ 0 _ _ _ (heap_alloc_new w _)]; rfl
  · rintro r w' ⟨rfl, h2, h3⟩
    exact ⟨rfl, ⟨_, h2⟩, grown_trans (World.grownBy_alloc w _ _) h3⟩

/-- The block keeps what it has. -/
theorem grown_keeps {w w' : World} {g h : Nat} {o : Obj} (hg : w.grownBy w' (some g)) (hh : w.heap[h]? = some o) (hne : h ≠ g) : w'.heap[h]? = some o := by
  have hlt : h < w.heap.size := (Array.getElem?_eq_some_iff.1 hh).1
  rw [hg.block h hlt (fun e => hne (Option.some.inj e)), hh]
def zerosN (b : List UInt8) : Nat := (119 - b.length % 64) % 64
theorem followed_eq (b : List UInt8) : followedL b = b ++ [128] ++ List.replicate (zerosN b) 0 ++ be8 (b.length * 8 % 18446744073709551616) := by
  unfold followedL zerosN; simp
theorem zeros_end (b : List UInt8) (z : Nat) (hz : z ≤ zerosN b) : ((b ++ [128] ++ List.replicate z (0 : UInt8)).length % 64 = 56) ↔ z = zerosN b := by
  simp only [List.length_append, List.length_singleton, List.length_replicate]
  unfold zerosN at *
  omega
attribute [local go_sem] cb cw
theorem StrAt.have {w : World} {g : Nat} {k e0 : List UInt32} {b : List UInt8} {al : Int} (hk : k.length = 64) (he0 : e0.length = 8) (h : StrAt w g k e0 b al) : w.cell? ⟨g, 136, none⟩ = some (.int .i64 ((b.length % 64 : Nat) : Int)) := by
  obtain ⟨m, hm, _, hs⟩ := h
  exact (cell_blk hs 136).trans (st_have (length_blocksF k _ _ _ he0) hk hm)
def needs (v : Option Value) : Nat := match v with | some (.int _ x) => ((120 - x) % 64).toNat | _ => 0
theorem bcells_zeros : bcells (zeros 32) = #[.int .u8 0, .int .u8 0, .int .u8 0, .int .u8 0, .int .u8 0, .int .u8 0, .int .u8 0, .int .u8 0, .int .u8 0, .int .u8 0, .int .u8 0, .int .u8 0, .int .u8 0, .int .u8 0, .int .u8 0, .int .u8 0, .int .u8 0, .int .u8 0, .int .u8 0, .int .u8 0, .int .u8 0, .int .u8 0, .int .u8 0, .int .u8 0, .int .u8 0, .int .u8 0, .int .u8 0, .int .u8 0, .int .u8 0, .int .u8 0, .int .u8 0, .int .u8 0] := rfl
/-- The hash's bytes so far, and noughts behind. -/
def outC (e : List UInt32) (n : Nat) : List Value := ((e.flatMap be4).take n ++ List.replicate (32 - n) 0).map cb
theorem length_be4s (e : List UInt32) : (e.flatMap be4).length = 4 * e.length := by
  induction e with
  | nil => rfl
  | cons x e ih => simp only [List.flatMap_cons, List.length_append, List.length_cons] at ih ⊢; rw [ih]; show 4 + _ = _; omega
theorem be4s_at : ∀ (e : List UInt32) (i j : Nat), j < 4 → i < e.length → (e.flatMap be4).getD (4 * i + j) 0 = (be4 (e.getD i 0)).getD j 0
  | [], i, j, _, h => by simp at h
  | x :: e, 0, j, hj, _ => by
    have hl : (be4 x).length = 4 := rfl
    simp only [List.flatMap_cons, List.getD, Nat.mul_zero, Nat.zero_add, List.getElem?_cons_zero, Option.getD_some]
    rw [List.getElem?_append_left (by omega)]
  | x :: e, i + 1, j, hj, h => by
    have hl : (be4 x).length = 4 := rfl
    have ih := be4s_at e i j hj (by simpa using h)
    simp only [List.flatMap_cons, List.getD, List.getElem?_cons_succ] at ih ⊢
    rw [List.getElem?_append_right (by omega), hl, show 4 * (i + 1) + j - 4 = 4 * i + j by omega, ih]
theorem be4_at (x : UInt32) (j : Nat) (h : j < 4) : (be4 x).getD j 0 = UInt8.ofNat (x.toNat / 2 ^ (24 - 8 * j)) := by
  match j, h with
  | 0, _ | 1, _ | 2, _ => rfl
  | 3, _ => simp [be4]
theorem outC_set (e : List UInt32) (n : Nat) (he : e.length = 8) (h : n < 32) : (outC e n).toArray.setIfInBounds n (cb ((e.flatMap be4).getD n 0)) = (outC e (n + 1)).toArray := by
  have hl := length_be4s e
  rw [he] at hl
  apply Array.ext'
  rw [Array.toList_setIfInBounds]
  unfold outC
  have h1 : ((e.flatMap be4).take n).length = n := by rw [List.length_take]; omega
  rw [List.map_append, List.set_append_right _ _ (by rw [List.length_map, h1]; exact Nat.le_refl _), List.length_map, h1, Nat.sub_self, show 32 - n = (32 - (n + 1)) + 1 by omega, List.replicate_succ, List.map_cons, List.set_cons_zero]
  rw [List.take_succ_eq_append_getElem (by omega), List.map_append, List.map_append, List.append_assoc]
  simp [List.getD, List.getElem?_eq_getElem (show n < (e.flatMap be4).length by omega)]
theorem outC_at (e : List UInt32) (n j : Nat) (he : e.length = 8) (hn : n ≤ 32) (h : j < 32) : ∃ v, (outC e n)[j]? = some v := by
  have hl := length_be4s e
  rw [he] at hl
  have : j < (outC e n).length := by unfold outC; simp only [List.length_map, List.length_append, List.length_take, List.length_replicate]; omega
  exact ⟨_, List.getElem?_eq_getElem this⟩
theorem outC_all (e : List UInt32) (he : e.length = 8) : outC e 32 = (e.flatMap be4).map cb := by
  have hl := length_be4s e
  rw [he] at hl
  unfold outC
  rw [List.take_of_length_le (by omega)]; simp
theorem run_index_arr {P : Program} (w : World) (t e n : Nat) (q : IntKind) (cs : Array Value) (i : Nat) (v : Value) (ht : P.underlying t = some (.array n e)) (he : P.underlying e = some (.int q)) (hs : (P.info? e).map (·.size) = some 1) (hi : i < n) (hv : cs[i]? = some v) :
    (Instr.index t (.agg cs) (.int .i64 (i : Int))).run P w = .ok v w := by
  have h1 : (sizeOf e).run P w = .ok 1 w := run_sizeOf w e 1 hs
  have h0 : (0 : Int) ≤ i ∧ (i : Int) < n := by omega
  have h2 : (isAgg e).run P w = .ok false w := by simp [isAgg, Sem.run_bind, run_underlying he]
  simp [Instr.index, asIntOf, Sem.run_bind, run_underlying ht, h0.1, h0.2, h1, part, h2, hv]
  intro hle; omega
/-- A whole block stored into itself. -/
theorem store_self {P : Program} (w : World) (g ty n : Nat) (cs : Array Value) (t : TypeId) (hn : cs.size = n) (hi : (P.info? ty).map (·.size) = some n) (h1 : cs.all (·.oneCell') = true) (h : w.heap[g]? = some (.cells cs t (0, 0))) :
    storeStep P ty (.pointer (some ⟨g, 0, none⟩)) (.agg cs) w = .ok .skip w := by
  have hf : rowFree w g 0 n = true := by unfold rowFree; rw [h]; simp [hn]
  rw [storeStep_row w g 0 ty n cs hn hi, hf, h1, if_pos (show (true && true) = true from rfl)]
  have : setRowAt w g 0 cs = w := by
    unfold setRowAt; rw [h]
    show w.setRow g (spliceA cs 0 cs) = w
    rw [spliceA_full cs cs rfl]
    exact setRow_self w g cs t (0, 0) h
  rw [this]
theorem rowAt_whole {w : World} {g n : Nat} {cs : Array Value} {t : TypeId} {fr : Nat × Nat} (h : w.heap[g]? = some (.cells cs t fr)) (hn : cs.size = n) : rowAt w g 0 n = some cs := by
  subst hn; unfold rowAt; rw [h]; simp
theorem grown_setNew {w w' : World} {row : Option Nat} (h : w.grownBy w' row) (N i : Nat) (hN : w.heap.size ≤ N) (v : Value) : w.grownBy (w'.setCell ⟨N, i, none⟩ v) row :=
  ⟨h.os, h.tape, h.output, by have := h.size; simpa [World.setCell] using this, fun k hk hne => (Below.heap_setCell _ _ _ _ (by show k ≠ N; omega)).trans (h.block k hk hne)⟩
theorem exec_store_Hash (ρ : Operand → Value) (d : Option Tmp) (x y : Operand) (t : TypeId) (p : String) (af : Array Edge) (gd : Option (Nat × Bool)) (w : World) : (execOp ρ ⟨d, .store 27 x y, t, p, af, gd⟩).run Try.prog w = storeStep Try.prog 27 (ρ x) (ρ y) w := exec_store 27 ρ d x y t p af gd w
attribute [local go_sem ↓] exec_store_Hash
attribute [local go_sem ↓] loadCells_blk
attribute [local go_sem] run_blkLoad rowAt_drew
set_option maxHeartbeats 8000000 in
set_option maxRecDepth 100000 in
theorem end_any (g : Nat) (k e0 : List UInt32) (b : List UInt8) (w : World) (hk : k.length = 64) (he0 : e0.length = 8) (h : StrAt w g k e0 b ((b.length % 18446744073709551616 : Nat) : Int)) :
    Calls Try.prog 42 #[.pointer (some ⟨g, 0, none⟩)] w fun r w' => (∃ o : Bs 32, o.1 = sumK k e0 b ∧ r = .returned (.agg (bcells o))) ∧ w.grownBy w' (some g) := by
  obtain ⟨m, hm, hrest, hs⟩ := h
  have hel : (blocksL k e0 b).length = 8 := length_blocksF k _ _ _ he0
  have c1 := (cell_blk hs 137).trans (st_all hel hk hm)
  have hlt : g < w.heap.size := lt_of_block hs
  have h : StrAt w g k e0 b ((b.length % 18446744073709551616 : Nat) : Int) := ⟨m, hm, hrest, hs⟩
  obtain ⟨L, hL⟩ : ∃ L, L = b.length * 8 % 18446744073709551616 := ⟨_, rfl⟩
  have hl8 : IntKind.u64.wrap (((b.length % 18446744073709551616 : Nat) : Int) * 8) = (L : Int) := by rw [IntKind.wrap_u64]; omega
  have hL64 : L < 18446744073709551616 := by omega
  generalize ((b.length % 18446744073709551616 : Nat) : Int) = al at c1 h hl8
  replace hL := hide hL
  have h0 := h.grown (w' := w.alloc (.cells (bcells (zeros 32)) 27)) (Below.heap_alloc w _ g hlt)
  have hH := heap_alloc_new w (.cells (bcells (zeros 32)) 27)
  have hgr := World.grownBy_alloc w (.cells (bcells (zeros 32)) 27) (some g)
  clear hm hrest hs hel h
  go_enter Try.func42, Try.ntmps42
  rw [bcells_zeros] at h0 hH hgr
  go_wp2_with (go_at_call 41; (refine (add_one g k e0 _ _ (128 : UInt8) _ _ (by simp) hk he0 h0).mono ?_); rintro r w4 ⟨rfl, ⟨al4, hst4⟩, hg4⟩)
  have hH := grown_keeps hg4 (h := w.heap.size) (by exact hH) (by omega)
  have hgr := grown_trans hgr hg4
  clear hg4 h0 c1
  go_loopw [19] (fun _ wr => ∃ (z : Nat) (al : Int), z ≤ zerosN b ∧ StrAt wr g k e0 (b ++ [128] ++ List.replicate z 0) al ∧ wr.heap[w.heap.size]? = some (.cells (bcells (zeros 32)) 27 (0, 0)) ∧ w.grownBy wr (some g)) (fun _ wr => needs (wr.cell? ⟨g, 136, none⟩))
  case atStart => exact ⟨0, _, by omega, by simpa using hst4, hH, hgr⟩
  case round =>
    clear hst4 hH hgr
    obtain ⟨z, al5, hz, hst, hH, hgr⟩ := hrel
    obtain ⟨w5, rfl⟩ : ∃ w5, w5 = wr := ⟨_, rfl⟩
    have d1 := hst.have hk he0
    obtain ⟨hv, hhv⟩ : ∃ hv, hv = (b ++ [128] ++ List.replicate z (0 : UInt8)).length % 64 := ⟨_, rfl⟩
    rw [← hhv] at d1
    have hend := zeros_end b z hz
    rw [← hhv] at hend
    have hneeds : needs (w5.cell? ⟨g, 136, none⟩) = ((120 - (hv : Int)) % 64).toNat := by rw [d1]; rfl
    replace hneeds := hide hneeds
    by_cases h56 : hv = 56
    · have hzz : z = zerosN b := hend.1 h56
      subst h56
      clear hend hneeds hz
      replace d1 : w5.cell? ⟨g, 136, none⟩ = some (.int .i64 56) := d1
      subst hzz
      replace hhv := hide hhv
      obtain ⟨P, hP⟩ : ∃ P, P = b ++ [128] ++ List.replicate (zerosN b) 0 := ⟨_, rfl⟩
      rw [← hP] at hst
      replace hP := hide hP
      go_wp2_with fail
      go_loopw [24] (fun s24 wr => ∃ (i : Nat) (al : Int), i ≤ 8 ∧ s24 = .int .i64 i ∧ StrAt wr g k e0 (P ++ (be8 L).take i) al ∧ wr.heap[w.heap.size]? = some (.cells (bcells (zeros 32)) 27 (0, 0)) ∧ w.grownBy wr (some g)) (fun s _ => (8 - intOf s).toNat)
      case atStart => exact ⟨0, _, by omega, rfl, by simpa using hst, hH, hgr⟩
      case round =>
        clear hst hH hgr
        obtain ⟨i, al6, hi, rfl, hst, hH, hgr⟩ := hrel
        obtain ⟨w6, rfl⟩ : ∃ w6, w6 = wr := ⟨_, rfl⟩
        by_cases hlt8 : i < 8
        · have hlt8' : (i : Int) < 8 := by omega
          have hi0 : (0 : Int) ≤ i := by omega
          obtain ⟨r, hr⟩ : ∃ r, r = 56 - 8 * i := ⟨_, rfl⟩
          obtain ⟨E, hE⟩ : ∃ E, E = 8 * i := ⟨_, rfl⟩
          have j1 : IntKind.i64.wrap (8 * (i : Int)) = E := by rw [IntKind.wrap_i64]; omega
          have j2 : (8 : Int) * (i : Int) = E := by omega
          have j3 : IntKind.i64.wrap (56 - (E : Int)) = r := by rw [IntKind.wrap_i64]; omega
          have j4 : (56 : Int) - (E : Int) = r := by omega
          have hr0 : (0 : Int) ≤ r := by omega
          have hr64 : r ≤ 64 := by omega
          have hbe : (be8 L).take (i + 1) = (be8 L).take i ++ [UInt8.ofNat (L / 2 ^ r)] := by
            rw [List.take_succ_eq_append_getElem (by show i < 8; exact hlt8), hr, ← be8_at L i hlt8]
            simp [List.getD, List.getElem?_eq_getElem (show i < (be8 L).length from hlt8)]
          have hx1 : IntKind.u8.wrap ((L : Int) / 2 ^ r) = ((UInt8.ofNat (L / 2 ^ r)).toNat : Int) := by
            rw [← u8_of, Int.natCast_ediv, Int.natCast_pow]; rfl
          have hx2 : (L : Int) / 2 ^ r % 256 = ((UInt8.ofNat (L / 2 ^ r)).toNat : Int) := by rw [← hx1, IntKind.wrap_u8]
          generalize UInt8.ofNat (L / 2 ^ r) = x at hbe hx1 hx2
          replace hbe := hide hbe
          clear hr hE
          go_wp2_with (go_at_call 41; (refine (add_one g k e0 _ _ x _ _ rfl hk he0 hst).mono ?_); rintro r w4 ⟨rfl, ⟨al4, hst4⟩, hg4⟩)
          go_roundw
          case rel => exact ⟨i + 1, _, by omega, by go_num, by rw [hbe.out, ← List.append_assoc]; exact hst4, grown_keeps hg4 hH (by omega), grown_trans hgr hg4⟩
          case measure => simp [intOf]; omega
        · obtain rfl : i = 8 := by omega
          clear hlt8 hi
          rw [show ((8 : Nat) : Int) = 8 from rfl]
          rw [List.take_of_length_le (show (be8 L).length ≤ 8 from Nat.le_refl 8), hP.out, hL.out, ← followed_eq] at hst
          have hEl : (blocksL k e0 (followedL b)).length = 8 := length_blocksF k _ _ _ he0
          have hEB : sumK k e0 b = (blocksL k e0 (followedL b)).flatMap be4 := rfl
          obtain ⟨m6, hm6, _, hs6⟩ := hst
          generalize blocksL k e0 (followedL b) = EB at hEl hEB hs6
          have z0 := (cell_blk hs6 0).trans (st_e hEl 0 (by omega))
          have z1 := (cell_blk hs6 1).trans (st_e hEl 1 (by omega))
          have z2 := (cell_blk hs6 2).trans (st_e hEl 2 (by omega))
          have z3 := (cell_blk hs6 3).trans (st_e hEl 3 (by omega))
          have z4 := (cell_blk hs6 4).trans (st_e hEl 4 (by omega))
          have z5 := (cell_blk hs6 5).trans (st_e hEl 5 (by omega))
          have z6 := (cell_blk hs6 6).trans (st_e hEl 6 (by omega))
          have z7 := (cell_blk hs6 7).trans (st_e hEl 7 (by omega))
          obtain ⟨o0, o1, o2, o3, o4, o5, o6, o7, rfl⟩ := list8 EB hEl
          replace hEB := hide hEB
          have hr8 : rowAt w6 g 0 8 = some #[.int .u32 (o0.toNat : Int), .int .u32 (o1.toNat : Int), .int .u32 (o2.toNat : Int), .int .u32 (o3.toNat : Int), .int .u32 (o4.toNat : Int), .int .u32 (o5.toNat : Int), .int .u32 (o6.toNat : Int), .int .u32 (o7.toNat : Int)] := by
            unfold rowAt
            rw [hs6]
            simp only
            rw [if_pos (by simp [stL])]
            congr 1
            apply Array.ext'
            rw [Array.toList_extract, List.extract_eq_take_drop]
            rfl
          clear hs6 hEl z0 z1 z2 z3 z4 z5 z6 z7
          go_wp2_with fail
          go_loopw [41] (fun s41 wr => ∃ i : Nat, i ≤ 8 ∧ s41 = .int .i64 i ∧ wr.heap[w.heap.size]? = some (.cells (outC [o0, o1, o2, o3, o4, o5, o6, o7] (4 * i)).toArray 27 (0, 0)) ∧ w.grownBy wr (some g)) (fun s _ => (8 - intOf s).toNat)
          case atStart => exact ⟨0, by omega, rfl, hH, hgr⟩
          case round =>
            clear hH hgr
            obtain ⟨i, hi, rfl, hH, hgr⟩ := hrel
            obtain ⟨w7, rfl⟩ : ∃ w7, w7 = wr := ⟨_, rfl⟩
            by_cases hlt9 : i < 8
            · have hlt9' : (i : Int) < 8 := by omega
              have hi0 : (0 : Int) ≤ i := by omega
              obtain ⟨x, hx⟩ : ∃ x, x = [o0, o1, o2, o3, o4, o5, o6, o7].getD i 0 := ⟨_, rfl⟩
              have hidx := run_index_arr (P := Try.prog) w7 59 58 8 .u32 #[.int .u32 (o0.toNat : Int), .int .u32 (o1.toNat : Int), .int .u32 (o2.toNat : Int), .int .u32 (o3.toNat : Int), .int .u32 (o4.toNat : Int), .int .u32 (o5.toNat : Int), .int .u32 (o6.toNat : Int), .int .u32 (o7.toNat : Int)] i (.int .u32 (x.toNat : Int)) Try.underlying59 Try.underlying58 (by kernel_rfl) hlt9 (by
                have := v8c_at ⟨o0, o1, o2, o3, o4, o5, o6, o7⟩ i hlt9
                rw [hx]; exact this)
              replace hx := hide hx
              go_wp2_with fail
              go_loopw [45] (fun s45 wr => ∃ j : Nat, j ≤ 4 ∧ s45 = .int .i64 j ∧ wr.heap[w.heap.size]? = some (.cells (outC [o0, o1, o2, o3, o4, o5, o6, o7] (4 * i + j)).toArray 27 (0, 0)) ∧ w.grownBy wr (some g)) (fun s _ => (4 - intOf s).toNat)
              case atStart => exact ⟨0, by omega, rfl, hH, hgr⟩
              case round =>
                clear hH hgr hidx
                obtain ⟨j, hj, rfl, hH, hgr⟩ := hrel
                obtain ⟨w8, rfl⟩ : ∃ w8, w8 = wr := ⟨_, rfl⟩
                by_cases hltj : j < 4
                · have hltj' : (j : Int) < 4 := by omega
                  have hj0 : (0 : Int) ≤ j := by omega
                  obtain ⟨n, hn⟩ : ∃ n, n = 4 * i + j := ⟨_, rfl⟩
                  obtain ⟨q, hq⟩ : ∃ q, q = 4 * i := ⟨_, rfl⟩
                  obtain ⟨E, hE⟩ : ∃ E, E = 8 * j := ⟨_, rfl⟩
                  obtain ⟨r, hr⟩ : ∃ r, r = 24 - 8 * j := ⟨_, rfl⟩
                  have i1 : IntKind.i64.wrap (4 * (i : Int)) = q := by rw [IntKind.wrap_i64]; omega
                  have i2 : (4 : Int) * (i : Int) = q := by omega
                  have i3 : IntKind.i64.wrap ((q : Int) + j) = n := by rw [IntKind.wrap_i64]; omega
                  have i4 : (q : Int) + j = n := by omega
                  have i5 : IntKind.i64.wrap (8 * (j : Int)) = E := by rw [IntKind.wrap_i64]; omega
                  have i6 : (8 : Int) * (j : Int) = E := by omega
                  have i7 : IntKind.i64.wrap (24 - (E : Int)) = r := by rw [IntKind.wrap_i64]; omega
                  have i8 : (24 : Int) - (E : Int) = r := by omega
                  have hn32 : (n : Int) < 32 := by omega
                  have hn0 : (0 : Int) ≤ n := by omega
                  have hn32' : n < 32 := by omega
                  have hr0 : (0 : Int) ≤ r := by omega
                  have hr64 : r ≤ 32 := by omega
                  have hbyte : ([o0, o1, o2, o3, o4, o5, o6, o7].flatMap be4).getD n 0 = UInt8.ofNat (x.toNat / 2 ^ r) := by rw [hn, be4s_at _ i j hltj (by simpa using hlt9), ← hx.out, be4_at x j hltj, hr]
                  have hx1 : IntKind.u8.wrap ((x.toNat : Int) / 2 ^ r) = ((UInt8.ofNat (x.toNat / 2 ^ r)).toNat : Int) := by
                    rw [← u8_of, Int.natCast_ediv, Int.natCast_pow]; rfl
                  have hx2 : (x.toNat : Int) / 2 ^ r % 256 = ((UInt8.ofNat (x.toNat / 2 ^ r)).toNat : Int) := by rw [← hx1, IntKind.wrap_u8]
                  generalize UInt8.ofNat (x.toNat / 2 ^ r) = y at hbyte hx1 hx2
                  rw [← hn] at hH
                  have hn1 : 4 * i + (j + 1) = n + 1 := by omega
                  replace hn1 := hide hn1
                  obtain ⟨vn, hvn⟩ := outC_at [o0, o1, o2, o3, o4, o5, o6, o7] n n rfl (by omega) hn32'
                  have dn := (cell_blk hH n).trans hvn
                  have fn := free_blk hH n
                  clear hvn hn hq hE hr
                  replace hbyte := hide hbyte
                  go_wp2_with fail
                  go_roundw
                  case rel =>
                    refine ⟨j + 1, by omega, by go_num, ?_, grown_setNew hgr _ n (Nat.le_refl _) _⟩
                    rw [heap_setCell hH, hn1.out, ← outC_set _ n rfl hn32', hbyte.out]; rfl
                  case measure => simp [intOf]; omega
                · obtain rfl : j = 4 := by omega
                  go_wp2_with fail
                  go_roundw
                  case rel => exact ⟨i + 1, by omega, by go_num, hH, hgr⟩
                  case measure => simp [intOf]; omega
            · obtain rfl : i = 8 := by omega
              rw [show ((8 : Nat) : Int) = 8 from rfl]
              rw [outC_all _ rfl] at hH
              have hol : ([o0, o1, o2, o3, o4, o5, o6, o7].flatMap be4).length = 32 := rfl
              obtain ⟨o, ho⟩ : ∃ o : Bs 32, o = ⟨[o0, o1, o2, o3, o4, o5, o6, o7].flatMap be4, hol⟩ := ⟨_, rfl⟩
              have hH : w7.heap[w.heap.size]? = some (.cells (bcells o) 27 (0, 0)) := by rw [ho]; exact hH
              have ho1 : o.1 = sumK k e0 b := by rw [ho, hEB.out]
              replace ho1 := hide ho1
              clear ho
              have hrow := rowAt_whole hH (size_bcells o)
              have hst := store_self (P := Try.prog) w7 w.heap.size 27 32 (bcells o) 27 (size_bcells o) (by kernel_rfl) (one_bcells o) hH
              go_wp2_with ((with_reducible show bodyPost _ _ _ _ _ _); refine ret_row (P := Try.prog) 2 27 32 (bcells o) _ rfl rfl Try.underlying27 rfl (by kernel_rfl) _ _ rfl hrow ⟨⟨o, ho1.out, rfl⟩, hgr⟩)
    · have h56' : ¬ (hv : Int) = 56 := by omega
      have hz' : z < zerosN b := by
        have : z ≠ zerosN b := fun e => h56 (hend.2 e)
        omega
      replace hhv := hide hhv
      clear hend
      go_wp2_with (go_at_call 41; (refine (add_one g k e0 _ _ (0 : UInt8) _ _ rfl hk he0 hst).mono ?_); rintro r w4 ⟨rfl, ⟨al4, hst4⟩, hg4⟩)
      have hst5 : StrAt w4 g k e0 (b ++ [128] ++ List.replicate (z + 1) 0) al4 := by
        rw [List.replicate_succ', ← List.append_assoc]; exact hst4
      go_roundw
      case rel => exact ⟨z + 1, _, by omega, hst5, grown_keeps hg4 hH (by omega), grown_trans hgr hg4⟩
      case measure =>
        have h6 := hst5.have hk he0
        rw [hneeds.out, h6]
        have hl := hhv.out
        simp only [List.length_append, List.length_singleton, List.length_replicate] at hl ⊢
        simp only [needs]
        omega
end Go.Proofs.Ytclghfnmmnnceaa
