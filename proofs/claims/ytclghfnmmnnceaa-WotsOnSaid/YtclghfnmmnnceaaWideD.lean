/- The walks of the reference's digits, times and above. -/
import Derived.Test.YtclghfnmmnnceaaWideP
import Derived.Test.YtclghfnmmnnceaaShaM
namespace Go.Proofs.Ytclghfnmmnnceaa
open Go.RowKit
set_option linter.unusedVariables false
set_option linter.unusedSimpArgs false

def cd (d : Nat) : Value := .int .u64 (d : Int)
def wcells (l : List Nat) : Array Value := (l.map cd).toArray
theorem size_wcells (l : List Nat) : (wcells l).size = l.length := by simp [wcells]
theorem one_wcells (l : List Nat) : (wcells l).all (·.oneCell') = true := by
  rw [Array.all_eq_true]; intro i hi; simp [wcells, cd]; rfl
theorem wcell_at {w : World} {g : Nat} {l : List Nat} {t : TypeId} {fr : Nat × Nat} (h : w.heap[g]? = some (.cells (wcells l) t fr)) (i : Nat) (hi : i < l.length) : w.cell? ⟨g, i, none⟩ = some (.int .u64 (l.getD i 0 : Nat)) := by
  rw [cell_of_row w g i _ t fr h, wcells, List.getElem?_toArray, List.getElem?_map, getD_of l 0 i hi]; rfl
theorem exec_store_W (ρ : Operand → Value) (d : Option Tmp) (x y : Operand) (t : TypeId) (p : String) (af : Array Edge) (gd : Option (Nat × Bool)) (w : World) : (execOp ρ ⟨d, .store 87 x y, t, p, af, gd⟩).run Try.prog w = storeStep Try.prog 87 (ρ x) (ρ y) w := exec_store 87 ρ d x y t p af gd w
def zW : List Nat := List.replicate 12 0
theorem length_zW : zW.length = 12 := rfl
theorem zero_W (w : World) : (zeroValue 87).run Try.prog w = .ok (.agg (wcells zW)) w := run_zeroValue w _ _ (by kernel_rfl)
attribute [local go_sem ↓] exec_store_W zero_W
attribute [local go_sem ↓] loadCells_blk
attribute [local go_sem] run_blkLoad rowAt_drew
theorem wset (l : List Nat) (i x : Nat) : (wcells l).setIfInBounds i (.int .u64 (x : Int)) = wcells (l.set i x) := by
  apply Array.ext'
  rw [Array.toList_setIfInBounds]
  simp only [wcells]
  rw [List.map_set]; rfl
/-- The first digits of a number, and noughts behind. -/
def dgW (n : Nat) : Nat → List Nat
  | 0 => List.replicate 12 0
  | i + 1 => (dgW n i).set i (n / 2 ^ (16 * i) % 65536)
theorem length_dgW (n i : Nat) : (dgW n i).length = 12 := by
  induction i with
  | zero => rfl
  | succ i ih => simp [dgW, ih]
theorem dgW_4 (n : Nat) : dgW n 4 = [n % 65536, n / 65536 % 65536, n / 4294967296 % 65536, n / 281474976710656 % 65536, 0, 0, 0, 0, 0, 0, 0, 0] := by
  simp [dgW, List.replicate]
theorem val_dgW (n : Nat) (h : n < 18446744073709551616) : valW (dgW n 4) = n := by
  rw [dgW_4]; simp only [valW]; omega
theorem small_dgW (n : Nat) : SmallW (dgW n 4) := by
  rw [dgW_4]; intro d hd; simp at hd; omega

set_option maxHeartbeats 4000000 in
set_option maxRecDepth 100000 in
theorem digits_w (n : Nat) (hn : n < 18446744073709551616) (w : World) :
    Calls Try.prog 51 #[.int .u64 (n : Int)] w fun r w' => r = .returned (.agg (wcells (dgW n 4))) ∧ Ext w w' := by
  have hN1 := heap_alloc2_old w (.cells (wcells zW) 87) (.cells (wcells zW) 87)
  have hN2 := heap_alloc2_new w (.cells (wcells zW) 87) (.cells (wcells zW) 87)
  have hx : Ext w ((w.alloc (.cells (wcells zW) 87)).alloc (.cells (wcells zW) 87)) := by go_grown
  go_enter Try.func51, Try.ntmps51
  go_wp2_with fail
  generalize (w.alloc (.cells (wcells zW) 87)).alloc (.cells (wcells zW) 87) = w1 at *
  go_loopw [4] (fun s4 wr => ∃ i : Nat, i ≤ 4 ∧ s4 = .int .i64 i ∧ wr.heap[w.heap.size]? = some (.cells (wcells zW) 87 (0, 0)) ∧ wr.heap[w.heap.size + 1]? = some (.cells (wcells (dgW n i)) 87 (0, 0)) ∧ Ext w wr) (fun s _ => (4 - intOf s).toNat)
  case atStart => exact ⟨0, by omega, rfl, hN1, hN2, hx⟩
  case round =>
    clear hN1 hN2 hx
    obtain ⟨i, hi, rfl, hN1, hN2, hx⟩ := hrel
    obtain ⟨w2, rfl⟩ : ∃ w2, w2 = wr := ⟨_, rfl⟩
    by_cases hlt : i < 4
    · have hlt' : (i : Int) < 4 := by omega
      have hi0 : (0 : Int) ≤ i := by omega
      have hi12 : (i : Int) < 12 := by omega
      obtain ⟨E, hE⟩ : ∃ E, E = 16 * i := ⟨_, rfl⟩
      have j1 : IntKind.i64.wrap (16 * (i : Int)) = E := by rw [IntKind.wrap_i64]; omega
      have j2 : (16 : Int) * (i : Int) = E := by omega
      have j3 : IntKind.u64.wrap (E : Int) = E := by rw [IntKind.wrap_u64]; omega
      have hE0 : (0 : Int) ≤ E := by omega
      have hE64 : E ≤ 64 := by omega
      have hd1 := wcell_at hN2 i (by rw [length_dgW]; omega)
      have hf1 := free_blk hN2 i
      have hq : (n : Int) / 2 ^ E % 65536 = ((n / 2 ^ (16 * i) % 65536 : Nat) : Int) := by rw [← hE, Int.natCast_emod, Int.natCast_ediv, Int.natCast_pow]; rfl
      have hq' : ((n : Int) / 2 ^ E).tmod 65536 = ((n / 2 ^ (16 * i) % 65536 : Nat) : Int) := by rw [← hq, show (n : Int) / 2 ^ E = ((n / 2 ^ E : Nat) : Int) by rw [Int.natCast_ediv, Int.natCast_pow]; rfl]; rfl
      have hst : dgW n (i + 1) = (dgW n i).set i (n / 2 ^ (16 * i) % 65536) := rfl
      generalize n / 2 ^ (16 * i) % 65536 = x at hq hq' hst
      replace hst := hide hst
      clear hE
      go_wp2_with fail
      go_roundw
      case rel =>
        refine ⟨i + 1, by omega, by go_num, (Below.heap_setCell _ _ _ _ (by show w.heap.size ≠ w.heap.size + 1; omega)).trans hN1, ?_, Below.setCell (p := ⟨w.heap.size + 1, i, none⟩) hx (by show w.heap.size ≤ w.heap.size + 1; omega) _⟩
        rw [heap_setCell hN2, hst.out, ← wset]
      case measure => simp [intOf]; omega
    · obtain rfl : i = 4 := by omega
      have hrow := rowAt_whole hN2 (by rw [size_wcells, length_dgW])
      have hst := store_over (P := Try.prog) w2 w.heap.size 87 12 (wcells (dgW n 4)) (wcells zW) 87 (by rw [size_wcells, length_dgW]) (by rw [size_wcells, length_zW]) (by kernel_rfl) (one_wcells _) hN1
      go_wp2_with ((with_reducible show bodyPost _ _ _ _ _ _); refine ret_row (P := Try.prog) 2 87 12 (wcells (dgW n 4)) _ rfl rfl Try.underlying87 rfl (by kernel_rfl) _ _ rfl (rowAt_whole (setRow_heap _ _ _ _ _ _ hN1) (by rw [size_wcells, length_dgW])) ⟨rfl, below_setRow hx (Nat.le_refl _) _⟩)

theorem below_drewN {B : Nat} {w0 w : World} (h : Below B w0 w) (n : Nat) : Below B w0 (w.drewN n) := h.trans ⟨rfl, rfl, rfl, Nat.le_refl _, fun _ _ => rfl⟩
/-- In a round of a product's row: what is left to do comes to the same digits. -/
theorem row_step (x : Nat) (P b T : List Nat) (n k c : Nat) (hP : P.length = 12) (hb : b.length = 12) (hn : n < 12) (hk : k < 12)
    (h : P.take n ++ rowAdd x (P.drop n) (b.drop k) c = T) :
    (P.set n ((P.getD n 0 + x * b.getD k 0 + c) % 65536)).take (n + 1) ++ rowAdd x ((P.set n ((P.getD n 0 + x * b.getD k 0 + c) % 65536)).drop (n + 1)) (b.drop (k + 1)) ((P.getD n 0 + x * b.getD k 0 + c) / 65536) = T := by
  rw [← h, List.drop_eq_getElem_cons (show n < P.length by omega), List.drop_eq_getElem_cons (show k < b.length by omega)]
  have e1 : P.getD n 0 = P[n] := by simp [List.getD, List.getElem?_eq_getElem (show n < P.length by omega)]
  have e2 : b.getD k 0 = b[k] := by simp [List.getD, List.getElem?_eq_getElem (show k < b.length by omega)]
  rw [rowAdd, e1, e2]
  generalize P[n] + x * b[k] + c = s
  rw [List.take_succ_eq_append_getElem (by simp only [List.length_set]; omega), List.getElem_set_self, List.append_assoc, List.take_set_of_le (Nat.le_refl _), List.drop_set_of_lt (by omega)]
  all_goals rfl
theorem small_set {P : List Nat} (h : SmallW P) (n x : Nat) (hx : x < 65536) : SmallW (P.set n x) := by
  intro d hd
  rcases List.mem_or_eq_of_mem_set hd with h1 | h1
  · exact h d h1
  · omega
theorem small_at {P : List Nat} (h : SmallW P) (n : Nat) (hn : n < P.length) : P.getD n 0 < 65536 := by
  rw [show P.getD n 0 = P[n] by simp [List.getD, List.getElem?_eq_getElem hn]]
  exact h _ (List.getElem_mem hn)
set_option maxHeartbeats 8000000 in
set_option maxRecDepth 100000 in
theorem times_w (a b : List Nat) (ha : a.length = 12) (hb : b.length = 12) (sa : SmallW a) (sb : SmallW b) (w : World) :
    Calls Try.prog 52 #[.agg (wcells a), .agg (wcells b)] w fun r w' => r = .returned (.agg (wcells (timesF a b 12))) ∧ Ext w w' := by
  have hP := heap_alloc_new (((w.alloc (.cells (wcells a) 87)).alloc (.cells (wcells b) 87)).alloc (.cells (wcells zW) 87)) (.cells (wcells zW) 87)
  have hR := heap_alloc2_old ((w.alloc (.cells (wcells a) 87)).alloc (.cells (wcells b) 87)) (.cells (wcells zW) 87) (.cells (wcells zW) 87)
  have hB := (Below.heap_alloc _ (.cells (wcells zW) 87) (w.heap.size + 1) (by simp)).trans ((Below.heap_alloc _ (.cells (wcells zW) 87) (w.heap.size + 1) (by simp)).trans (heap_alloc2_new w (.cells (wcells a) 87) (.cells (wcells b) 87)))
  have hA := (Below.heap_alloc _ (.cells (wcells zW) 87) w.heap.size (by simp; omega)).trans ((Below.heap_alloc _ (.cells (wcells zW) 87) w.heap.size (by simp; omega)).trans (heap_alloc2_old w (.cells (wcells a) 87) (.cells (wcells b) 87)))
  have hx : Ext w ((((w.alloc (.cells (wcells a) 87)).alloc (.cells (wcells b) 87)).alloc (.cells (wcells zW) 87)).alloc (.cells (wcells zW) 87)) := by go_grown
  have e3 : (((w.alloc (.cells (wcells a) 87)).alloc (.cells (wcells b) 87)).alloc (.cells (wcells zW) 87)).heap.size = w.heap.size + 1 + 1 + 1 := by simp
  have e2 : ((w.alloc (.cells (wcells a) 87)).alloc (.cells (wcells b) 87)).heap.size = w.heap.size + 1 + 1 := by simp
  rw [e3] at hP
  rw [e2] at hR
  clear e2 e3
  go_enter Try.func52, Try.ntmps52
  go_wp2_with fail
  generalize (((w.alloc (.cells (wcells a) 87)).alloc (.cells (wcells b) 87)).alloc (.cells (wcells zW) 87)).alloc (.cells (wcells zW) 87) = W at *
  obtain ⟨gP, hgP⟩ : ∃ g, g = w.heap.size + 1 + 1 + 1 := ⟨_, rfl⟩
  obtain ⟨gR, hgR⟩ : ∃ g, g = w.heap.size + 1 + 1 := ⟨_, rfl⟩
  obtain ⟨gB, hgB⟩ : ∃ g, g = w.heap.size + 1 := ⟨_, rfl⟩
  obtain ⟨gA, hgA⟩ : ∃ g, g = w.heap.size := ⟨_, rfl⟩
  rw [← hgP] at hP ⊢
  rw [← hgR] at hR ⊢
  rw [← hgB] at hB ⊢
  rw [← hgA] at hA ⊢
  have o1 : gA < gP ∧ gB < gP ∧ gR < gP ∧ w.heap.size ≤ gR ∧ w.heap.size ≤ gP := by omega
  replace hgP := hide hgP
  replace hgR := hide hgR
  replace hgB := hide hgB
  replace hgA := hide hgA
  obtain ⟨oA, oB, oR, oW, oP⟩ := o1
  go_loopw [6] (fun s6 wr => ∃ i : Nat, i ≤ 12 ∧ s6 = .int .i64 i ∧ wr.heap[gP]? = some (.cells (wcells (timesF a b i)) 87 (0, 0)) ∧ Below gP W wr) (fun s _ => (12 - intOf s).toNat)
  case atStart => exact ⟨0, by omega, rfl, hP, Below.refl _ _⟩
  case round =>
    clear hP
    obtain ⟨i, hi, rfl, hP, hb1⟩ := hrel
    obtain ⟨w2, rfl⟩ : ∃ w2, w2 = wr := ⟨_, rfl⟩
    by_cases hlt : i < 12
    · have hlt' : (i : Int) < 12 := by omega
      have hi0 : (0 : Int) ≤ i := by omega
      have hs0 : timesF a b (i + 1) = (timesF a b i).take i ++ rowAdd (a.getD i 0) ((timesF a b i).drop i) (b.drop 0) 0 := by rw [List.drop_zero]; rfl
      have hl0 := length_timesF a b i hi
      have hsm0 := small_timesF a b hb i hi
      generalize hT : timesF a b (i + 1) = T at hs0
      generalize timesF a b i = P0 at hs0 hl0 hsm0 hP
      replace hs0 := hide hs0
      replace hT := hide hT
      replace hl0 := hide hl0
      go_wp2_with fail
      go_loopw [7, 8] (fun s7 s8 wr => ∃ (k c : Nat) (P : List Nat), i + k ≤ 12 ∧ c ≤ 65535 ∧ s7 = .int .u64 c ∧ s8 = .int .i64 k ∧ P.length = 12 ∧ SmallW P ∧ P.take (i + k) ++ rowAdd (a.getD i 0) (P.drop (i + k)) (b.drop k) c = T ∧ wr.heap[gP]? = some (.cells (wcells P) 87 (0, 0)) ∧ Below gP W wr) (fun _ s _ => (12 - intOf s).toNat)
      case atStart => exact ⟨0, 0, P0, by omega, by omega, rfl, rfl, hl0.out, hsm0, hs0.out.symm, hP, hb1⟩
      case round =>
        clear hP hb1 hs0 hl0 hsm0
        obtain ⟨k, c, P, hik, hc, rfl, rfl, hl, hsm, hrow, hP, hb1⟩ := hrel
        obtain ⟨w3, rfl⟩ : ∃ w3, w3 = wr := ⟨_, rfl⟩
        obtain ⟨n, hn⟩ : ∃ n, n = i + k := ⟨_, rfl⟩
        have hni : (i : Int) + k = n := by omega
        have hnw : IntKind.i64.wrap ((i : Int) + k) = n := by rw [IntKind.wrap_i64]; omega
        have hk0 : (0 : Int) ≤ k := by omega
        have hn0 : (0 : Int) ≤ n := by omega
        rw [← hn] at hrow hik
        by_cases hln : n < 12
        · have hln' : (n : Int) < 12 := by omega
          have hk12 : (k : Int) < 12 := by omega
          have dP := wcell_at hP n (by omega)
          have fP := free_blk hP n
          have dA := wcell_at ((hb1.block gA oA).trans hA) i (by omega)
          have dB := wcell_at ((hb1.block gB oB).trans hB) k (by omega)
          have hrow2 := row_step (a.getD i 0) P b T n k c hl hb hln (by omega) hrow
          have hset := wset P n ((P.getD n 0 + a.getD i 0 * b.getD k 0 + c) % 65536)
          have hsp := small_at hsm n (by omega)
          have hsa := small_at sa i (by omega)
          have hsb := small_at sb k (by omega)
          generalize P.getD n 0 = p at dP hrow2 hset hsp
          generalize a.getD i 0 = x at *
          generalize b.getD k 0 = y at dB hrow2 hset hsb
          obtain ⟨m, hm⟩ : ∃ m, m = x * y := ⟨_, rfl⟩
          have hm1 : m ≤ 65535 * 65535 := by rw [hm]; exact Nat.mul_le_mul (by omega) (by omega)
          have hm2 : (x : Int) * (y : Int) = m := by rw [hm, Int.natCast_mul]
          have hm3 : IntKind.u64.wrap ((x : Int) * (y : Int)) = m := by rw [hm2, IntKind.wrap_u64]; omega
          rw [← hm] at hrow2 hset
          clear hm
          obtain ⟨s, hs⟩ : ∃ s, s = p + m + c := ⟨_, rfl⟩
          rw [← hs] at hrow2 hset
          have hm5 : IntKind.u64.wrap (m : Int) = m := by rw [IntKind.wrap_u64]; omega
          obtain ⟨u, hu⟩ : ∃ u, u = p + m := ⟨_, rfl⟩
          have hu1 : (p : Int) + m = u := by omega
          have hu2 : IntKind.u64.wrap ((p : Int) + m) = u := by rw [IntKind.wrap_u64]; omega
          have hs1 : (u : Int) + c = s := by omega
          have hs2 : IntKind.u64.wrap ((u : Int) + c) = s := by rw [IntKind.wrap_u64]; omega
          have hs3 : (s : Int).tmod 65536 = (s % 65536 : Nat) := rfl
          have hs4 : (s : Int).tdiv 65536 = (s / 65536 : Nat) := rfl
          have hc2 : s / 65536 ≤ 65535 := by omega
          have hr2 : s % 65536 < 65536 := Nat.mod_lt _ (by omega)
          generalize s / 65536 = c2 at hs4 hrow2 hc2
          generalize s % 65536 = r2 at hs3 hrow2 hset hr2
          replace hrow2 := hide hrow2
          replace hset := hide hset
          clear hrow hs hu
          replace hn := hide hn
          go_wp2_with fail
          go_quiet (fail)
          go_wp2_with fail
          go_roundw
          case rel =>
            refine ⟨k + 1, c2, P.set n r2, by omega, hc2, rfl, by go_num, by simpa using hl, small_set hsm n r2 hr2, ?_, ?_, Below.setCell (p := ⟨gP, n, none⟩) (below_drewN hb1 nq) (Nat.le_refl _) _⟩
            · rw [show i + (k + 1) = n + 1 by have := hn.out; omega]; exact hrow2.out
            · rw [heap_setCell (w := w3.drewN nq) hP, hset.out]
          case measure => simp [intOf]; omega
        · obtain rfl : n = 12 := by omega
          have hPT : P = T := by
            rw [List.take_of_length_le (by omega), List.drop_eq_nil_of_le (by omega)] at hrow
            simpa [rowAdd] using hrow
          have hln' : ¬ ((12 : Nat) : Int) < 12 := by omega
          replace hn := hide hn
          subst hPT
          clear hrow
          go_wp2_with fail
          go_roundw
          case rel => exact ⟨i + 1, by omega, by go_num, by rw [hT.out]; exact hP, hb1⟩
          case measure => simp [intOf]; omega
    · obtain rfl : i = 12 := by omega
      have hrow := rowAt_whole hP (by rw [size_wcells, length_timesF a b 12 (by omega)])
      have hR2 := (hb1.block gR oR).trans hR
      have hx2 := hx.trans (hb1.mono oP)
      have hst := store_over (P := Try.prog) w2 gR 87 12 (wcells (timesF a b 12)) (wcells zW) 87 (by rw [size_wcells, length_timesF a b 12 (by omega)]) (by rw [size_wcells, length_zW]) (by kernel_rfl) (one_wcells _) hR2
      go_wp2_with ((with_reducible show bodyPost _ _ _ _ _ _); refine ret_row (P := Try.prog) 4 87 12 (wcells (timesF a b 12)) _ rfl rfl Try.underlying87 rfl (by kernel_rfl) _ _ rfl (rowAt_whole (setRow_heap _ _ _ _ _ _ hR2) (by rw [size_wcells, length_timesF a b 12 (by omega)])) ⟨rfl, below_setRow hx2 oW _⟩)

set_option maxHeartbeats 8000000 in
set_option maxRecDepth 100000 in
theorem above_w (a b : List Nat) (ha : a.length = 12) (hb : b.length = 12) (w : World) :
    Calls Try.prog 53 #[.agg (wcells a), .agg (wcells b)] w fun r w' => r = .returned (.bool (gtL a b)) ∧ Ext w w' := by
  have hB := heap_alloc2_new w (.cells (wcells a) 87) (.cells (wcells b) 87)
  have hA := heap_alloc2_old w (.cells (wcells a) 87) (.cells (wcells b) 87)
  have hx : Ext w ((w.alloc (.cells (wcells a) 87)).alloc (.cells (wcells b) 87)) := by go_grown
  go_enter Try.func53, Try.ntmps53
  go_wp2_with fail
  generalize (w.alloc (.cells (wcells a) 87)).alloc (.cells (wcells b) 87) = W at *
  go_loopw [5] (fun s5 wr => ∃ j : Nat, j ≤ 12 ∧ s5 = .int .i64 ((j : Int) - 1) ∧ a.drop j = b.drop j ∧ wr.heap[w.heap.size]? = some (.cells (wcells a) 87 (0, 0)) ∧ wr.heap[w.heap.size + 1]? = some (.cells (wcells b) 87 (0, 0)) ∧ Ext w wr) (fun s _ => (1 + intOf s).toNat)
  case atStart => exact ⟨12, by omega, rfl, by rw [List.drop_eq_nil_of_le (by omega), List.drop_eq_nil_of_le (by omega)], hA, hB, hx⟩
  case round =>
    clear hA hB hx
    obtain ⟨j, hj, rfl, hd, hA, hB, hx⟩ := hrel
    obtain ⟨w2, rfl⟩ : ∃ w2, w2 = wr := ⟨_, rfl⟩
    by_cases hj0 : j = 0
    · subst hj0
      have hab : a = b := by simpa using hd
      go_wp2_with fail
      go_ret
      exact ⟨by rw [hab, gtL_self]; rfl, hx⟩
    · obtain ⟨i, rfl⟩ : ∃ i, j = i + 1 := ⟨j - 1, by omega⟩
      have e1 : ((i + 1 : Nat) : Int) - 1 = i := by omega
      rw [e1]
      have hi0 : (0 : Int) ≤ i := by omega
      have hi12 : (i : Int) < 12 := by omega
      have dA := wcell_at hA i (by omega)
      have dB := wcell_at hB i (by omega)
      have hcons : ∀ l : List Nat, l.length = 12 → l.drop i = l.getD i 0 :: l.drop (i + 1) := by
        intro l hl
        rw [List.drop_eq_getElem_cons (by omega)]
        simp [List.getD, List.getElem?_eq_getElem (show i < l.length by omega)]
      have h1 := hcons a ha
      have h2 := hcons b hb
      have hg := gtL_drop i a b (by rw [ha, hb])
      rw [h1, h2] at hg
      generalize a.getD i 0 = x at *
      generalize b.getD i 0 = y at *
      by_cases hxy : x = y
      · have hxy' : decide ((x : Int) = y) = true := by simp [hxy]
        have hd2 : a.drop i = b.drop i := by rw [h1, h2, hxy, hd]
        subst hxy
        clear h1 h2 hg hcons
        replace hd2 := hide hd2
        clear hd
        go_wp2_with fail
        go_quiet (fail)
        go_wp2_with fail
        go_roundw
        case rel => exact ⟨i, by omega, rfl, hd2.out, hA, hB, below_drewN hx nq⟩
        case measure => simp [intOf]; omega
      · have hg2 : gtL a b = decide (y < x) := by
          rw [hg (by simp [hxy]), gtL, hd, gtL_self]; simp
        have hxy' : ¬ (x : Int) = y := by omega
        clear h1 h2 hg hcons hd
        replace hg2 := hide hg2
        go_wp2_with fail
        go_quiet (fail)
        go_wp2_with fail
        go_quiet (fail)
        go_wp2_with fail
        go_ret
        exact ⟨by rw [hg2.out]; rfl, below_drewN (below_drewN hx _) _⟩
end Go.Proofs.Ytclghfnmmnnceaa
