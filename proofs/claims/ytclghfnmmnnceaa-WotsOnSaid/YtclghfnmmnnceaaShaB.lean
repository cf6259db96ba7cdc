/- The walk of the stream's block: 64 bytes that wait are taken. -/
import Derived.Test.YtclghfnmmnnceaaShaR
import Derived.Test.YtclghfnmmnnceaaShaP
import Derived.Test.YtclghfnmmnnceaaRowl
import Derived.Deep.RegionLaw
import Derived.BigQuiet
import Derived.Deep.QuietTactic
import Derived.StillTailTactics
import Derived.OneCell
import Derived.Laws.CopyOwn
import Derived.Deep.DeepCutAuto
import Derived.Deep.CutRange
namespace Go.Proofs.Ytclghfnmmnnceaa
open Go.RowKit
set_option linter.unusedVariables false
set_option linter.unusedSimpArgs false

/-- The cells of a stream. -/
def stL (e k : List UInt32) (m : List UInt8) (hv al : Int) : List Value := e.map cw ++ (k.map cw ++ (m.map cb ++ [.int .i64 hv, .int .u64 al]))
section
variable {e k : List UInt32} {m : List UInt8} {hv al : Int}
theorem st_e (he : e.length = 8) (i : Nat) (hi : i < 8) : (stL e k m hv al)[i]? = some (cw (e.getD i 0)) := by
  unfold stL
  rw [List.getElem?_append_left (by simp; omega), List.getElem?_map, getD_of e 0 i (by omega)]; rfl
theorem st_k (he : e.length = 8) (hk : k.length = 64) (t : Nat) (ht : t < 64) : (stL e k m hv al)[8 + t]? = some (cw (k.getD t 0)) := by
  unfold stL
  rw [List.getElem?_append_right (by simp; omega), List.getElem?_append_left (by simp; omega), List.length_map, he, Nat.add_sub_cancel_left, List.getElem?_map, getD_of k 0 t (by omega)]; rfl
theorem st_m (he : e.length = 8) (hk : k.length = 64) (hm : m.length = 64) (j : Nat) (hj : j < 64) : (stL e k m hv al)[72 + j]? = some (cb (m.getD j 0)) := by
  unfold stL
  rw [List.getElem?_append_right (by simp; omega), List.length_map, he, List.getElem?_append_right (by simp; omega), List.length_map, hk, List.getElem?_append_left (by simp; omega), show 72 + j - 8 - 64 = j by omega, List.getElem?_map, getD_of m 0 j (by omega)]; rfl
theorem st_have (he : e.length = 8) (hk : k.length = 64) (hm : m.length = 64) : (stL e k m hv al)[136]? = some (.int .i64 hv) := by
  unfold stL
  rw [List.getElem?_append_right (by simp; omega), List.length_map, he, List.getElem?_append_right (by simp; omega), List.length_map, hk, List.getElem?_append_right (by simp; omega), List.length_map, hm]; rfl
theorem st_all (he : e.length = 8) (hk : k.length = 64) (hm : m.length = 64) : (stL e k m hv al)[137]? = some (.int .u64 al) := by
  unfold stL
  rw [List.getElem?_append_right (by simp; omega), List.length_map, he, List.getElem?_append_right (by simp; omega), List.length_map, hk, List.getElem?_append_right (by simp; omega), List.length_map, hm]; rfl
end
theorem or_add (a b i : Nat) (hb : b < 2 ^ i) : a * 2 ^ i ||| b = a * 2 ^ i + b := by
  rw [← Nat.shiftLeft_eq, Nat.shiftLeft_add_eq_or_of_lt hb]
theorem wrap_nat (n : Nat) (h : n < 4294967296) : IntKind.u32.wrap (n : Int) = (n : Int) := by rw [IntKind.wrap_u32]; omega
theorem four_join (a b c : Nat) : (a * 256 + b) * 2 ^ 16 + c * 2 ^ 8 = (a * 65536 + b * 256 + c) * 2 ^ 8 := by omega
theorem wd_four (b0 b1 b2 b3 : UInt8) : bits BinOp.or IntKind.u32 (bits BinOp.or IntKind.u32 (bits BinOp.or IntKind.u32 (IntKind.u32.wrap (IntKind.u32.wrap (b0.toNat : Int) * 16777216)) (IntKind.u32.wrap (IntKind.u32.wrap (b1.toNat : Int) * 65536))) (IntKind.u32.wrap (IntKind.u32.wrap (b2.toNat : Int) * 256))) (IntKind.u32.wrap (b3.toNat : Int)) = ((word4 b0 b1 b2 b3).toNat : Int) := by
  have f0 : b0.toNat < 256 := UInt8.toNat_lt b0
  have f1 : b1.toNat < 256 := UInt8.toNat_lt b1
  have f2 : b2.toNat < 256 := UInt8.toNat_lt b2
  have f3 : b3.toNat < 256 := UInt8.toNat_lt b3
  unfold word4
  rw [UInt32.toNat_ofNat', Nat.mod_eq_of_lt (by omega)]
  generalize b0.toNat = a at *
  generalize b1.toNat = b at *
  generalize b2.toNat = c at *
  generalize b3.toNat = d at *
  have e1 : (a : Int) * 16777216 = ((a * 2 ^ 24 : Nat) : Int) := by omega
  have e2 : (b : Int) * 65536 = ((b * 2 ^ 16 : Nat) : Int) := by omega
  have e3 : (c : Int) * 256 = ((c * 2 ^ 8 : Nat) : Int) := by omega
  rw [wrap_nat a (by omega), wrap_nat b (by omega), wrap_nat c (by omega), wrap_nat d (by omega), e1, e2, e3, wrap_nat _ (by omega), wrap_nat _ (by omega), wrap_nat _ (by omega)]
  rw [bits_or32 _ _ (by omega) (by omega), or_add _ _ 24 (by omega)]
  have e4 : a * 2 ^ 24 + b * 2 ^ 16 = (a * 256 + b) * 2 ^ 16 := by omega
  rw [bits_or32 _ _ (by omega) (by omega), e4, or_add _ _ 16 (by omega)]
  have e5 : (a * 256 + b) * 2 ^ 16 + c * 2 ^ 8 = (a * 65536 + b * 256 + c) * 2 ^ 8 := four_join a b c
  rw [bits_or32 _ _ (by omega) (by omega), e5, or_add _ _ 8 (by omega)]
  all_goals (congr 1; omega)
/-- Words laid, and noughts behind. -/
def padW (L : List UInt32) : List Value := (L ++ List.replicate (64 - L.length) 0).map cw

set_option maxHeartbeats 1000000 in
theorem pad_at (L : List UInt32) (j : Nat) (h : j < L.length) : (padW L)[j]? = some (cw (L.getD j 0)) := by
  rw [padW, List.getElem?_map, List.getElem?_append_left h, getD_of L 0 j h]; rfl
theorem pad_in (L : List UInt32) (j : Nat) (h : L.length ≤ 64) (hj : j < 64) : ∃ v, (padW L)[j]? = some v := by
  have : j < (padW L).length := by simp [padW]; omega
  exact ⟨_, List.getElem?_eq_getElem this⟩
theorem pad_set (L : List UInt32) (x : UInt32) (h : L.length < 64) : (padW L).toArray.setIfInBounds L.length (cw x) = (padW (L ++ [x])).toArray := by
  apply Array.ext'
  rw [Array.toList_setIfInBounds]
  simp only [padW, List.length_append, List.length_singleton]
  rw [List.map_append, List.map_append, List.map_append, show (64 - L.length) = (64 - (L.length + 1)) + 1 by omega, List.replicate_succ, List.map_cons]
  rw [List.set_append_right _ _ (by simp)]
  simp
theorem list8 {α : Type} (l : List α) (h : l.length = 8) : ∃ a b c d e f g i, l = [a, b, c, d, e, f, g, i] := by
  match l, h with
  | [a, b, c, d, e, f, g, i], _ => exact ⟨a, b, c, d, e, f, g, i, rfl⟩
/-- The cells of eight words. -/
def v8c (v : V8) : Array Value := #[cw v.a, cw v.b, cw v.c, cw v.d, cw v.e, cw v.f, cw v.g, cw v.h]
/-- The first i of eight words, each with another one added. -/
def mixE (e V : List UInt32) : Nat → List UInt32
  | 0 => e
  | i + 1 => (mixE e V i).set i (addW (e.getD i 0) (V.getD i 0))
theorem length_mixE (e V : List UInt32) (i : Nat) : (mixE e V i).length = e.length := by
  induction i with
  | zero => rfl
  | succ i ih => simp [mixE, ih]
theorem mixE_at (e V : List UInt32) (i j : Nat) (h : i ≤ j) : (mixE e V i).getD j 0 = e.getD j 0 := by
  induction i with
  | zero => rfl
  | succ i ih =>
    rw [mixE, ← ih (by omega)]
    simp only [List.getD, List.getElem?_set]
    rw [if_neg (by omega)]
theorem st_set (e k : List UInt32) (m : List UInt8) (hv al : Int) (i : Nat) (x : UInt32) (h : i < e.length) : (stL e k m hv al).toArray.setIfInBounds i (cw x) = (stL (e.set i x) k m hv al).toArray := by
  apply Array.ext'
  rw [Array.toList_setIfInBounds]
  unfold stL
  rw [List.set_append_left _ _ (by simpa using h), List.map_set]
theorem st_setHave (e k : List UInt32) (m : List UInt8) (hv hv' al : Int) (he : e.length = 8) (hk : k.length = 64) (hm : m.length = 64) : (stL e k m hv al).toArray.setIfInBounds 136 (.int .i64 hv') = (stL e k m hv' al).toArray := by
  apply Array.ext'
  rw [Array.toList_setIfInBounds]
  unfold stL
  rw [List.set_append_right _ _ (by simp; omega), List.set_append_right _ _ (by simp; omega), List.set_append_right _ _ (by simp; omega)]
  simp [he, hk, hm]
theorem v8c_at (v : V8) (i : Nat) (h : i < 8) : (v8c v)[i]? = some (cw (v.list.getD i 0)) := by
  have e : v8c v = (v.list.map cw).toArray := rfl
  rw [e, List.getElem?_toArray, List.getElem?_map, getD_of v.list 0 i h]; rfl
attribute [local go_sem] cb cw w_xor w_add w_add' w_and w_andNot w_shr3 w_shr10
set_option maxHeartbeats 8000000 in
set_option maxRecDepth 100000 in
theorem block_any (g : Nat) (e k : List UInt32) (m : List UInt8) (hv al : Int) (w : World) (he : e.length = 8) (hk : k.length = 64) (hm : m.length = 64) (h : w.heap[g]? = some (.cells (stL e k m hv al).toArray 75 (0, 0))) :
    Calls Try.prog 46 #[.pointer (some ⟨g, 0, none⟩)] w fun r w' => r = .returned (.tuple #[]) ∧ w'.heap[g]? = some (.cells (stL (compress k e m) k m 0 al).toArray 75 (0, 0)) ∧ w.grownBy w' (some g) := by
  have hg := lt_of_block h
  go_enter Try.func46, Try.ntmps46
  go_wp2_with fail
  go_loopw [14] (fun s14 wr => ∃ i : Nat, i ≤ 16 ∧ s14 = .int .i64 i ∧ wr.heap[w.heap.size]? = some (.cells (padW (schedL m i)).toArray 60 (0, 0)) ∧ Ext w wr) (fun s _ => (16 - intOf s).toNat)
  case atStart => exact ⟨0, by omega, rfl, heap_alloc_new _ _, (Below.refl _ _).alloc (Nat.le_refl _) _⟩
  case round =>
    obtain ⟨i, hi, rfl, hW, hx⟩ := hrel
    obtain ⟨w1, rfl⟩ : ∃ w1, w1 = wr := ⟨_, rfl⟩
    by_cases hlt : i < 16
    · have hlt' : (i : Int) < 16 := by omega
      have hi0 : (0 : Int) ≤ i := by omega
      obtain ⟨q, hq⟩ : ∃ q, q = 4 * i := ⟨_, rfl⟩
      have hqi : IntKind.i64.wrap (4 * (i : Int)) = q := by rw [IntKind.wrap_i64]; omega
      have hq0 : (4 : Int) * (i : Int) = q := by omega
      have hql : (q : Int) + 4 ≤ 64 := by omega
      have hqn : (0 : Int) ≤ q := by omega
      have h1 := (hx.block g hg).trans h
      have hqq : q + 4 ≤ 64 := by omega
      have d0 := (cell_blk h1 (72 + q)).trans (st_m he hk hm q (by omega))
      have d1 := (cell_blk h1 (72 + (q + 1))).trans (st_m he hk hm (q + 1) (by omega))
      have d2 := (cell_blk h1 (72 + (q + 2))).trans (st_m he hk hm (q + 2) (by omega))
      have d3 := (cell_blk h1 (72 + (q + 3))).trans (st_m he hk hm (q + 3) (by omega))
      have a1 : (q : Int) ≤ q + 4 := by omega
      have a2 : ((q : Int) + 4).toNat = q + 4 := by omega
      replace hq := hide hq
      go_wp2_with fail
      replace d0 : w1.drew.cell? _ = _ := d0
      replace d1 : w1.drew.cell? ⟨g, 72 + q + 1, none⟩ = _ := d1
      replace d2 : w1.drew.cell? ⟨g, 72 + q + 2, none⟩ = _ := d2
      replace d3 : w1.drew.cell? ⟨g, 72 + q + 3, none⟩ = _ := d3
      obtain ⟨b0, hb0⟩ : ∃ x, x = m.getD q 0 := ⟨_, rfl⟩
      rw [← hb0] at d0
      replace hb0 := hide hb0
      obtain ⟨b1, hb1⟩ : ∃ x, x = m.getD (q + 1) 0 := ⟨_, rfl⟩
      rw [← hb1] at d1
      replace hb1 := hide hb1
      obtain ⟨b2, hb2⟩ : ∃ x, x = m.getD (q + 2) 0 := ⟨_, rfl⟩
      rw [← hb2] at d2
      replace hb2 := hide hb2
      obtain ⟨b3, hb3⟩ : ∃ x, x = m.getD (q + 3) 0 := ⟨_, rfl⟩
      rw [← hb3] at d3
      replace hb3 := hide hb3
      have f0 : b0.toNat < 256 := UInt8.toNat_lt b0
      have f1 : b1.toNat < 256 := UInt8.toNat_lt b1
      have f2 : b2.toNat < 256 := UInt8.toNat_lt b2
      have f3 : b3.toNat < 256 := UInt8.toNat_lt b3
      have hi64 : (i : Int) < 64 := by omega
      have hword := wd_four b0 b1 b2 b3
      have c1 := cell_blk hW i
      have c2 := free_blk hW i
      rw [getD_of _ undef i (by simp [padW, length_schedL]; omega)] at c1
      replace c1 : w1.drew.cell? _ = _ := c1
      replace c2 : w1.drew.frozen? _ = _ := c2
      replace hW : w1.drew.heap[w.heap.size]? = _ := hW
      replace hx : Ext w w1.drew := hx.trans ⟨rfl, rfl, rfl, Nat.le_refl _, fun _ _ => rfl⟩
      clear h1
      go_still_tail 24, (by kernel_rfl)
      change wpList _ _ _ _ _ w1.drew
      generalize w1.drew = w2 at *
      go_wp2_with fail
      go_roundw
      case rel =>
        refine ⟨i + 1, by omega, by go_num, ?_, Below.setCell (p := ⟨w.heap.size, i, none⟩) hx (Nat.le_refl _) _⟩
        rw [heap_setCell hW, schedL, if_pos hlt, wordAt, ← hq.out, ← hb0.out, ← hb1.out, ← hb2.out, ← hb3.out]
        have := pad_set (schedL m i) (word4 b0 b1 b2 b3) (by rw [length_schedL]; omega)
        rw [length_schedL] at this
        exact congrArg (fun A => some (Obj.cells A _ _)) this
      case measure => simp [intOf]; omega
    · obtain rfl : i = 16 := by omega
      clear hlt hi
      rw [show ((16 : Nat) : Int) = 16 from rfl]
      go_wp2_with fail
      go_loopw [6] (fun s6 wr => ∃ t : Nat, 16 ≤ t ∧ t ≤ 64 ∧ s6 = .int .i64 t ∧ wr.heap[w.heap.size]? = some (.cells (padW (schedL m t)).toArray 60 (0, 0)) ∧ Ext w wr) (fun s _ => (64 - intOf s).toNat)
      case atStart => exact ⟨16, by omega, by omega, rfl, hW, hx⟩
      case round =>
        clear hW hx
        obtain ⟨t, ht16, ht, rfl, hW, hx⟩ := hrel
        obtain ⟨w2, rfl⟩ : ∃ w2, w2 = wr := ⟨_, rfl⟩
        by_cases hlt : t < 64
        · have hlt' : (t : Int) < 64 := by omega
          have ht0 : (0 : Int) ≤ t := by omega
          have hlen := length_schedL m t
          obtain ⟨n2, h2⟩ : ∃ n, n = t - 2 := ⟨_, rfl⟩
          obtain ⟨n7, h7⟩ : ∃ n, n = t - 7 := ⟨_, rfl⟩
          obtain ⟨n15, h15⟩ : ∃ n, n = t - 15 := ⟨_, rfl⟩
          obtain ⟨n16, h16⟩ : ∃ n, n = t - 16 := ⟨_, rfl⟩
          have k2 : IntKind.i64.wrap ((t : Int) - 2) = n2 := by rw [IntKind.wrap_i64]; omega
          have k7 : IntKind.i64.wrap ((t : Int) - 7) = n7 := by rw [IntKind.wrap_i64]; omega
          have k15 : IntKind.i64.wrap ((t : Int) - 15) = n15 := by rw [IntKind.wrap_i64]; omega
          have k16 : IntKind.i64.wrap ((t : Int) - 16) = n16 := by rw [IntKind.wrap_i64]; omega
          have j2 : (t : Int) - 2 = n2 := by omega
          have j7 : (t : Int) - 7 = n7 := by omega
          have j15 : (t : Int) - 15 = n15 := by omega
          have j16 : (t : Int) - 16 = n16 := by omega
          have l2 : (n2 : Int) < 64 ∧ (0 : Int) ≤ n2 := by omega
          have l7 : (n7 : Int) < 64 ∧ (0 : Int) ≤ n7 := by omega
          have l15 : (n15 : Int) < 64 ∧ (0 : Int) ≤ n15 := by omega
          have l16 : (n16 : Int) < 64 ∧ (0 : Int) ≤ n16 := by omega
          have v7 : IntKind.i64.wrap (n7 : Int) = n7 := by rw [IntKind.wrap_i64]; omega
          have v16 : IntKind.i64.wrap (n16 : Int) = n16 := by rw [IntKind.wrap_i64]; omega
          obtain ⟨l2, l2'⟩ := l2
          obtain ⟨l7, l7'⟩ := l7
          obtain ⟨l15, l15'⟩ := l15
          obtain ⟨l16, l16'⟩ := l16
          have d2 := (cell_blk hW n2).trans (pad_at _ _ (by omega))
          have d7 := (cell_blk hW n7).trans (pad_at _ _ (by omega))
          have d15 := (cell_blk hW n15).trans (pad_at _ _ (by omega))
          have d16 := (cell_blk hW n16).trans (pad_at _ _ (by omega))
          obtain ⟨vt, hvt⟩ := pad_in (schedL m t) t (by omega) hlt
          have dt := (cell_blk hW t).trans hvt
          have ft := free_blk hW t
          clear hvt
          have hnext : nextW (schedL m t) t = nextOf ((schedL m t).getD n2 0) ((schedL m t).getD n7 0) ((schedL m t).getD n15 0) ((schedL m t).getD n16 0) := by rw [nextW, h2, h7, h15, h16]
          generalize (schedL m t).getD n2 0 = x2 at d2 hnext
          generalize (schedL m t).getD n7 0 = x7 at d7 hnext
          generalize (schedL m t).getD n15 0 = x15 at d15 hnext
          generalize (schedL m t).getD n16 0 = x16 at d16 hnext
          replace hnext := hide hnext
          clear h2 h7 h15 h16 hlen
          go_wp2_with fail
          go_quiet (fail)
          go_wp2_with fail
          replace hW : (w2.drewN nq).heap[w.heap.size]? = _ := hW
          replace hx : Ext w (w2.drewN nq) := hx.trans ⟨rfl, rfl, rfl, Nat.le_refl _, fun _ _ => rfl⟩
          replace d7 : (w2.drewN nq).cell? _ = _ := d7
          replace d16 : (w2.drewN nq).cell? _ = _ := d16
          replace dt : (w2.drewN nq).cell? _ = _ := dt
          replace ft : (w2.drewN nq).frozen? _ = _ := ft
          clear d2 d15
          generalize w2.drewN nq = w3 at *
          replace hW : w3.drew.heap[w.heap.size]? = _ := hW
          replace hx : Ext w w3.drew := hx.trans ⟨rfl, rfl, rfl, Nat.le_refl _, fun _ _ => rfl⟩
          replace d7 : w3.drew.cell? _ = _ := d7
          replace d16 : w3.drew.cell? _ = _ := d16
          replace dt : w3.drew.cell? _ = _ := dt
          replace ft : w3.drew.frozen? _ = _ := ft
          go_still_tail 33, (by kernel_rfl)
          still_call (rot_any x2 17 (by decide) (by decide) _)
          repeat still_step
          still_call (rot_any x2 19 (by decide) (by decide) _)
          repeat still_step
          still_call (rot_any x15 7 (by decide) (by decide) _)
          repeat still_step
          still_call (rot_any x15 18 (by decide) (by decide) _)
          repeat still_step
          try refine wpStill_nil ?_
          change wpList _ _ _ _ _ w3.drew
          generalize w3.drew = w4 at *
          go_wp2_with fail
          go_roundw
          case rel =>
            refine ⟨t + 1, by omega, by omega, by go_num, ?_, Below.setCell (p := ⟨w.heap.size, t, none⟩) hx (Nat.le_refl _) _⟩
            rw [heap_setCell hW, schedL, if_neg (by omega), hnext.out]
            have := pad_set (schedL m t) (nextOf x2 x7 x15 x16) (by rw [length_schedL]; omega)
            rw [length_schedL] at this
            rw [← this]
            rfl
          case measure => simp [intOf]; omega
        · obtain rfl : t = 64 := by omega
          clear hlt ht16 ht
          rw [show ((64 : Nat) : Int) = 64 from rfl]
          have h2 := (hx.block g hg).trans h
          have z0 := (cell_blk h2 0).trans (st_e he 0 (by omega))
          have z1 := (cell_blk h2 1).trans (st_e he 1 (by omega))
          have z2 := (cell_blk h2 2).trans (st_e he 2 (by omega))
          have z3 := (cell_blk h2 3).trans (st_e he 3 (by omega))
          have z4 := (cell_blk h2 4).trans (st_e he 4 (by omega))
          have z5 := (cell_blk h2 5).trans (st_e he 5 (by omega))
          have z6 := (cell_blk h2 6).trans (st_e he 6 (by omega))
          have z7 := (cell_blk h2 7).trans (st_e he 7 (by omega))
          obtain ⟨e0, e1, e2, e3, e4, e5, e6, e7, rfl⟩ := list8 e he
          go_wp2_with fail
          have hV : (w2.alloc (.cells (v8c (V8.of [e0, e1, e2, e3, e4, e5, e6, e7])) 59)).heap[w2.heap.size]? = some (.cells (v8c (V8.of [e0, e1, e2, e3, e4, e5, e6, e7])) 59 (0, 0)) := heap_alloc_new _ _
          have hB : Below w2.heap.size w2 (w2.alloc (.cells (v8c (V8.of [e0, e1, e2, e3, e4, e5, e6, e7])) 59)) := (Below.refl _ _).alloc (Nat.le_refl _) _
          have hN : w.heap.size < w2.heap.size := lt_of_block hW
          change Code.wp _ _ _ _ (w2.alloc (.cells (v8c (V8.of [e0, e1, e2, e3, e4, e5, e6, e7])) 59))
          generalize hgv : w2.heap.size = gv at *
          obtain ⟨w5, hw5⟩ : ∃ w5, w5 = w2.alloc (.cells (v8c (V8.of [e0, e1, e2, e3, e4, e5, e6, e7])) 59) := ⟨_, rfl⟩
          rw [← hw5] at hV hB ⊢
          replace hw5 := hide hw5
          replace hgv := hide hgv
          go_loopw [103] (fun s103 wr => ∃ t : Nat, t ≤ 64 ∧ s103 = .int .i64 t ∧ wr.heap[gv]? = some (.cells (v8c (roundsV k (schedL m 64) (V8.of [e0, e1, e2, e3, e4, e5, e6, e7]) t)) 59 (0, 0)) ∧ Below gv w5 wr) (fun s _ => (64 - intOf s).toNat)
          case atStart => exact ⟨0, by omega, rfl, hV, Below.refl _ _⟩
          case round =>
            clear hV
            obtain ⟨t, ht, rfl, hV, hb⟩ := hrel
            obtain ⟨w6, rfl⟩ : ∃ w6, w6 = wr := ⟨_, rfl⟩
            by_cases hlt : t < 64
            · have hlt' : (t : Int) < 64 := by omega
              have ht0 : (0 : Int) ≤ t := by omega
              have h6 := (hb.block g (by omega)).trans ((hB.block g (by omega)).trans h2)
              have hW6 := (hb.block w.heap.size hN).trans ((hB.block w.heap.size hN).trans hW)
              have dk := (cell_blk h6 (8 + t)).trans (st_k he hk t hlt)
              have dw := (cell_blk hW6 t).trans (pad_at _ _ (by rw [length_schedL]; exact hlt))
              have hstep : roundsV k (schedL m 64) (V8.of [e0, e1, e2, e3, e4, e5, e6, e7]) (t + 1) = stepV (roundsV k (schedL m 64) (V8.of [e0, e1, e2, e3, e4, e5, e6, e7]) t) (k.getD t 0) ((schedL m 64).getD t 0) := rfl
              generalize roundsV k (schedL m 64) (V8.of [e0, e1, e2, e3, e4, e5, e6, e7]) t = v at hV hstep
              generalize k.getD t 0 = kt at dk hstep
              generalize (schedL m 64).getD t 0 = wt at dw hstep
              replace hstep := hide hstep
              have hVL : w6.heap[gv]? = some (.cells [cw v.a, cw v.b, cw v.c, cw v.d, cw v.e, cw v.f, cw v.g, cw v.h].toArray 59 (0, 0)) := hV
              have c0 := cell_blk hVL 0
              have c1 := cell_blk hVL 1
              have c2 := cell_blk hVL 2
              have c3 := cell_blk hVL 3
              have c4 := cell_blk hVL 4
              have c5 := cell_blk hVL 5
              have c6 := cell_blk hVL 6
              have c7 := cell_blk hVL 7
              simp only [List.getElem?_cons_zero, List.getElem?_cons_succ] at c0 c1 c2 c3 c4 c5 c6 c7
              clear h6 hW6 hVL z0 z1 z2 z3 z4 z5 z6 z7
              go_wp2_with fail
              go_cut [11] from 106 to 145 (fun s11 wx => s11 = .int .u32 ((oneOf v kt wt).toNat : Int) ∧ ∃ nq, wx = w6.drewN nq)
              case first =>
                go_quiet (first | (go_at_call 54; exact Calls.quiet_of_same (rot_any v.e 6 (by decide) (by decide) _)) | (go_at_call 54; exact Calls.quiet_of_same (rot_any v.e 11 (by decide) (by decide) _)) | (go_at_call 54; exact Calls.quiet_of_same (rot_any v.e 25 (by decide) (by decide) _)))
                go_wp2_with fail
                go_meet
                exact ⟨rfl, nq, rfl⟩
              case rest =>
                obtain ⟨rfl, nq1, rfl⟩ := hcut
                replace hV : (w6.drewN nq1).heap[gv]? = _ := hV
                replace hb : Below gv w5 (w6.drewN nq1) := hb.trans ⟨rfl, rfl, rfl, Nat.le_refl _, fun _ _ => rfl⟩
                replace c0 : (w6.drewN nq1).cell? _ = _ := c0
                replace c1 : (w6.drewN nq1).cell? _ = _ := c1
                replace c2 : (w6.drewN nq1).cell? _ = _ := c2
                replace c3 : (w6.drewN nq1).cell? _ = _ := c3
                replace c4 : (w6.drewN nq1).cell? _ = _ := c4
                replace c5 : (w6.drewN nq1).cell? _ = _ := c5
                replace c6 : (w6.drewN nq1).cell? _ = _ := c6
                replace c7 : (w6.drewN nq1).cell? _ = _ := c7
                clear dk dw
                generalize w6.drewN nq1 = w7 at *
                go_wp2_with fail
                go_cut [12] from 146 to 177 (fun s12 wx => s12 = .int .u32 ((twoOf v).toNat : Int) ∧ ∃ nq, wx = w7.drewN nq)
                case first =>
                  go_quiet (first | (go_at_call 54; exact Calls.quiet_of_same (rot_any v.a 2 (by decide) (by decide) _)) | (go_at_call 54; exact Calls.quiet_of_same (rot_any v.a 13 (by decide) (by decide) _)) | (go_at_call 54; exact Calls.quiet_of_same (rot_any v.a 22 (by decide) (by decide) _)))
                  go_wp2_with fail
                  go_meet
                  exact ⟨rfl, nq, rfl⟩
                case rest =>
                  obtain ⟨rfl, nq2, rfl⟩ := hcut
                  replace hV : (w7.drewN nq2).heap[gv]? = _ := hV
                  replace hb : Below gv w5 (w7.drewN nq2) := hb.trans ⟨rfl, rfl, rfl, Nat.le_refl _, fun _ _ => rfl⟩
                  replace c0 : (w7.drewN nq2).cell? _ = _ := c0
                  replace c1 : (w7.drewN nq2).cell? _ = _ := c1
                  replace c2 : (w7.drewN nq2).cell? _ = _ := c2
                  replace c3 : (w7.drewN nq2).cell? _ = _ := c3
                  replace c4 : (w7.drewN nq2).cell? _ = _ := c4
                  replace c5 : (w7.drewN nq2).cell? _ = _ := c5
                  replace c6 : (w7.drewN nq2).cell? _ = _ := c6
                  replace c7 : (w7.drewN nq2).cell? _ = _ := c7
                  generalize w7.drewN nq2 = w8 at *
                  go_wp2_with fail
                  go_still_tail 2, (by kernel_rfl)
                  change wpList _ _ _ _ _ w8.drew
                  replace hV : w8.drew.heap[gv]? = some (.cells [cw v.a, cw v.b, cw v.c, cw v.d, cw v.e, cw v.f, cw v.g, cw v.h].toArray 59 (0, 0)) := hV
                  replace hb : Below gv w5 w8.drew := hb.trans ⟨rfl, rfl, rfl, Nat.le_refl _, fun _ _ => rfl⟩
                  clear c0 c1 c2 c3 c4 c5 c6 c7
                  generalize w8.drew = w9 at *
                  refine wpList_copy_splice rfl _ _ _ _ rfl 58 Try.underlying92 (by kernel_rfl) _ _ _ _ _ _ rfl rfl gv 1 _ _ hV [cw v.a, cw v.b, cw v.c, cw v.d, cw v.e, cw v.f, cw v.g] rfl (fun _ => ⟨rfl, _, rfl, fun j x hj => ?hsrc⟩) (by simp) (by intro x hx; simp at hx; rcases hx with rfl | rfl | rfl | rfl | rfl | rfl | rfl <;> rfl) gv w5 hb (Nat.le_refl _) ?_
                  case hsrc =>
                    have hj7 : j < 7 := (List.getElem?_eq_some_iff.1 hj).1
                    have hadd : (⟨gv, 0, none⟩ : Addr).add j = ⟨gv, j, none⟩ := by unfold Addr.add; split <;> simp_all
                    rw [hadd, cell_blk hV j, ← hj]
                    exact List.getElem?_append_left (l₂ := [cw v.h]) (l₁ := [cw v.a, cw v.b, cw v.c, cw v.d, cw v.e, cw v.f, cw v.g]) hj7
                  intro w10 h10 hb10
                  have h10 : w10.heap[gv]? = some (.cells [cw v.a, cw v.a, cw v.b, cw v.c, cw v.d, cw v.e, cw v.f, cw v.g].toArray 59 (0, 0)) := h10.out
                  have c4 := cell_blk h10 4
                  have c0 := cell_blk h10 0
                  simp only [List.getElem?_cons_zero, List.getElem?_cons_succ] at c0 c4
                  have f4 := free_blk h10 4
                  have f0 := free_blk h10 0
                  go_wp2_with fail
                  go_roundw
                  case rel =>
                    refine ⟨t + 1, by omega, by go_num, ?_, (hb10.setCell (p := ⟨gv, 4, none⟩) (Nat.le_refl _) _).setCell (p := ⟨gv, 0, none⟩) (Nat.le_refl _) _⟩
                    rw [heap_setCell (heap_setCell h10 _) _, hstep.out]
                    rfl
                  case measure => simp [intOf]; omega
            · obtain rfl : t = 64 := by omega
              clear hlt ht z0 z1 z2 z3 z4 z5 z6 z7
              rw [show ((64 : Nat) : Int) = 64 from rfl]
              have h6 := (hb.block g (by omega)).trans ((hB.block g (by omega)).trans h2)
              have hall : w.grownBy w6 (some g) := grown_ext (hx.trans ((hB.trans hb).mono (Nat.le_of_lt hN))) _
              have hcomp : compress k [e0, e1, e2, e3, e4, e5, e6, e7] m = mixE [e0, e1, e2, e3, e4, e5, e6, e7] (roundsV k (schedL m 64) (V8.of [e0, e1, e2, e3, e4, e5, e6, e7]) 64).list 8 := rfl
              generalize roundsV k (schedL m 64) (V8.of [e0, e1, e2, e3, e4, e5, e6, e7]) 64 = v at hV hcomp
              replace hcomp := hide hcomp
              clear hb hB hW hx h2
              generalize hee : [e0, e1, e2, e3, e4, e5, e6, e7] = e at *
              replace hee := hide hee
              go_wp2_with fail
              go_loopw [191] (fun s191 wr => ∃ i : Nat, i ≤ 8 ∧ s191 = .int .i64 i ∧ wr.heap[g]? = some (.cells (stL (mixE e v.list i) k m hv al).toArray 75 (0, 0)) ∧ wr.heap[gv]? = some (.cells (v8c v) 59 (0, 0)) ∧ w.grownBy wr (some g)) (fun s _ => (8 - intOf s).toNat)
              case atStart => exact ⟨0, by omega, rfl, h6, hV, hall⟩
              case round =>
                clear h6 hV hall
                obtain ⟨i, hi, rfl, h6, hV, hall⟩ := hrel
                obtain ⟨w7, rfl⟩ : ∃ w7, w7 = wr := ⟨_, rfl⟩
                have hel := length_mixE e v.list i
                rw [he] at hel
                by_cases hlt : i < 8
                · have hlt' : (i : Int) < 8 := by omega
                  have hi0 : (0 : Int) ≤ i := by omega
                  have d1 := (cell_blk h6 i).trans (st_e hel i hlt)
                  rw [mixE_at e v.list i i (Nat.le_refl _)] at d1
                  have d2 := (cell_of_row w7 gv i _ _ _ hV).trans (v8c_at v i hlt)
                  have f1 := free_blk h6 i
                  have hmix : mixE e v.list (i + 1) = (mixE e v.list i).set i (addW (e.getD i 0) (v.list.getD i 0)) := rfl
                  generalize e.getD i 0 = x at d1 hmix
                  generalize v.list.getD i 0 = y at d2 hmix
                  replace hmix := hide hmix
                  replace hel := hide hel
                  go_wp2_with fail
                  replace d1 : w7.drew.cell? _ = _ := d1
                  replace d2 : w7.drew.cell? _ = _ := d2
                  replace f1 : w7.drew.frozen? _ = _ := f1
                  go_still_tail 13, (by kernel_rfl)
                  change wpList _ _ _ _ _ w7.drew
                  replace h6 : w7.drew.heap[g]? = _ := h6
                  replace hV : w7.drew.heap[gv]? = _ := hV
                  replace hall := grown_drew hall
                  generalize w7.drew = w8 at *
                  go_wp2_with fail
                  go_roundw
                  case rel =>
                    refine ⟨i + 1, by omega, by go_num, ?_, ?_, grown_set hall i _⟩
                    · rw [heap_setCell h6 _, hmix.out]
                      exact congrArg (fun A => some (Obj.cells A _ _)) (st_set _ k m hv al i (addW x y) (by rw [hel.out]; exact hlt))
                    · exact (Below.heap_setCell _ _ _ _ (by show gv ≠ g; omega)).trans hV
                  case measure => simp [intOf]; omega
                · obtain rfl : i = 8 := by omega
                  clear hlt hi
                  have c1 := (cell_blk h6 136).trans (st_have hel hk hm)
                  have f1 := free_blk h6 136
                  go_wp2_with fail
                  go_end0
                  refine ⟨rfl, ?_, grown_set hall 136 _⟩
                  rw [heap_setCell h6 _, hee.out, hcomp.out]
                  exact congrArg (fun A => some (Obj.cells A _ _)) (st_setHave _ k m hv 0 al hel hk hm)
end Go.Proofs.Ytclghfnmmnnceaa
