/- The walks of the digits of a hash: the program's and the reference's. -/
import Derived.Test.YtclghfnmmnnceaaAgg
import Derived.WalkSpells
import Derived.WalkLawsBesides
import Derived.Deep.AppendLies
import Derived.Deep.RegionLaw
import Derived.OneCell
namespace Go.Proofs.Ytclghfnmmnnceaa
open Go.RowKit
set_option linter.unusedVariables false
set_option linter.unusedSimpArgs false

theorem info_int : (Try.prog.info? 3).map (fun i => (i.zero, i.size, i.bytes)) = some (some (.int .i64 0), 1, 8) := by kernel_rfl

theorem and_three (x : Int) (h0 : 0 ≤ x) (h1 : x ≤ 1000000) : bits BinOp.and IntKind.i64 x 3 = x % 4 := by
  obtain ⟨n, rfl⟩ := Int.eq_ofNat_of_zero_le h0
  show IntKind.i64.wrap ((BitVec.ofInt 64 (n : Int) &&& BitVec.ofInt 64 3).toNat : Int) = _
  rw [BitVec.toNat_and, BitVec.ofInt_natCast, BitVec.toNat_ofNat, Nat.mod_eq_of_lt (by omega), show (BitVec.ofInt 64 3).toNat = 2 ^ 2 - 1 from by decide, Nat.and_two_pow_sub_one_eq_mod, IntKind.wrap_i64]
  omega
theorem far_cell {W w1 : World} {row : Option Nat} (hg : W.grownBy w1 row) {a : Addr} {v : Value} (hc : W.cell? a = some v) (hne : some a.block ≠ row) : w1.cell? a = some v :=
  (hg.cell_far a (block_lt_of_cell hc) hne).trans hc
theorem cell_new {w : World} {a : Addr} {v : Value} (h : w.cell? a = some v) (o : Obj) : (w.alloc o).cell? a = some v :=
  (World.cell?_of_block (Below.heap_alloc w o a.block (block_lt_of_cell h))).trans h
theorem both_new {w : World} {a : Addr} {v : Value} (h : w.cell? a = some v ∧ w.frozen? a = false) (o : Obj) : (w.alloc o).cell? a = some v ∧ (w.alloc o).frozen? a = false :=
  ⟨cell_new h.1 o, (World.frozen?_of_block (Below.heap_alloc w o a.block (block_lt_of_cell h.1))).trans h.2⟩
theorem both_far {W w1 : World} {row : Option Nat} (hg : W.grownBy w1 row) {a : Addr} {v : Value} (h : W.cell? a = some v ∧ W.frozen? a = false) (hne : some a.block ≠ row) : w1.cell? a = some v ∧ w1.frozen? a = false :=
  ⟨far_cell hg h.1 hne, (hg.frozen_far a (block_lt_of_cell h.1) hne).trans h.2⟩
/-- The captured slice and the digits so far. -/
structure SInv (B : Nat) (w0 w : World) (v : Value) (n : Nat) (xs : List Value) : Prop where
  blk : w.heap[B]? = some (.cells #[v] 30 (0, 0))
  own : w.ownsRow B 3 1 v n xs
  bel : Below B w0 w
theorem SInv.far {B : Nat} {w0 w : World} {v : Value} {n : Nat} {xs : List Value} (h : SInv B w0 w v n xs) : some B ≠ v.ownBlock := by
  intro he
  rcases h.own.2 with ⟨rfl, _⟩ | ⟨g, cap, cur, rfl, _, hg, _⟩
  · cases he
  · simp only [Value.ownBlock, Option.some.injEq] at he
    subst he; rw [h.blk] at hg; simp at hg
theorem SInv.step {B : Nat} {w0 w w1 W : World} {v : Value} {n g cap : Nat} {xs : List Value} {X : Obj} (h : SInv B w0 w v n xs) {x : Value}
    (hown : w1.ownsRow B 3 1 (.slice (some ⟨g, 0, none⟩) (n + 1) cap) (n + 1) (xs ++ [x])) (hgrow : W.grownBy w1 v.ownBlock) (hat : v.ownBlock = some g ∨ g = W.heap.size)
    (hW : W.heap = (w.alloc X).heap) (ho : W.os = w.os) (ht : W.tape = w.tape) (hp : W.output = w.output) :
    SInv B w0 (w1.setCell ⟨B, 0, none⟩ (.slice (some ⟨g, 0, none⟩) (n + 1) cap)) (.slice (some ⟨g, 0, none⟩) (n + 1) cap) (n + 1) (xs ++ [x]) := by
  have hlt : B < w.heap.size := lt_of_block h.blk
  have hsz : W.heap.size = w.heap.size + 1 := by rw [hW]; simp
  have hb : w1.heap[B]? = some (.cells #[v] 30 (0, 0)) := by
    rw [hgrow.block B (by omega) h.far, hW]
    exact (Below.heap_alloc w X B hlt).trans h.blk
  have hne : (Value.slice (some ⟨g, 0, none⟩) (n + 1) cap).ownBlock ≠ some B := by
    show some g ≠ some B
    rcases hat with e | e
    · rw [← e]; exact fun e' => h.far e'.symm
    · intro e'; simp only [Option.some.injEq] at e'; omega
  have hrow : ∀ k, v.ownBlock = some k → B ≤ k := by
    intro k hk
    rcases h.own.2 with ⟨rfl, _⟩ | ⟨g, cap, cur, rfl, hg, _⟩
    · cases hk
    · simp only [Value.ownBlock, Option.some.injEq] at hk; omega
  refine ⟨one_setCell hb, ownsRow_setCell_other hown hne _, ?_⟩
  refine Below.setCell (p := ⟨B, 0, none⟩) ?_ (Nat.le_refl B) _
  have b1 : Below B w0 W := ⟨ho.trans h.bel.os, ht.trans h.bel.tape, hp.trans h.bel.output, by have := h.bel.size; omega, fun k hk => by rw [hW]; exact (Below.heap_alloc w X k (by omega)).trans (h.bel.block k hk)⟩
  exact b1.grown hgrow (by omega) hrow

def digs (b : Int) : List Value := [.int .i64 (b / 64 % 4), .int .i64 (b / 16 % 4), .int .i64 (b / 4 % 4), .int .i64 (b % 4)]
set_option maxHeartbeats 4000000 in
theorem split_any (b : Int) (B : Nat) (v : Value) (n : Nat) (xs : List Value) (w0 w : World) (hb0 : 0 ≤ b) (hb1 : b ≤ 1000) (hI0 : SInv B w0 w v n xs) (hn : n ≤ 100) :
    Calls Try.prog 23 #[.int .i64 b, .pointer (some ⟨B, 0, none⟩)] w fun e w' => e = .returned (.tuple #[]) ∧ ∃ v', SInv B w0 w' v' (n + 4) (xs ++ digs b) := by
  obtain ⟨i0, hi, hz0, hz1, hz2⟩ := info_parts info_int
  go_enter Try.func23, Try.ntmps23
  go_wp2
  go_loopw [3] (fun s wr => ∃ k : Nat, k ≤ 4 ∧ s = .int .i64 (6 - 2 * k) ∧ ∃ v', SInv B w0 wr v' (n + k) (xs ++ (digs b).take k)) (fun s _ => (intOf s + 2).toNat)
  case atStart => exact ⟨0, by omega, rfl, v, by simpa using hI0⟩
  case round =>
    obtain ⟨k, hk, rfl, v', hI⟩ := hrel
    rcases (by omega : k = 0 ∨ k = 1 ∨ k = 2 ∨ k = 3 ∨ k = 4) with rfl | rfl | rfl | rfl | rfl
    · have hlt : B < wr.heap.size := lt_of_block hI.blk; have c0 := cell_of_one hI.blk; have f0 := free_of_one hI.blk; have hfar := hI.far; have hb := hI.bel.size; have hA := and_three (b / 64) (by omega) (by omega); go_wp2; go_region_law (refine step_append_lies _ rfl _ _ 30 rfl B 3 i0 (.int .i64 0) 1 8 Try.underlying30 hi hz0 hz1 hz2 rfl (by decide) v' _ _ (by simp [Act.eval, Act.put]) (by first | exact hI.own.alloc _ | exact (hI.own.alloc _).drew) ⟨wr.heap.size, 0, none⟩ 1 1 [.int .i64 (b / 64 % 4)] (by simp [Act.eval, Act.put]) rfl (by intro j u hj; match j, hj with | 0, hj => simp at hj; subst hj; simp [go_sem, Addr.add, hA]) (by intro u hu; simp at hu; subst hu; rfl) (by decide) (by unfold maxLen; omega) (by omega) (by simp; omega) _ rfl ?_; intro g cap w1 hown1 hgrow hat hlt1; have c1 := both_far hgrow (a := ⟨B, 0, none⟩) (both_new ⟨c0, f0⟩ _) hfar; obtain ⟨c1, f1⟩ := c1); all_goals (have hJ := hI.step hown1 hgrow hat rfl rfl rfl rfl; clear hown1 hgrow hat c1 f1 c0 f0 hfar hA hlt1 hlt hb hI; go_wp2; go_roundw; (case rel => exact ⟨0 + 1, by omega, rfl, _, by simpa [digs] using hJ⟩); (case measure => simp [intOf]))
    · have hlt : B < wr.heap.size := lt_of_block hI.blk; have c0 := cell_of_one hI.blk; have f0 := free_of_one hI.blk; have hfar := hI.far; have hb := hI.bel.size; have hA := and_three (b / 16) (by omega) (by omega); go_wp2; go_region_law (refine step_append_lies _ rfl _ _ 30 rfl B 3 i0 (.int .i64 0) 1 8 Try.underlying30 hi hz0 hz1 hz2 rfl (by decide) v' _ _ (by simp [Act.eval, Act.put]) (by first | exact hI.own.alloc _ | exact (hI.own.alloc _).drew) ⟨wr.heap.size, 0, none⟩ 1 1 [.int .i64 (b / 16 % 4)] (by simp [Act.eval, Act.put]) rfl (by intro j u hj; match j, hj with | 0, hj => simp at hj; subst hj; simp [go_sem, Addr.add, hA]) (by intro u hu; simp at hu; subst hu; rfl) (by decide) (by unfold maxLen; omega) (by omega) (by simp; omega) _ rfl ?_; intro g cap w1 hown1 hgrow hat hlt1; have c1 := both_far hgrow (a := ⟨B, 0, none⟩) (both_new ⟨c0, f0⟩ _) hfar; obtain ⟨c1, f1⟩ := c1); all_goals (have hJ := hI.step hown1 hgrow hat rfl rfl rfl rfl; clear hown1 hgrow hat c1 f1 c0 f0 hfar hA hlt1 hlt hb hI; go_wp2; go_roundw; (case rel => exact ⟨1 + 1, by omega, rfl, _, by simpa [digs] using hJ⟩); (case measure => simp [intOf]))
    · have hlt : B < wr.heap.size := lt_of_block hI.blk; have c0 := cell_of_one hI.blk; have f0 := free_of_one hI.blk; have hfar := hI.far; have hb := hI.bel.size; have hA := and_three (b / 4) (by omega) (by omega); go_wp2; go_region_law (refine step_append_lies _ rfl _ _ 30 rfl B 3 i0 (.int .i64 0) 1 8 Try.underlying30 hi hz0 hz1 hz2 rfl (by decide) v' _ _ (by simp [Act.eval, Act.put]) (by first | exact hI.own.alloc _ | exact (hI.own.alloc _).drew) ⟨wr.heap.size, 0, none⟩ 1 1 [.int .i64 (b / 4 % 4)] (by simp [Act.eval, Act.put]) rfl (by intro j u hj; match j, hj with | 0, hj => simp at hj; subst hj; simp [go_sem, Addr.add, hA]) (by intro u hu; simp at hu; subst hu; rfl) (by decide) (by unfold maxLen; omega) (by omega) (by simp; omega) _ rfl ?_; intro g cap w1 hown1 hgrow hat hlt1; have c1 := both_far hgrow (a := ⟨B, 0, none⟩) (both_new ⟨c0, f0⟩ _) hfar; obtain ⟨c1, f1⟩ := c1); all_goals (have hJ := hI.step hown1 hgrow hat rfl rfl rfl rfl; clear hown1 hgrow hat c1 f1 c0 f0 hfar hA hlt1 hlt hb hI; go_wp2; go_roundw; (case rel => exact ⟨2 + 1, by omega, rfl, _, by simpa [digs] using hJ⟩); (case measure => simp [intOf]))
    · have hlt : B < wr.heap.size := lt_of_block hI.blk; have c0 := cell_of_one hI.blk; have f0 := free_of_one hI.blk; have hfar := hI.far; have hb := hI.bel.size; have hA := and_three (b) (by omega) (by omega); go_wp2; go_region_law (refine step_append_lies _ rfl _ _ 30 rfl B 3 i0 (.int .i64 0) 1 8 Try.underlying30 hi hz0 hz1 hz2 rfl (by decide) v' _ _ (by simp [Act.eval, Act.put]) (by first | exact hI.own.alloc _ | exact (hI.own.alloc _).drew) ⟨wr.heap.size, 0, none⟩ 1 1 [.int .i64 (b % 4)] (by simp [Act.eval, Act.put]) rfl (by intro j u hj; match j, hj with | 0, hj => simp at hj; subst hj; simp [go_sem, Addr.add, hA]) (by intro u hu; simp at hu; subst hu; rfl) (by decide) (by unfold maxLen; omega) (by omega) (by simp; omega) _ rfl ?_; intro g cap w1 hown1 hgrow hat hlt1; have c1 := both_far hgrow (a := ⟨B, 0, none⟩) (both_new ⟨c0, f0⟩ _) hfar; obtain ⟨c1, f1⟩ := c1); all_goals (have hJ := hI.step hown1 hgrow hat rfl rfl rfl rfl; clear hown1 hgrow hat c1 f1 c0 f0 hfar hA hlt1 hlt hb hI; go_wp2; go_roundw; (case rel => exact ⟨3 + 1, by omega, rfl, _, by simpa [digs] using hJ⟩); (case measure => simp [intOf]))
    · go_wp2
      go_end0
      exact ⟨rfl, v', by simpa [digs] using hI⟩

/-- The four digits of each byte, and their list. -/
def dg (b : UInt8) : List Int := [(b.toNat : Int) / 64 % 4, (b.toNat : Int) / 16 % 4, (b.toNat : Int) / 4 % 4, (b.toNat : Int) % 4]
def dgs (l : List UInt8) : List Int := l.flatMap dg
def lacksOf (l : List Int) : Int := (l.map fun d => 3 - d).sum
def four (b : Int) : List Int := [b / 64 % 4, b / 16 % 4, b / 4 % 4, b % 4]
/-- All digits of a hash. -/
def digL (h : Bs 32) : List Int := dgs (h.1.take 16) ++ four (lacksOf (dgs (h.1.take 16)))
theorem length_dgs (l : List UInt8) : (dgs l).length = 4 * l.length := by
  induction l with
  | nil => rfl
  | cons b l ih => simp only [dgs, List.flatMap_cons, List.length_append, List.length_cons] at ih ⊢; rw [ih]; simp [dg]; omega
theorem dgs_snoc (l : List UInt8) (b : UInt8) : dgs (l ++ [b]) = dgs l ++ dg b := by simp [dgs]
theorem dgs_range (l : List UInt8) : ∀ d ∈ dgs l, 0 ≤ d ∧ d ≤ 3 := by
  intro d hd
  simp only [dgs, List.mem_flatMap, dg, List.mem_cons, List.not_mem_nil, or_false] at hd
  obtain ⟨b, _, rfl | rfl | rfl | rfl⟩ := hd <;> omega
theorem lacks_snoc (l : List Int) (d : Int) : lacksOf (l ++ [d]) = lacksOf l + (3 - d) := by simp [lacksOf]
theorem lacks_range (l : List Int) (h : ∀ d ∈ l, 0 ≤ d ∧ d ≤ 3) : 0 ≤ lacksOf l ∧ lacksOf l ≤ 3 * l.length := by
  induction l with
  | nil => simp [lacksOf]
  | cons d l ih =>
    have h1 := ih fun x hx => h x (by simp [hx])
    have h2 := h d (by simp)
    simp only [lacksOf, List.map_cons, List.sum_cons, List.length_cons] at h1 ⊢
    omega

theorem bcell_at {n : Nat} {w : World} {g : Nat} {h : Bs n} {t : TypeId} {fr : Nat × Nat} (hg : w.heap[g]? = some (.cells (bcells h) t fr)) (k : Nat) (hk : k < h.1.length) : w.cell? ⟨g, k, none⟩ = some (.int .u8 (h.1[k].toNat : Int)) := by
  rw [cell_of_row w g k _ t fr hg]
  simp [bcells, Extern.Stop.cell, List.getElem?_eq_getElem hk]

set_option maxHeartbeats 1000000 in
theorem digits_any (h : Bs 32) (w : World) :
    Calls Try.prog 8 #[.agg (bcells h)] w fun e w' => ∃ g cap, e = .returned (.slice (some ⟨g, 0, none⟩) 68 cap) ∧ w'.ownsRow (w.heap.size + 1) 3 1 (.slice (some ⟨g, 0, none⟩) 68 cap) 68 ((digL h).map (Value.int .i64)) ∧ Ext w w' := by
  have hmf : ∀ (fn : Fn) (first cap : Array Value) (w : World), (Instr.makeFunc fn first cap).run Try.prog w = .ok (.func fn first cap) w := fun _ _ _ _ => rfl
  have hh : ((w.alloc (.cells (bcells h) 27)).alloc (.cells #[.slice none 0 0] 30)).heap[w.heap.size]? = some (.cells (bcells h) 27 (0, 0)) := heap_alloc2_old _ _ _
  have hI0 : SInv (w.heap.size + 1) ((w.alloc (.cells (bcells h) 27)).alloc (.cells #[.slice none 0 0] 30)) ((w.alloc (.cells (bcells h) 27)).alloc (.cells #[.slice none 0 0] 30)) (.slice none 0 0) 0 [] :=
    ⟨heap_alloc2_new _ _ _, World.ownsRow_nil _ _ _ _, Below.refl _ _⟩
  have he0 : Ext w ((w.alloc (.cells (bcells h) 27)).alloc (.cells #[.slice none 0 0] 30)) := by go_grown
  have hl := h.2
  have hh := hide hh
  have hl := hide hl
  generalize hW : (w.alloc (.cells (bcells h) 27)).alloc (.cells #[.slice none 0 0] 30) = W at hI0 he0 hh
  have hW := hide hW
  go_enter Try.func8, Try.ntmps8
  go_wp2_with fail
  go_loopw [13] (fun i wr => ∃ k : Nat, k ≤ 16 ∧ i = .int .i64 k ∧ ∃ v', SInv (w.heap.size + 1) W wr v' (4 * k) ((dgs (h.1.take k)).map (Value.int .i64))) (fun i _ => 16 - (intOf i).toNat)
  case atStart => exact ⟨0, by omega, rfl, _, by simpa [dgs] using hI0⟩
  case round =>
    obtain ⟨k, hk, rfl, v', hI⟩ := hrel
    by_cases hlt : k < 16
    · have hcx : wr.cell? ⟨w.heap.size, k, none⟩ = some (.int .u8 ((h.1[k]'(by rw [hl.out]; omega)).toNat : Int)) :=
        (hI.bel.cell (p := ⟨w.heap.size, k, none⟩) (by simp)).trans (bcell_at hh.out k _)
      have hx := UInt8.toNat_lt (h.1[k]'(by rw [hl.out]; omega))
      have hs : dgs (h.1.take (k + 1)) = dgs (h.1.take k) ++ dg (h.1[k]'(by rw [hl.out]; omega)) := by
        rw [List.take_succ_eq_append_getElem (by rw [hl.out]; omega), dgs_snoc]
      have hs := hide hs
      generalize (h.1[k]'(by rw [hl.out]; omega)) = x at hcx hx hs
      go_wp2_with (go_at_call 23; refine (split_any x.toNat _ _ _ _ _ _ (by omega) (by omega) hI (by omega)).mono ?_; rintro e w' ⟨rfl, v2, hI2⟩)
      go_roundw
      case rel => exact ⟨k + 1, by omega, by go_num, v2, by rw [hs.out]; simpa [digs, dg, Nat.mul_add] using hI2⟩
      case measure => simp [intOf]; omega
    · obtain rfl : k = 16 := by omega
      have c0 := cell_of_one hI.blk
      have hlen : (dgs (h.1.take 16)).length = 64 := by rw [length_dgs, List.length_take, hl.out]; rfl
      have hrg := dgs_range (h.1.take 16)
      generalize hD : dgs (h.1.take 16) = D at hI hlen hrg
      have hlen := hide hlen
      have hrg := hide hrg
      have hD := hide hD
      obtain ⟨g, cap, rfl, hgB, hglt⟩ := hI.own.form (by omega)
      have hown := hI.own
      go_wp2_with fail
      go_loop [4, 24] (fun s i => ∃ j : Nat, j ≤ 64 ∧ i = .int .i64 j ∧ s = .int .i64 (lacksOf (D.take j))) (fun _ i => 64 - (intOf i).toNat)
      case atStart => exact ⟨0, by omega, rfl, rfl⟩
      case round =>
        obtain ⟨j, hj, rfl, rfl⟩ := hrel
        by_cases hlt2 : j < 64
        · have hcd : wr.cell? ⟨g, j, none⟩ = some (.int .i64 (D[j]'(by rw [hlen.out]; omega))) := by
            rw [hown.cellAt j (by omega), List.getElem?_map, List.getElem?_eq_getElem (by rw [hlen.out]; omega)]; rfl
          have hd := hrg.out _ (List.getElem_mem (l := D) (n := j) (by rw [hlen.out]; omega))
          have hs : lacksOf (D.take (j + 1)) = lacksOf (D.take j) + (3 - D[j]'(by rw [hlen.out]; omega)) := by
            rw [List.take_succ_eq_append_getElem (by rw [hlen.out]; omega), lacks_snoc]
          have hr := lacks_range (D.take j) (fun d hd => hrg.out d (List.mem_of_mem_take hd))
          have hr2 : (D.take j).length ≤ 64 := by rw [List.length_take]; omega
          obtain ⟨hr0, hr1⟩ := hr
          obtain ⟨hd0, hd1⟩ := hd
          have hr3 : lacksOf (D.take j) ≤ 192 := by omega
          clear hr1 hr2
          generalize (D[j]'(by rw [hlen.out]; omega)) = x at hcd hs hd0 hd1
          generalize lacksOf (D.take j) = y at hs hr0 hr3
          have hs := hide hs
          go_wp2_with fail
          go_round
          case rel => exact ⟨j + 1, by omega, by go_num, by rw [hs.out]⟩
          case measure => simp [intOf]; omega
        · obtain rfl : j = 64 := by omega
          have ht : D.take 64 = D := List.take_of_length_le (by rw [hlen.out]; omega)
          have hr := lacks_range D hrg.out
          rw [hlen.out] at hr
          obtain ⟨hr0, hr1⟩ := hr
          rw [ht]
          have hL := hD.out
          generalize hy : lacksOf D = y at hr0 hr1
          have hy := hide hy
          clear hL
          go_wp2_with (go_at_call 23; refine (split_any y _ _ _ _ _ _ (by omega) (by omega) hI (by omega)).mono ?_; rintro e w' ⟨rfl, v3, hI3⟩; obtain ⟨g3, cap3, rfl, hg3, hl3⟩ := hI3.own.form (by omega); have c3 := cell_of_one hI3.blk)
          go_ret
          refine ⟨g3, cap3, rfl, ?_, he0.trans (hI3.bel.mono (by omega))⟩
          have h3 := hI3.own
          have e1 : (digL h).map (Value.int .i64) = D.map (Value.int .i64) ++ digs y := by
            rw [digL, hD.out, hy.out]; simp [four, digs]
          rw [e1]
          exact h3
end Go.Proofs.Ytclghfnmmnnceaa
