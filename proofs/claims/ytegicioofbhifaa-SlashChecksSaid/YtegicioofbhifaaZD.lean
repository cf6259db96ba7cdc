/- Merged texts: WotsD WotsR WotsP WotsK Laid Chain StepW StepT HalfR Secret SecEq AppK JoinW Digs EachW PubW SignW RecW MakeW. -/
import Derived.Test.YtegicioofbhifaaZA
import Derived.WalkSpells
import Derived.WalkLawsBesides
import Derived.Deep.AppendLies
import Derived.Deep.RegionLaw
import Derived.OneCell
import Derived.Deep.RegionWith
import Derived.Deep.DeepCutAuto
import Derived.BigQuiet
import Derived.Deep.QuietTactic
import Derived.Test.YtegicioofbhifaaZB
import Derived.Test.YtegicioofbhifaaZC
import Derived.Laws.Cover3
import Derived.ChangeKeysEq
import Derived.Laws.AppendOwnNone
import Derived.Lib.LazyBuf
import Derived.Lib.SmallJoins
/- The walks of the digits of a hash: the program's and the reference's. -/
namespace Go.Proofs.Ytegicioofbhifaa
open Go.RowKit
set_option linter.unusedVariables false
set_option linter.unusedSimpArgs false

theorem info_int : (Try.prog.info? 3).map (fun i => (i.zero, i.size, i.bytes)) = some (some (.int .i64 0), 1, 8) := by kernel_rfl

theorem and_three (x : Int) (h0 : 0 ≤ x) (h1 : x ≤ 1000000) : bits BinOp.and IntKind.i64 x 3 = x % 4 := by
  obtain ⟨n, rfl⟩ := Int.eq_ofNat_of_zero_le h0
  show IntKind.i64.wrap ((BitVec.ofInt 64 (n : Int) &&& BitVec.ofInt 64 3).toNat : Int) = _
  rw [BitVec.toNat_and, BitVec.ofInt_natCast, BitVec.toNat_ofNat, Nat.mod_eq_of_lt (by omega), show (BitVec.ofInt 64 3).toNat = 2 ^ 2 - 1 from by decide, Nat.and_two_pow_sub_one_eq_mod, IntKind.wrap_i64]
  omega
theorem far_cell {W w1 : World} {row : Option Nat} (hg : W.grownBy w1 row) {a : Addr} {v : Value} (hc : W.cell? a = some v) (hne : some a.block ≠ row) : w1.cell? a = some v :=
  (hg.cell_far a (block_lt_of_cell hc) hne).trans hc
theorem cell_new {w : World} {a : Addr} {v : Value} (h : w.cell? a = some v) (o : Obj) : (w.alloc o).cell? a = some v :=
  (World.cell?_of_block (Below.heap_alloc w o a.block (block_lt_of_cell h))).trans h
theorem both_new {w : World} {a : Addr} {v : Value} (h : w.cell? a = some v ∧ w.frozen? a = false) (o : Obj) : (w.alloc o).cell? a = some v ∧ (w.alloc o).frozen? a = false :=
  ⟨cell_new h.1 o, (World.frozen?_of_block (Below.heap_alloc w o a.block (block_lt_of_cell h.1))).trans h.2⟩
theorem both_far {W w1 : World} {row : Option Nat} (hg : W.grownBy w1 row) {a : Addr} {v : Value} (h : W.cell? a = some v ∧ W.frozen? a = false) (hne : some a.block ≠ row) : w1.cell? a = some v ∧ w1.frozen? a = false :=
  ⟨far_cell hg h.1 hne, (hg.frozen_far a (block_lt_of_cell h.1) hne).trans h.2⟩
/-- The captured slice and the digits so far. -/
structure SInv (B : Nat) (w0 w : World) (v : Value) (n : Nat) (xs : List Value) : Prop where
  blk : w.heap[B]? = some (.cells #[v] 100 (0, 0))
  own : w.ownsRow B 3 1 v n xs
  bel : Below B w0 w
theorem SInv.far {B : Nat} {w0 w : World} {v : Value} {n : Nat} {xs : List Value} (h : SInv B w0 w v n xs) : some B ≠ v.ownBlock := by
  intro he
  rcases h.own.2 with ⟨rfl, _⟩ | ⟨g, cap, cur, rfl, _, hg, _⟩
  · cases he
  · simp only [Value.ownBlock, Option.some.injEq] at he
    subst he; rw [h.blk] at hg; simp at hg
theorem SInv.step {B : Nat} {w0 w w1 W : World} {v : Value} {n g cap : Nat} {xs : List Value} {X : Obj} (h : SInv B w0 w v n xs) {x : Value}
    (hown : w1.ownsRow B 3 1 (.slice (some ⟨g, 0, none⟩) (n + 1) cap) (n + 1) (xs ++ [x])) (hgrow : W.grownBy w1 v.ownBlock) (hat : v.ownBlock = some g ∨ g = W.heap.size)
    (hW : W.heap = (w.alloc X).heap) (ho : W.os = w.os) (ht : W.tape = w.tape) (hp : W.output = w.output) :
    SInv B w0 (w1.setCell ⟨B, 0, none⟩ (.slice (some ⟨g, 0, none⟩) (n + 1) cap)) (.slice (some ⟨g, 0, none⟩) (n + 1) cap) (n + 1) (xs ++ [x]) := by
  have hlt : B < w.heap.size := lt_of_block h.blk
  have hsz : W.heap.size = w.heap.size + 1 := by rw [hW]; simp
  have hb : w1.heap[B]? = some (.cells #[v] 100 (0, 0)) := by
    rw [hgrow.block B (by omega) h.far, hW]
    exact (Below.heap_alloc w X B hlt).trans h.blk
  have hne : (Value.slice (some ⟨g, 0, none⟩) (n + 1) cap).ownBlock ≠ some B := by
    show some g ≠ some B
    rcases hat with e | e
    · rw [← e]; exact fun e' => h.far e'.symm
    · intro e'; simp only [Option.some.injEq] at e'; omega
  have hrow : ∀ k, v.ownBlock = some k → B ≤ k := by
    intro k hk
    rcases h.own.2 with ⟨rfl, _⟩ | ⟨g, cap, cur, rfl, hg, _⟩
    · cases hk
    · simp only [Value.ownBlock, Option.some.injEq] at hk; omega
  refine ⟨one_setCell hb, ownsRow_setCell_other hown hne _, ?_⟩
  refine Below.setCell (p := ⟨B, 0, none⟩) ?_ (Nat.le_refl B) _
  have b1 : Below B w0 W := ⟨ho.trans h.bel.os, ht.trans h.bel.tape, hp.trans h.bel.output, by have := h.bel.size; omega, fun k hk => by rw [hW]; exact (Below.heap_alloc w X k (by omega)).trans (h.bel.block k hk)⟩
  exact b1.grown hgrow (by omega) hrow

def digs (b : Int) : List Value := [.int .i64 (b / 64 % 4), .int .i64 (b / 16 % 4), .int .i64 (b / 4 % 4), .int .i64 (b % 4)]
set_option maxHeartbeats 4000000 in
theorem split_any (b : Int) (B : Nat) (v : Value) (n : Nat) (xs : List Value) (w0 w : World) (hb0 : 0 ≤ b) (hb1 : b ≤ 1000) (hI0 : SInv B w0 w v n xs) (hn : n ≤ 100) :
    Calls Try.prog 101 #[.int .i64 b, .pointer (some ⟨B, 0, none⟩)] w fun e w' => e = .returned (.tuple #[]) ∧ ∃ v', SInv B w0 w' v' (n + 4) (xs ++ digs b) := by
  obtain ⟨i0, hi, hz0, hz1, hz2⟩ := info_parts info_int
  go_enter Try.func101, Try.ntmps101
  go_wp2
  go_loopw [3] (fun s wr => ∃ k : Nat, k ≤ 4 ∧ s = .int .i64 (6 - 2 * k) ∧ ∃ v', SInv B w0 wr v' (n + k) (xs ++ (digs b).take k)) (fun s _ => (intOf s + 2).toNat)
  case atStart => exact ⟨0, by omega, rfl, v, by simpa using hI0⟩
  case round =>
    obtain ⟨k, hk, rfl, v', hI⟩ := hrel
    rcases (by omega : k = 0 ∨ k = 1 ∨ k = 2 ∨ k = 3 ∨ k = 4) with rfl | rfl | rfl | rfl | rfl
    · have hlt : B < wr.heap.size := lt_of_block hI.blk; have c0 := cell_of_one hI.blk; have f0 := free_of_one hI.blk; have hfar := hI.far; have hb := hI.bel.size; have hA := and_three (b / 64) (by omega) (by omega); go_wp2; go_region_law (refine step_append_lies _ rfl _ _ 100 rfl B 3 i0 (.int .i64 0) 1 8 Try.underlying100 hi hz0 hz1 hz2 rfl (by decide) v' _ _ (by simp [Act.eval, Act.put]) (by first | exact hI.own.alloc _ | exact (hI.own.alloc _).drew) ⟨wr.heap.size, 0, none⟩ 1 1 [.int .i64 (b / 64 % 4)] (by simp [Act.eval, Act.put]) rfl (by intro j u hj; match j, hj with | 0, hj => simp at hj; subst hj; simp [go_sem, Addr.add, hA]) (by intro u hu; simp at hu; subst hu; rfl) (by decide) (by unfold maxLen; omega) (by omega) (by simp; omega) _ rfl ?_; intro g cap w1 hown1 hgrow hat hlt1; have c1 := both_far hgrow (a := ⟨B, 0, none⟩) (both_new ⟨c0, f0⟩ _) hfar; obtain ⟨c1, f1⟩ := c1); all_goals (have hJ := hI.step hown1 hgrow hat rfl rfl rfl rfl; clear hown1 hgrow hat c1 f1 c0 f0 hfar hA hlt1 hlt hb hI; go_wp2; go_roundw; (case rel => exact ⟨0 + 1, by omega, rfl, _, by simpa [digs] using hJ⟩); (case measure => simp [intOf]))
    · have hlt : B < wr.heap.size := lt_of_block hI.blk; have c0 := cell_of_one hI.blk; have f0 := free_of_one hI.blk; have hfar := hI.far; have hb := hI.bel.size; have hA := and_three (b / 16) (by omega) (by omega); go_wp2; go_region_law (refine step_append_lies _ rfl _ _ 100 rfl B 3 i0 (.int .i64 0) 1 8 Try.underlying100 hi hz0 hz1 hz2 rfl (by decide) v' _ _ (by simp [Act.eval, Act.put]) (by first | exact hI.own.alloc _ | exact (hI.own.alloc _).drew) ⟨wr.heap.size, 0, none⟩ 1 1 [.int .i64 (b / 16 % 4)] (by simp [Act.eval, Act.put]) rfl (by intro j u hj; match j, hj with | 0, hj => simp at hj; subst hj; simp [go_sem, Addr.add, hA]) (by intro u hu; simp at hu; subst hu; rfl) (by decide) (by unfold maxLen; omega) (by omega) (by simp; omega) _ rfl ?_; intro g cap w1 hown1 hgrow hat hlt1; have c1 := both_far hgrow (a := ⟨B, 0, none⟩) (both_new ⟨c0, f0⟩ _) hfar; obtain ⟨c1, f1⟩ := c1); all_goals (have hJ := hI.step hown1 hgrow hat rfl rfl rfl rfl; clear hown1 hgrow hat c1 f1 c0 f0 hfar hA hlt1 hlt hb hI; go_wp2; go_roundw; (case rel => exact ⟨1 + 1, by omega, rfl, _, by simpa [digs] using hJ⟩); (case measure => simp [intOf]))
    · have hlt : B < wr.heap.size := lt_of_block hI.blk; have c0 := cell_of_one hI.blk; have f0 := free_of_one hI.blk; have hfar := hI.far; have hb := hI.bel.size; have hA := and_three (b / 4) (by omega) (by omega); go_wp2; go_region_law (refine step_append_lies _ rfl _ _ 100 rfl B 3 i0 (.int .i64 0) 1 8 Try.underlying100 hi hz0 hz1 hz2 rfl (by decide) v' _ _ (by simp [Act.eval, Act.put]) (by first | exact hI.own.alloc _ | exact (hI.own.alloc _).drew) ⟨wr.heap.size, 0, none⟩ 1 1 [.int .i64 (b / 4 % 4)] (by simp [Act.eval, Act.put]) rfl (by intro j u hj; match j, hj with | 0, hj => simp at hj; subst hj; simp [go_sem, Addr.add, hA]) (by intro u hu; simp at hu; subst hu; rfl) (by decide) (by unfold maxLen; omega) (by omega) (by simp; omega) _ rfl ?_; intro g cap w1 hown1 hgrow hat hlt1; have c1 := both_far hgrow (a := ⟨B, 0, none⟩) (both_new ⟨c0, f0⟩ _) hfar; obtain ⟨c1, f1⟩ := c1); all_goals (have hJ := hI.step hown1 hgrow hat rfl rfl rfl rfl; clear hown1 hgrow hat c1 f1 c0 f0 hfar hA hlt1 hlt hb hI; go_wp2; go_roundw; (case rel => exact ⟨2 + 1, by omega, rfl, _, by simpa [digs] using hJ⟩); (case measure => simp [intOf]))
    · have hlt : B < wr.heap.size := lt_of_block hI.blk; have c0 := cell_of_one hI.blk; have f0 := free_of_one hI.blk; have hfar := hI.far; have hb := hI.bel.size; have hA := and_three (b) (by omega) (by omega); go_wp2; go_region_law (refine step_append_lies _ rfl _ _ 100 rfl B 3 i0 (.int .i64 0) 1 8 Try.underlying100 hi hz0 hz1 hz2 rfl (by decide) v' _ _ (by simp [Act.eval, Act.put]) (by first | exact hI.own.alloc _ | exact (hI.own.alloc _).drew) ⟨wr.heap.size, 0, none⟩ 1 1 [.int .i64 (b % 4)] (by simp [Act.eval, Act.put]) rfl (by intro j u hj; match j, hj with | 0, hj => simp at hj; subst hj; simp [go_sem, Addr.add, hA]) (by intro u hu; simp at hu; subst hu; rfl) (by decide) (by unfold maxLen; omega) (by omega) (by simp; omega) _ rfl ?_; intro g cap w1 hown1 hgrow hat hlt1; have c1 := both_far hgrow (a := ⟨B, 0, none⟩) (both_new ⟨c0, f0⟩ _) hfar; obtain ⟨c1, f1⟩ := c1); all_goals (have hJ := hI.step hown1 hgrow hat rfl rfl rfl rfl; clear hown1 hgrow hat c1 f1 c0 f0 hfar hA hlt1 hlt hb hI; go_wp2; go_roundw; (case rel => exact ⟨3 + 1, by omega, rfl, _, by simpa [digs] using hJ⟩); (case measure => simp [intOf]))
    · go_wp2
      go_end0
      exact ⟨rfl, v', by simpa [digs] using hI⟩

/-- The four digits of each byte, and their list. -/
def dg (b : UInt8) : List Int := [(b.toNat : Int) / 64 % 4, (b.toNat : Int) / 16 % 4, (b.toNat : Int) / 4 % 4, (b.toNat : Int) % 4]
def dgs (l : List UInt8) : List Int := l.flatMap dg
def lacksOf (l : List Int) : Int := (l.map fun d => 3 - d).sum
def four (b : Int) : List Int := [b / 64 % 4, b / 16 % 4, b / 4 % 4, b % 4]
/-- All digits of a hash. -/
def digL (h : Bs 32) : List Int := dgs (h.1.take 16) ++ four (lacksOf (dgs (h.1.take 16)))
theorem length_dgs (l : List UInt8) : (dgs l).length = 4 * l.length := by
  induction l with
  | nil => rfl
  | cons b l ih => simp only [dgs, List.flatMap_cons, List.length_append, List.length_cons] at ih ⊢; rw [ih]; simp [dg]; omega
theorem dgs_snoc (l : List UInt8) (b : UInt8) : dgs (l ++ [b]) = dgs l ++ dg b := by simp [dgs]
theorem dgs_range (l : List UInt8) : ∀ d ∈ dgs l, 0 ≤ d ∧ d ≤ 3 := by
  intro d hd
  simp only [dgs, List.mem_flatMap, dg, List.mem_cons, List.not_mem_nil, or_false] at hd
  obtain ⟨b, _, rfl | rfl | rfl | rfl⟩ := hd <;> omega
theorem lacks_snoc (l : List Int) (d : Int) : lacksOf (l ++ [d]) = lacksOf l + (3 - d) := by simp [lacksOf]
theorem lacks_range (l : List Int) (h : ∀ d ∈ l, 0 ≤ d ∧ d ≤ 3) : 0 ≤ lacksOf l ∧ lacksOf l ≤ 3 * l.length := by
  induction l with
  | nil => simp [lacksOf]
  | cons d l ih =>
    have h1 := ih fun x hx => h x (by simp [hx])
    have h2 := h d (by simp)
    simp only [lacksOf, List.map_cons, List.sum_cons, List.length_cons] at h1 ⊢
    omega

theorem bcell_at {n : Nat} {w : World} {g : Nat} {h : Bs n} {t : TypeId} {fr : Nat × Nat} (hg : w.heap[g]? = some (.cells (bcells h) t fr)) (k : Nat) (hk : k < h.1.length) : w.cell? ⟨g, k, none⟩ = some (.int .u8 (h.1[k].toNat : Int)) := by
  rw [cell_of_row w g k _ t fr hg]
  simp [bcells, Extern.Stop.cell, List.getElem?_eq_getElem hk]

set_option maxHeartbeats 1000000 in
theorem digits_any (h : Bs 32) (w : World) :
    Calls Try.prog 72 #[.agg (bcells h)] w fun e w' => ∃ g cap, e = .returned (.slice (some ⟨g, 0, none⟩) 68 cap) ∧ w'.ownsRow (w.heap.size + 1) 3 1 (.slice (some ⟨g, 0, none⟩) 68 cap) 68 ((digL h).map (Value.int .i64)) ∧ Ext w w' := by
  have hmf : ∀ (fn : Fn) (first cap : Array Value) (w : World), (Instr.makeFunc fn first cap).run Try.prog w = .ok (.func fn first cap) w := fun _ _ _ _ => rfl
  have hh : ((w.alloc (.cells (bcells h) 23)).alloc (.cells #[.slice none 0 0] 100)).heap[w.heap.size]? = some (.cells (bcells h) 23 (0, 0)) := heap_alloc2_old _ _ _
  have hI0 : SInv (w.heap.size + 1) ((w.alloc (.cells (bcells h) 23)).alloc (.cells #[.slice none 0 0] 100)) ((w.alloc (.cells (bcells h) 23)).alloc (.cells #[.slice none 0 0] 100)) (.slice none 0 0) 0 [] :=
    ⟨heap_alloc2_new _ _ _, World.ownsRow_nil _ _ _ _, Below.refl _ _⟩
  have he0 : Ext w ((w.alloc (.cells (bcells h) 23)).alloc (.cells #[.slice none 0 0] 100)) := by go_grown
  have hl := h.2
  have hh := hide hh
  have hl := hide hl
  generalize hW : (w.alloc (.cells (bcells h) 23)).alloc (.cells #[.slice none 0 0] 100) = W at hI0 he0 hh
  have hW := hide hW
  go_enter Try.func72, Try.ntmps72
  go_wp2_with fail
  go_loopw [13] (fun i wr => ∃ k : Nat, k ≤ 16 ∧ i = .int .i64 k ∧ ∃ v', SInv (w.heap.size + 1) W wr v' (4 * k) ((dgs (h.1.take k)).map (Value.int .i64))) (fun i _ => 16 - (intOf i).toNat)
  case atStart => exact ⟨0, by omega, rfl, _, by simpa [dgs] using hI0⟩
  case round =>
    obtain ⟨k, hk, rfl, v', hI⟩ := hrel
    by_cases hlt : k < 16
    · have hcx : wr.cell? ⟨w.heap.size, k, none⟩ = some (.int .u8 ((h.1[k]'(by rw [hl.out]; omega)).toNat : Int)) :=
        (hI.bel.cell (p := ⟨w.heap.size, k, none⟩) (by simp)).trans (bcell_at hh.out k _)
      have hx := UInt8.toNat_lt (h.1[k]'(by rw [hl.out]; omega))
      have hs : dgs (h.1.take (k + 1)) = dgs (h.1.take k) ++ dg (h.1[k]'(by rw [hl.out]; omega)) := by
        rw [List.take_succ_eq_append_getElem (by rw [hl.out]; omega), dgs_snoc]
      have hs := hide hs
      generalize (h.1[k]'(by rw [hl.out]; omega)) = x at hcx hx hs
      go_wp2_with (go_at_call 101; refine (split_any x.toNat _ _ _ _ _ _ (by omega) (by omega) hI (by omega)).mono ?_; rintro e w' ⟨rfl, v2, hI2⟩)
      go_roundw
      case rel => exact ⟨k + 1, by omega, by go_num, v2, by rw [hs.out]; simpa [digs, dg, Nat.mul_add] using hI2⟩
      case measure => simp [intOf]; omega
    · obtain rfl : k = 16 := by omega
      have c0 := cell_of_one hI.blk
      have hlen : (dgs (h.1.take 16)).length = 64 := by rw [length_dgs, List.length_take, hl.out]; rfl
      have hrg := dgs_range (h.1.take 16)
      generalize hD : dgs (h.1.take 16) = D at hI hlen hrg
      have hlen := hide hlen
      have hrg := hide hrg
      have hD := hide hD
      obtain ⟨g, cap, rfl, hgB, hglt⟩ := hI.own.form (by omega)
      have hown := hI.own
      go_wp2_with fail
      go_loop [4, 24] (fun s i => ∃ j : Nat, j ≤ 64 ∧ i = .int .i64 j ∧ s = .int .i64 (lacksOf (D.take j))) (fun _ i => 64 - (intOf i).toNat)
      case atStart => exact ⟨0, by omega, rfl, rfl⟩
      case round =>
        obtain ⟨j, hj, rfl, rfl⟩ := hrel
        by_cases hlt2 : j < 64
        · have hcd : wr.cell? ⟨g, j, none⟩ = some (.int .i64 (D[j]'(by rw [hlen.out]; omega))) := by
            rw [hown.cellAt j (by omega), List.getElem?_map, List.getElem?_eq_getElem (by rw [hlen.out]; omega)]; rfl
          have hd := hrg.out _ (List.getElem_mem (l := D) (n := j) (by rw [hlen.out]; omega))
          have hs : lacksOf (D.take (j + 1)) = lacksOf (D.take j) + (3 - D[j]'(by rw [hlen.out]; omega)) := by
            rw [List.take_succ_eq_append_getElem (by rw [hlen.out]; omega), lacks_snoc]
          have hr := lacks_range (D.take j) (fun d hd => hrg.out d (List.mem_of_mem_take hd))
          have hr2 : (D.take j).length ≤ 64 := by rw [List.length_take]; omega
          obtain ⟨hr0, hr1⟩ := hr
          obtain ⟨hd0, hd1⟩ := hd
          have hr3 : lacksOf (D.take j) ≤ 192 := by omega
          clear hr1 hr2
          generalize (D[j]'(by rw [hlen.out]; omega)) = x at hcd hs hd0 hd1
          generalize lacksOf (D.take j) = y at hs hr0 hr3
          have hs := hide hs
          go_wp2_with fail
          go_round
          case rel => exact ⟨j + 1, by omega, by go_num, by rw [hs.out]⟩
          case measure => simp [intOf]; omega
        · obtain rfl : j = 64 := by omega
          have ht : D.take 64 = D := List.take_of_length_le (by rw [hlen.out]; omega)
          have hr := lacks_range D hrg.out
          rw [hlen.out] at hr
          obtain ⟨hr0, hr1⟩ := hr
          rw [ht]
          have hL := hD.out
          generalize hy : lacksOf D = y at hr0 hr1
          have hy := hide hy
          clear hL
          go_wp2_with (go_at_call 101; refine (split_any y _ _ _ _ _ _ (by omega) (by omega) hI (by omega)).mono ?_; rintro e w' ⟨rfl, v3, hI3⟩; obtain ⟨g3, cap3, rfl, hg3, hl3⟩ := hI3.own.form (by omega); have c3 := cell_of_one hI3.blk)
          go_ret
          refine ⟨g3, cap3, rfl, ?_, he0.trans (hI3.bel.mono (by omega))⟩
          have h3 := hI3.own
          have e1 : (digL h).map (Value.int .i64) = D.map (Value.int .i64) ++ digs y := by
            rw [digL, hD.out, hy.out]; simp [four, digs]
          rw [e1]
          exact h3
end Go.Proofs.Ytegicioofbhifaa
/- The walk of the reference's digits of a hash. -/
namespace Go.Proofs.Ytegicioofbhifaa
open Go.RowKit
set_option linter.unusedVariables false
set_option linter.unusedSimpArgs false

theorem dgs_get (l : List UInt8) : ∀ (q : Nat) (hq : q < l.length) (r : Nat) (hr : r < 4), (dgs l)[4 * q + r]? = (dg l[q])[r]? := by
  induction l with
  | nil => intro q hq; simp at hq
  | cons b l ih =>
    intro q hq r hr
    have e : dgs (b :: l) = dg b ++ dgs l := by simp [dgs]
    have h4 : (dg b).length = 4 := rfl
    rw [e]
    cases q with
    | zero => rw [List.getElem?_append_left (by omega)]; simp
    | succ q =>
      rw [List.getElem?_append_right (by omega), h4, show 4 * (q + 1) + r - 4 = 4 * q + r from by omega, ih q (by simpa using hq) r hr]
      simp

theorem own_rows {w : World} {base : Nat} {e : TypeId} {size : Nat} {v : Value} {n : Nat} {xs : List Value} (h : w.ownsRow base e size v n xs) : ∀ k, v.ownBlock = some k → base ≤ k := by
  intro k hk
  rcases h.2 with ⟨rfl, _⟩ | ⟨g, cap, cur, rfl, hg, _⟩
  · cases hk
  · simp only [Value.ownBlock, Option.some.injEq] at hk; omega
set_option maxHeartbeats 4000000 in
set_option maxRecDepth 100000 in
theorem refDigits_any (h : Bs 32) (w : World) :
    Calls Try.prog 43 #[.agg (bcells h)] w fun e w' => ∃ g cap, e = .returned (.slice (some ⟨g, 0, none⟩) 68 cap) ∧ w'.ownsRow (w.heap.size + 1) 3 1 (.slice (some ⟨g, 0, none⟩) 68 cap) 68 ((digL h).map (Value.int .i64)) ∧ Ext w w' := by
  obtain ⟨i0, hi, hz0, hz1, hz2⟩ := info_parts info_int
  have he0 : Ext w (w.alloc (.cells (bcells h) 23)) := by go_grown
  have hh := hide (heap_alloc_new w (.cells (bcells h) 23))
  have hl := hide h.2
  have hlen : (dgs (h.1.take 16)).length = 64 := by rw [length_dgs, List.length_take, hl.out]; rfl
  have hrg := hide (dgs_range (h.1.take 16))
  have hlen := hide hlen
  have hget : ∀ (q : Nat) (hq : q < 16) (r : Nat) (hr : r < 4), (dgs (h.1.take 16))[4 * q + r]? = (dg (h.1[q]'(by rw [hl.out]; omega)))[r]? := by
    intro q hq r hr
    rw [dgs_get _ q (by rw [List.length_take, hl.out]; omega) r hr, List.getElem_take]
  have hget := hide hget
  generalize hD : dgs (h.1.take 16) = D at hlen hrg hget
  have hD := hide hD
  go_enter Try.func43, Try.ntmps43
  go_wp2_with fail
  go_loopw [3, 4, 5] (fun v s i wr => ∃ k : Nat, k ≤ 64 ∧ i = .int .i64 k ∧ s = .int .i64 (lacksOf (D.take k)) ∧ wr.ownsRow (w.heap.size + 1) 3 1 v k ((D.take k).map (Value.int .i64)) ∧ Below (w.heap.size + 1) (w.alloc (.cells (bcells h) 23)) wr) (fun _ _ i _ => 64 - (intOf i).toNat)
  case atStart => exact ⟨0, by omega, rfl, rfl, World.ownsRow_nil _ _ _ _, Below.refl _ _⟩
  case round =>
    obtain ⟨k, hk, rfl, rfl, hown, hbel⟩ := hrel
    have hsz := hbel.size
    simp only [World.size_alloc] at hsz
    by_cases hlt : k < 64
    · obtain ⟨q, r, hr, rfl⟩ : ∃ q r, r < 4 ∧ k = 4 * q + r := ⟨k / 4, k % 4, by omega, by omega⟩
      have hq : q < 16 := by omega
      have hcx : wr.cell? ⟨w.heap.size, q, none⟩ = some (.int .u8 ((h.1[q]'(by rw [hl.out]; omega)).toNat : Int)) :=
        (hbel.cell (p := ⟨w.heap.size, q, none⟩) (by simp)).trans (bcell_at hh.out q _)
      have hx := UInt8.toNat_lt (h.1[q]'(by rw [hl.out]; omega))
      have hg := hget.out q hq r hr
      rw [List.getElem?_eq_getElem (by rw [hlen.out]; omega)] at hg
      have hs : D.take (4 * q + r + 1) = D.take (4 * q + r) ++ [D[4 * q + r]'(by rw [hlen.out]; omega)] := List.take_succ_eq_append_getElem (by rw [hlen.out]; omega)
      have hr1 := lacks_range (D.take (4 * q + r)) (fun d hd => hrg.out d (List.mem_of_mem_take hd))
      have hr2 : (D.take (4 * q + r)).length ≤ 64 := by rw [List.length_take]; omega
      obtain ⟨hr0, hr1⟩ := hr1
      have hr3 : lacksOf (D.take (4 * q + r)) ≤ 192 := by omega
      clear hr1 hr2
      have hrow := own_rows hown
      have hrow := hide hrow
      generalize (h.1[q]'(by rw [hl.out]; omega)) = x at hcx hx hg
      generalize (D[4 * q + r]'(by rw [hlen.out]; omega)) = z at hg hs
      have hs := hide hs
      rcases (by omega : r = 0 ∨ r = 1 ∨ r = 2 ∨ r = 3) with rfl | rfl | rfl | rfl
      · simp only [Nat.add_zero] at hr0 hr3
        have e3 : (4 * (q : Int)) / 4 = q := by omega
        have e4 : (4 * (q : Int)) % 4 = 0 := by omega
        have e1 : (4 * (q : Int) + 0) / 4 = q := (by omega); have e2 : (4 * (q : Int) + 0) % 4 = 0 := (by omega); obtain rfl : (x.toNat : Int) / 64 % 4 = z := Option.some.inj hg.symm; clear hg; go_wp2_with (first | (at_builtin; (refine wpList_append_lies _ rfl _ _ 100 rfl (w.heap.size + 1) 3 i0 (.int .i64 0) 1 8 Try.underlying100 hi hz0 hz1 hz2 rfl (by decide) _ _ _ rfl (hown.alloc _) ⟨wr.heap.size, 0, none⟩ 1 1 [.int .i64 ((x.toNat : Int) / 64 % 4)] rfl rfl (World.news_of_block (heap_alloc_new _ _)) (by intro u hu; simp at hu; rcases hu with rfl | rfl | rfl | rfl <;> rfl) (by decide) (by unfold maxLen; omega) (by omega) (by simp; omega) _ rfl ?_); intro g cap w1 hown1 hgrow hat hlt1)); go_roundw; (case rel => exact ⟨4 * q + 0 + 1, by omega, by go_num, by rw [hs.out, lacks_snoc]; first | go_num | (simp only [Nat.add_zero]; first | go_num | (congr 1; omega)), by rw [hs.out, List.map_append]; exact hown1, (hbel.alloc (by first | omega | (simp; omega)) _).grown hgrow (by first | omega | (simp; omega)) hrow.out⟩); (case measure => simp [intOf]; omega)
      · have e1 : (4 * (q : Int) + 1) / 4 = q := (by omega); have e2 : (4 * (q : Int) + 1) % 4 = 1 := (by omega); obtain rfl : (x.toNat : Int) / 16 % 4 = z := Option.some.inj hg.symm; clear hg; go_wp2_with (first | (at_builtin; (refine wpList_append_lies _ rfl _ _ 100 rfl (w.heap.size + 1) 3 i0 (.int .i64 0) 1 8 Try.underlying100 hi hz0 hz1 hz2 rfl (by decide) _ _ _ rfl (hown.alloc _) ⟨wr.heap.size, 0, none⟩ 1 1 [.int .i64 ((x.toNat : Int) / 16 % 4)] rfl rfl (World.news_of_block (heap_alloc_new _ _)) (by intro u hu; simp at hu; rcases hu with rfl | rfl | rfl | rfl <;> rfl) (by decide) (by unfold maxLen; omega) (by omega) (by simp; omega) _ rfl ?_); intro g cap w1 hown1 hgrow hat hlt1)); go_roundw; (case rel => exact ⟨4 * q + 1 + 1, by omega, by go_num, by rw [hs.out, lacks_snoc]; first | go_num | (simp only [Nat.add_zero]; first | go_num | (congr 1; omega)), by rw [hs.out, List.map_append]; exact hown1, (hbel.alloc (by first | omega | (simp; omega)) _).grown hgrow (by first | omega | (simp; omega)) hrow.out⟩); (case measure => simp [intOf]; omega)
      · have e1 : (4 * (q : Int) + 2) / 4 = q := (by omega); have e2 : (4 * (q : Int) + 2) % 4 = 2 := (by omega); obtain rfl : (x.toNat : Int) / 4 % 4 = z := Option.some.inj hg.symm; clear hg; go_wp2_with (first | (at_builtin; (refine wpList_append_lies _ rfl _ _ 100 rfl (w.heap.size + 1) 3 i0 (.int .i64 0) 1 8 Try.underlying100 hi hz0 hz1 hz2 rfl (by decide) _ _ _ rfl (hown.alloc _) ⟨wr.heap.size, 0, none⟩ 1 1 [.int .i64 ((x.toNat : Int) / 4 % 4)] rfl rfl (World.news_of_block (heap_alloc_new _ _)) (by intro u hu; simp at hu; rcases hu with rfl | rfl | rfl | rfl <;> rfl) (by decide) (by unfold maxLen; omega) (by omega) (by simp; omega) _ rfl ?_); intro g cap w1 hown1 hgrow hat hlt1)); go_roundw; (case rel => exact ⟨4 * q + 2 + 1, by omega, by go_num, by rw [hs.out, lacks_snoc]; first | go_num | (simp only [Nat.add_zero]; first | go_num | (congr 1; omega)), by rw [hs.out, List.map_append]; exact hown1, (hbel.alloc (by first | omega | (simp; omega)) _).grown hgrow (by first | omega | (simp; omega)) hrow.out⟩); (case measure => simp [intOf]; omega)
      · have e1 : (4 * (q : Int) + 3) / 4 = q := (by omega); have e2 : (4 * (q : Int) + 3) % 4 = 3 := (by omega); obtain rfl : (x.toNat : Int) % 4 = z := Option.some.inj hg.symm; clear hg; go_wp2_with (first | (at_builtin; (refine wpList_append_lies _ rfl _ _ 100 rfl (w.heap.size + 1) 3 i0 (.int .i64 0) 1 8 Try.underlying100 hi hz0 hz1 hz2 rfl (by decide) _ _ _ rfl (hown.alloc _) ⟨wr.heap.size, 0, none⟩ 1 1 [.int .i64 ((x.toNat : Int) % 4)] rfl rfl (World.news_of_block (heap_alloc_new _ _)) (by intro u hu; simp at hu; rcases hu with rfl | rfl | rfl | rfl <;> rfl) (by decide) (by unfold maxLen; omega) (by omega) (by simp; omega) _ rfl ?_); intro g cap w1 hown1 hgrow hat hlt1)); go_roundw; (case rel => exact ⟨4 * q + 3 + 1, by omega, by go_num, by rw [hs.out, lacks_snoc]; first | go_num | (simp only [Nat.add_zero]; first | go_num | (congr 1; omega)), by rw [hs.out, List.map_append]; exact hown1, (hbel.alloc (by first | omega | (simp; omega)) _).grown hgrow (by first | omega | (simp; omega)) hrow.out⟩); (case measure => simp [intOf]; omega)
    · obtain rfl : k = 64 := by omega
      have ht : D.take 64 = D := List.take_of_length_le (by rw [hlen.out]; omega)
      have hr := lacks_range D hrg.out
      rw [hlen.out] at hr
      obtain ⟨hr0, hr1⟩ := hr
      have hrow := own_rows hown
      have hrow := hide hrow
      have hL := hD.out
      rw [ht] at hown ⊢
      generalize hy : lacksOf D = y at hr0 hr1 ⊢
      have hy := hide hy
      have e1 : y / 64 % 4 = y / 64 := by omega
      have e1 := hide e1
      clear hL ht
      go_wp2_with (first | (at_builtin; (refine wpList_append_lies _ rfl _ _ 100 rfl (w.heap.size + 1) 3 i0 (.int .i64 0) 1 8 Try.underlying100 hi hz0 hz1 hz2 rfl (by decide) _ _ _ rfl (hown.alloc _) ⟨wr.heap.size, 0, none⟩ 4 4 [.int .i64 (y / 64), .int .i64 (y / 16 % 4), .int .i64 (y / 4 % 4), .int .i64 (y % 4)] rfl rfl (World.news_of_block (heap_alloc_new _ _)) (by intro u hu; simp at hu; rcases hu with rfl | rfl | rfl | rfl <;> rfl) (by decide) (by unfold maxLen; omega) (by omega) (by simp; omega) _ rfl ?_); intro g cap w1 hown1 hgrow hat hlt1))
      go_ret
      refine ⟨g, cap, rfl, ?_, he0.trans (((hbel.alloc (by first | omega | (simp; omega)) _).grown hgrow (by first | omega | (simp; omega)) hrow.out).mono (by omega))⟩
      have e2 : (digL h).map (Value.int .i64) = D.map (Value.int .i64) ++ [.int .i64 (y / 64), .int .i64 (y / 16 % 4), .int .i64 (y / 4 % 4), .int .i64 (y % 4)] := by
        rw [digL, hD.out, hy.out]; simp [four, e1.out]
      rw [e2]
      exact hown1
end Go.Proofs.Ytegicioofbhifaa
/- The plain law on digits: of two hashes whose first halves differ each has a digit that is less than the other's. No program in sight. -/
namespace Go.Proofs.Ytegicioofbhifaa
set_option linter.unusedVariables false
set_option linter.unusedSimpArgs false

/-- Has the first list a number that is less than the second's, among the first k? -/
def lessB (D E : List Int) : Nat → Bool
  | 0 => false
  | k + 1 => lessB D E k || decide (D.getD k 0 < E.getD k 0)
theorem lessB_iff (D E : List Int) (k : Nat) : lessB D E k = true ↔ ∃ i, i < k ∧ D.getD i 0 < E.getD i 0 := by
  induction k with
  | zero => simp [lessB]
  | succ k ih =>
    rw [lessB, Bool.or_eq_true, ih, decide_eq_true_iff]
    constructor
    · rintro (⟨i, h1, h2⟩ | h)
      · exact ⟨i, by omega, h2⟩
      · exact ⟨k, by omega, h⟩
    · rintro ⟨i, h1, h2⟩
      by_cases h : i = k
      · subst h; exact .inr h2
      · exact .inl ⟨i, by omega, h2⟩
/-- Are the first k bytes the same? -/
def sameB (a b : List UInt8) : Nat → Bool
  | 0 => true
  | k + 1 => sameB a b k && (a.getD k 0 == b.getD k 0)
theorem sameB_iff (a b : List UInt8) (k : Nat) (ha : k ≤ a.length) (hb : k ≤ b.length) : sameB a b k = true ↔ a.take k = b.take k := by
  induction k with
  | zero => simp [sameB]
  | succ k ih =>
    rw [sameB, Bool.and_eq_true, ih (by omega) (by omega), beq_iff_eq, List.take_succ_eq_append_getElem (by omega), List.take_succ_eq_append_getElem (by omega)]
    have e1 : a.getD k 0 = a[k] := by simp [List.getD, List.getElem?_eq_getElem (show k < a.length by omega)]
    have e2 : b.getD k 0 = b[k] := by simp [List.getD, List.getElem?_eq_getElem (show k < b.length by omega)]
    rw [e1, e2]
    constructor
    · rintro ⟨h1, h2⟩; rw [h1, h2]
    · intro h
      have := List.append_inj h (by simp; omega)
      exact ⟨this.1, by simpa using this.2⟩

theorem dg_inj {x y : UInt8} (h : dg x = dg y) : x = y := by
  simp only [dg, List.cons.injEq, and_true] at h
  have h1 := UInt8.toNat_lt x
  have h2 := UInt8.toNat_lt y
  rw [← UInt8.toNat_inj]
  omega
theorem dgs_inj : ∀ (a b : List UInt8), a.length = b.length → dgs a = dgs b → a = b
  | [], [], _, _ => rfl
  | x :: a, y :: b, hl, h => by
    have e : ∀ (x : UInt8) l, dgs (x :: l) = dg x ++ dgs l := fun x l => by simp [dgs]
    rw [e, e] at h
    have := List.append_inj h rfl
    rw [dg_inj this.1, dgs_inj a b (by simpa using hl) this.2]
  | [], _ :: _, h, _ => by simp at h
  | _ :: _, [], h, _ => by simp at h

theorem lacks_le : ∀ (X Y : List Int), X.length = Y.length → (∀ i, i < X.length → Y.getD i 0 ≤ X.getD i 0) → lacksOf X ≤ lacksOf Y ∧ (lacksOf X = lacksOf Y → X = Y)
  | [], [], _, _ => by simp
  | x :: X, y :: Y, hl, h => by
    have h0 := h 0 (by simp)
    have ih := lacks_le X Y (by simpa using hl) (fun i hi => by have := h (i + 1) (by simpa using hi); simpa using this)
    simp only [List.getD_cons_zero] at h0
    have e : ∀ (x : Int) l, lacksOf (x :: l) = (3 - x) + lacksOf l := fun x l => by simp [lacksOf]
    rw [e, e]
    refine ⟨by omega, fun he => ?_⟩
    have h1 : x = y := by omega
    rw [h1, ih.2 (by omega)]
  | [], _ :: _, h, _ => by simp at h
  | _ :: _, [], h, _ => by simp at h

theorem getD_app (X Y : List Int) (i : Nat) : (X ++ Y).getD i 0 = if i < X.length then X.getD i 0 else Y.getD (i - X.length) 0 := by
  split
  · rename_i h; simp [List.getD, List.getElem?_append_left h]
  · rename_i h; simp [List.getD, List.getElem?_append_right (by omega : X.length ≤ i)]

theorem some_less (a b : List UInt8) (ha : a.length = 16) (hb : b.length = 16) (hne : a ≠ b) : lessB (dgs a ++ four (lacksOf (dgs a))) (dgs b ++ four (lacksOf (dgs b))) 68 = true := by
  apply Classical.byContradiction
  intro hno
  have la : (dgs a).length = 64 := by rw [length_dgs, ha]
  have lb : (dgs b).length = 64 := by rw [length_dgs, hb]
  have hall : ∀ i, i < 68 → (dgs b ++ four (lacksOf (dgs b))).getD i 0 ≤ (dgs a ++ four (lacksOf (dgs a))).getD i 0 := by
    intro i hi
    apply Classical.byContradiction
    intro h
    exact hno ((lessB_iff _ _ _).2 ⟨i, hi, by omega⟩)
  have h1 : ∀ i, i < (dgs a).length → (dgs b).getD i 0 ≤ (dgs a).getD i 0 := by
    intro i hi
    have := hall i (by omega)
    rw [getD_app, getD_app, if_pos (by omega), if_pos (by omega)] at this
    exact this
  obtain ⟨h2, h3⟩ := lacks_le (dgs a) (dgs b) (by omega) h1
  have hq : ∀ j, j < 4 → (four (lacksOf (dgs b))).getD j 0 ≤ (four (lacksOf (dgs a))).getD j 0 := by
    intro j hj
    have := hall (64 + j) (by omega)
    rw [getD_app, getD_app, if_neg (by omega), if_neg (by omega), la, lb, Nat.add_sub_cancel_left] at this
    exact this
  have r1 := lacks_range (dgs a) (dgs_range a)
  have r2 := lacks_range (dgs b) (dgs_range b)
  rw [la] at r1
  rw [lb] at r2
  have q0 := hq 0 (by omega)
  have q1 := hq 1 (by omega)
  have q2 := hq 2 (by omega)
  have q3 := hq 3 (by omega)
  simp only [four, List.getD_cons_zero, List.getD_cons_succ] at q0 q1 q2 q3
  generalize lacksOf (dgs a) = y at *
  generalize lacksOf (dgs b) = z at *
  have e1 : y / 4 / 4 = y / 16 := by omega
  have e2 : y / 16 / 4 = y / 64 := by omega
  have e3 : z / 4 / 4 = z / 16 := by omega
  have e4 : z / 16 / 4 = z / 64 := by omega
  have e5 : y / 64 / 4 = 0 := by omega
  have e6 : z / 64 / 4 = 0 := by omega
  have he : y = z := by omega
  exact hne (dgs_inj a b (by omega) (h3 he))

theorem lessB_self (D : List Int) (k : Nat) : lessB D D k = false := by
  induction k with
  | zero => rfl
  | succ k ih => rw [lessB, ih]; simp

/-- The law. -/
theorem digits_law (a b : Bs 32) : (sameB a.1 b.1 16 = true ∧ lessB (digL a) (digL b) 68 = false ∧ lessB (digL b) (digL a) 68 = false) ∨ (sameB a.1 b.1 16 = false ∧ lessB (digL a) (digL b) 68 = true ∧ lessB (digL b) (digL a) 68 = true) := by
  have la := a.2
  have lb := b.2
  have hs := sameB_iff a.1 b.1 16 (by omega) (by omega)
  by_cases h : a.1.take 16 = b.1.take 16
  · left
    have : digL a = digL b := by unfold digL; rw [h]
    rw [this]
    exact ⟨hs.2 h, lessB_self _ _, lessB_self _ _⟩
  · right
    refine ⟨by rw [← Bool.not_eq_true, hs]; exact h, ?_, ?_⟩
    · exact some_less _ _ (by simp [la]) (by simp [lb]) h
    · exact some_less _ _ (by simp [lb]) (by simp [la]) (fun e => h e.symm)
theorem length_digL (a : Bs 32) : (digL a).length = 68 := by
  simp [digL, length_dgs, a.2, four]
end Go.Proofs.Ytegicioofbhifaa
/- Slices that hold numbers; hashes built of cells. -/
namespace Go.Proofs.Ytegicioofbhifaa
open Go.RowKit
set_option linter.unusedVariables false
set_option linter.unusedSimpArgs false

theorem exec_build_Hash (ρ : Operand → Value) (d : Option Tmp) (ps : Array (Nat × Operand)) (t : TypeId) (p : String) (af : Array Edge) (gd : Option (Nat × Bool)) (w : World) : (execOp ρ ⟨d, .build 23 ps, t, p, af, gd⟩).run Try.prog w = buildStep Try.prog 23 (ps.map fun x => (x.1, ρ x.2)) w := exec_build 23 ρ d ps t p af gd w
theorem exec_load_Hash (ρ : Operand → Value) (d : Option Tmp) (x : Operand) (t : TypeId) (p : String) (af : Array Edge) (gd : Option (Nat × Bool)) (w : World) : (execOp ρ ⟨d, .load 23 x, t, p, af, gd⟩).run Try.prog w = loadStep Try.prog 23 (ρ x) w := exec_load 23 ρ d x t p af gd w
theorem step_load_Hash (w : World) (g o : Nat) : loadStep Try.prog 23 (.pointer (some ⟨g, o, none⟩)) w = match rowAt w g o 32 with | some cs => .ok (.value (.agg cs)) w | none => ((loadVar 23 ⟨g, o, none⟩).run Try.prog w).andThen fun a w' => .ok (.value a) w' := loadStep_row w g o 23 32 _ Try.underlying23 rfl (by kernel_rfl)
def hash27 : Bs 32 := ⟨27 :: List.replicate 31 0, by decide⟩
theorem build_27 (w : World) : buildStep Try.prog 23 #[(0, .int .u8 27)] w = .ok (.value (.agg (bcells hash27))) w :=
  buildStep_eq w _ _ _ (by kernel_rfl)

/-- A slice that is known to hold numbers. -/
def HasInts (w : World) (g : Nat) (D : List Int) : Prop := ∀ i, i < 68 → w.cell? ⟨g, i, none⟩ = some (.int .i64 (D.getD i 0))
theorem HasInts.of_own {w : World} {base g cap : Nat} {D : List Int} (hl : D.length = 68) (h : w.ownsRow base 3 1 (.slice (some ⟨g, 0, none⟩) 68 cap) 68 (D.map (Value.int .i64))) : HasInts w g D := by
  intro i hi
  rw [h.cellAt i (by omega), List.getElem?_map, List.getElem?_eq_getElem (by omega)]
  simp [List.getD, List.getElem?_eq_getElem (show i < D.length by omega)]
theorem HasInts.ext {w w' : World} (h : Ext w w') {g : Nat} {D : List Int} (hi : HasInts w g D) : HasInts w' g D := by
  intro i hlt
  have := hi i hlt
  exact (h.cell (p := ⟨g, i, none⟩) (block_lt_of_cell this)).trans this

theorem digits_ints (h : Bs 32) (w : World) :
    Calls Try.prog 72 #[.agg (bcells h)] w fun e w' => ∃ g cap, e = .returned (.slice (some ⟨g, 0, none⟩) 68 cap) ∧ HasInts w' g (digL h) ∧ Ext w w' :=
  (digits_any h w).mono fun e w' ⟨g, cap, he, ho, hx⟩ => ⟨g, cap, he, HasInts.of_own (length_digL h) ho, hx⟩
theorem cell_of_rowAt {n : Nat} {w : World} {g : Nat} {h : Bs n} (hr : rowAt w g 0 n = some (bcells h)) (j : Nat) (hj : j < n) : w.cell? ⟨g, j, none⟩ = some (.int .u8 ((h.1.getD j 0).toNat : Int)) := by
  unfold rowAt at hr
  split at hr
  · rename_i row t fr hg
    split at hr
    · simp only [Option.some.injEq] at hr
      have e := congrArg (fun x => x[j]?) hr
      simp only [Array.getElem?_extract] at e
      rw [if_pos (by omega), Nat.zero_add] at e
      rw [cell_of_row w g j row t fr hg, e]
      simp [bcells, Extern.Stop.cell, List.getD, List.getElem?_eq_getElem (show j < h.1.length by rw [h.2]; omega)]
    · simp at hr
  · simp at hr
end Go.Proofs.Ytegicioofbhifaa
/- Bytes laid one by one into an array of noughts. -/
namespace Go.Proofs.Ytegicioofbhifaa
open Go.RowKit
set_option linter.unusedVariables false
set_option linter.unusedSimpArgs false

def laidL (c : List UInt8) (n i : Nat) : List UInt8 := c.take i ++ List.replicate (n - i) 0
theorem length_laidL (c : List UInt8) (n i : Nat) (hi : i ≤ n) (hc : i ≤ c.length) : (laidL c n i).length = n := by
  simp [laidL]; omega
theorem laid_succ (c : List UInt8) (n i : Nat) (hi : i < n) (hc : i < c.length) : (laidL c n i).set i (c.getD i 0) = laidL c n (i + 1) := by
  unfold laidL
  rw [show n - i = (n - (i + 1)) + 1 by omega, List.replicate_succ, List.set_append_right _ _ (by simp; omega)]
  rw [show i - (c.take i).length = 0 by rw [List.length_take]; omega, List.set_cons_zero, ← List.take_append_getElem hc, List.append_assoc]
  simp [List.getD, List.getElem?_eq_getElem hc]
theorem laid_zero (c : List UInt8) (n : Nat) : laidL c n 0 = List.replicate n 0 := by simp [laidL]
theorem laid_all (c : List UInt8) (n : Nat) : laidL c n n = c.take n := by simp [laidL]
/-- The cell turned. -/
theorem laid_set (c : List UInt8) (n i : Nat) (hi : i < n) (hc : i < c.length) : ((laidL c n i).map cb).toArray.setIfInBounds i (.int .u8 ((c.getD i 0).toNat : Int)) = ((laidL c n (i + 1)).map cb).toArray := by
  rw [b_set, laid_succ c n i hi hc]
end Go.Proofs.Ytegicioofbhifaa
/- Chains of one-time signatures: steps, walks, nodes beside one another. No program in sight. -/
namespace Go.Proofs.Ytegicioofbhifaa
open Go.RowKit
set_option linter.unusedVariables false
set_option linter.unusedSimpArgs false

/-- Two pieces, one piece, in a slice that is made for them. -/
theorem two_laid {w : World} {a b : Option Addr} {p q p' q' : Nat} {x y : List UInt8} (hx : BytesIn w a p x) (hy : BytesIn w b q y) (hp : p ≤ p') (hq : q ≤ q') (mp : p' ≤ maxLen) (mq : q' ≤ maxLen) (N : Nat) (hN : w.heap.size = N) :
    PiecesIn (w.alloc (.cells #[.slice a p p', .slice b q q'] 27)) (some ⟨N, 0, none⟩) 2 [x, y] := by
  subst hN
  have hE := ext_alloc w (.cells #[.slice a p p', .slice b q q'] 27)
  have hn := heap_alloc_new w (.cells #[.slice a p p', .slice b q q'] 27)
  refine ⟨rfl, fun _ => ⟨_, rfl, fun i hi => ?_⟩⟩
  rw [add_flat, Nat.zero_add, cell_of_row _ _ i _ _ _ hn]
  rcases (by omega : i = 0 ∨ i = 1) with rfl | rfl
  · exact ⟨a, p, p', rfl, hp, mp, hx.ext hE⟩
  · exact ⟨b, q, q', rfl, hq, mq, hy.ext hE⟩
/-- The first half of a hash. -/
def halfB (h : Bs 32) : Bs 16 := ⟨h.1.take 16, by simp [h.2]⟩
def stepT (x : Bs 16) (i k : Nat) : List UInt8 := [87, UInt8.ofNat i, UInt8.ofNat k] ++ x.1
def stepB (x : Bs 16) (i k : Nat) : Bs 16 := halfB (hashB (stepT x i k))
/-- So many steps from a step on. -/
def goB (x : Bs 16) (i f : Nat) : Nat → Bs 16
  | 0 => x
  | n + 1 => stepB (goB x i f n) i (f + n)
theorem goB_add (x : Bs 16) (i f m n : Nat) : goB x i f (m + n) = goB (goB x i f m) i (f + m) n := by
  induction n with
  | zero => rfl
  | succ n ih => rw [← Nat.add_assoc, goB, goB, ih, Nat.add_assoc]
def walkB (x : Bs 16) (i f t : Nat) : Bs 16 := goB x i f (t - f)
theorem walk_on (x : Bs 16) (i f d t : Nat) (h1 : f ≤ d) (h2 : d ≤ t) : walkB (walkB x i f d) i d t = walkB x i f t := by
  unfold walkB
  rw [show t - f = (d - f) + (t - d) by omega, goB_add, show f + (d - f) = d by omega]
theorem walk_self (x : Bs 16) (i f : Nat) : walkB x i f f = x := by unfold walkB; rw [Nat.sub_self]; rfl
/-- Each chain from a step to another. -/
def eachB (S : Nat → Bs 16) (F T : Nat → Nat) : Nat → Bs 16 := fun i => walkB (S i) i (F i) (T i)
/-- The nodes, one behind the other. -/
def joinB (S : Nat → Bs 16) : Nat → List UInt8
  | 0 => []
  | n + 1 => joinB S n ++ (S n).1
theorem length_joinB (S : Nat → Bs 16) (n : Nat) : (joinB S n).length = n * 16 := by
  induction n with
  | zero => rfl
  | succ n ih => rw [joinB, List.length_append, ih, (S n).2]; omega
theorem joinB_eq {S S' : Nat → Bs 16} {n : Nat} (h : ∀ i, i < n → S i = S' i) : joinB S n = joinB S' n := by
  induction n with
  | zero => rfl
  | succ n ih => rw [joinB, joinB, ih fun i hi => h i (by omega), h n (by omega)]
theorem joinB_take (S : Nat → Bs 16) (i n : Nat) (h : i ≤ n) : (joinB S n).take (i * 16) = joinB S i := by
  induction n with
  | zero => obtain rfl : i = 0 := by omega
            rfl
  | succ n ih =>
    rw [joinB]
    by_cases he : i = n + 1
    · subst he; rw [List.take_of_length_le (by rw [List.length_append, length_joinB, (S n).2]; omega)]; rfl
    · rw [List.take_append_of_le_length (by rw [length_joinB]; omega), ih (by omega)]
theorem joinB_at (S : Nat → Bs 16) (i n : Nat) (h : i < n) : ((joinB S n).drop (i * 16)).take 16 = (S i).1 := by
  induction n with
  | zero => omega
  | succ n ih =>
    rw [joinB]
    have hl := length_joinB S n
    by_cases he : i = n
    · subst he
      rw [List.drop_left' hl, List.take_of_length_le (by rw [(S i).2]; omega)]
    · rw [List.drop_append_of_le_length (by omega), List.take_append_of_le_length (by rw [List.length_drop]; omega), ih (by omega)]
def upd (S : Nat → Bs 16) (i : Nat) (x : Bs 16) : Nat → Bs 16 := fun j => if j = i then x else S j
theorem upd_at (S : Nat → Bs 16) (i : Nat) (x : Bs 16) : upd S i x i = x := if_pos rfl
theorem upd_upd (S : Nat → Bs 16) (i : Nat) (x y : Bs 16) : upd (upd S i x) i y = upd S i y := by
  funext j; unfold upd; split <;> rfl
theorem upd_self (S : Nat → Bs 16) (i : Nat) : upd S i (S i) = S := by
  funext j; unfold upd; split
  · rename_i h; rw [h]
  · rfl
theorem joinB_upd_le (S : Nat → Bs 16) (i n : Nat) (x : Bs 16) (h : n ≤ i) : joinB (upd S i x) n = joinB S n :=
  joinB_eq fun j hj => if_neg (show ¬ j = i by omega)
theorem joinB_upd (S : Nat → Bs 16) (i : Nat) (x : Bs 16) (n : Nat) (h : i < n) : joinB (upd S i x) n = (joinB S n).take (i * 16) ++ x.1 ++ (joinB S n).drop (i * 16 + 16) := by
  induction n with
  | zero => omega
  | succ n ih =>
    have hl := length_joinB S n
    rw [joinB]
    by_cases he : i = n
    · subst he
      rw [joinB, upd_at, joinB_upd_le S i i x (Nat.le_refl _), List.take_left' hl, List.drop_of_length_le (by rw [List.length_append, hl, (S i).2]; omega), List.append_nil]
    · rw [joinB, ih (by omega), show upd S i x n = S n from if_neg (show ¬ n = i by omega), List.take_append_of_le_length (by omega), List.drop_append_of_le_length (by omega)]
      simp only [List.append_assoc]
/-- The first so many nodes of one, the others of another. -/
def mix (E S : Nat → Bs 16) (i : Nat) : Nat → Bs 16 := fun j => if j < i then E j else S j
theorem mix_zero (E S : Nat → Bs 16) : mix E S 0 = S := by funext j; simp [mix]
theorem mix_at (E S : Nat → Bs 16) (i : Nat) : mix E S i i = S i := if_neg (by omega)
theorem mix_succ (E S : Nat → Bs 16) (i : Nat) : upd (mix E S i) i (E i) = mix E S (i + 1) := by
  funext j; unfold upd mix
  by_cases h : j = i
  · subst h; simp
  · by_cases h2 : j < i
    · simp [h, h2, show j < i + 1 by omega]
    · simp [h, h2, show ¬ j < i + 1 by omega]
/-- The cells of a secret. -/
def scells (S : Nat → Bs 16) : Array Value := ((joinB S 68).map cb).toArray
theorem size_scells (S : Nat → Bs 16) : (scells S).size = 1088 := by simp [scells, length_joinB]
theorem scells_eq {S S' : Nat → Bs 16} (h : ∀ i, i < 68 → S i = S' i) : scells S = scells S' := by
  unfold scells; rw [joinB_eq h]
theorem scells_mix (E S : Nat → Bs 16) : scells (mix E S 68) = scells E := scells_eq fun i hi => if_pos hi
theorem one_scells (S : Nat → Bs 16) : (scells S).all (·.oneCell') = true := by
  rw [Array.all_eq_true_iff_forall_mem]
  intro v hv
  simp only [scells, List.mem_toArray, List.mem_map] at hv
  obtain ⟨b, _, rfl⟩ := hv
  rfl
theorem toList_bcells {n : Nat} (h : Bs n) : (bcells h).toList = h.1.map cb := rfl
theorem toList_scells (S : Nat → Bs 16) : (scells S).toList = (joinB S 68).map cb := by simp [scells]
theorem scells_def (S : Nat → Bs 16) : scells S = ((joinB S 68).map cb).toArray := by unfold scells; rfl
attribute [local irreducible] joinB scells
theorem rowAt_scells {w : World} {g : Nat} {S : Nat → Bs 16} {t : TypeId} {fr : Nat × Nat} (h : w.heap[g]? = some (.cells (scells S) t fr)) (i : Nat) (hi : i < 68) : rowAt w g (i * 16) 16 = some (bcells (S i)) := by
  unfold rowAt; rw [h]
  simp only
  rw [if_pos (by rw [size_scells]; omega)]
  congr 1
  apply Array.ext'
  rw [Array.toList_extract, List.extract_eq_take_drop, show i * 16 + 16 - i * 16 = 16 by omega]
  rw [toList_scells, toList_bcells, ← List.map_drop, ← List.map_take, joinB_at S i 68 hi]
theorem splice_scells (S : Nat → Bs 16) (i : Nat) (x : Bs 16) (hi : i < 68) : spliceA (scells S) (i * 16) (bcells x) = scells (upd S i x) := by
  unfold spliceA
  rw [size_bcells]
  rw [toList_scells, toList_bcells, ← List.map_take, ← List.map_drop, ← List.map_append, ← List.map_append, ← joinB_upd S i x 68 hi, ← scells_def]
theorem bytes_scells {w : World} {g : Nat} {S : Nat → Bs 16} {t : TypeId} {fr : Nat × Nat} (h : w.heap[g]? = some (.cells (scells S) t fr)) : BytesIn w (some ⟨g, 0, none⟩) 1088 (joinB S 68) := bytes_blk (by rw [scells_def] at h; exact h) (by rw [length_joinB])
attribute [local semireducible] joinB scells
/-- Any 1088 bytes are nodes. -/
def nodesOf (c : List UInt8) (h : c.length = 1088) : Nat → Bs 16 := fun i => if hi : i < 68 then ⟨(c.drop (i * 16)).take 16, by rw [List.length_take, List.length_drop]; omega⟩ else zeros 16
theorem join_nodes (c : List UInt8) (h : c.length = 1088) : joinB (nodesOf c h) 68 = c := by
  have : ∀ n, n ≤ 68 → joinB (nodesOf c h) n = c.take (n * 16) := by
    intro n
    induction n with
    | zero => intro _; simp [joinB]
    | succ n ih =>
      intro hn
      rw [joinB, ih (by omega), show (n + 1) * 16 = n * 16 + 16 by omega, List.take_add]
      simp [nodesOf, show n < 68 by omega]
  rw [this 68 (Nat.le_refl _), List.take_of_length_le (by omega)]
theorem nodes_join (S : Nat → Bs 16) (h : (joinB S 68).length = 1088) (i : Nat) (hi : i < 68) : nodesOf (joinB S 68) h i = S i := by
  unfold nodesOf
  rw [dif_pos hi]
  cases e : S i with
  | mk v p =>
    have := joinB_at S i 68 hi
    rw [e] at this
    simp only [Bs.mk.injEq]
    exact this
/-- What is signed of digits, its public, and a secret's. -/
def publicB (S : Nat → Bs 16) : Bs 32 := hashB (80 :: joinB (eachB S (fun _ => 0) (fun _ => 3)) 68)
def restB (S : Nat → Bs 16) (D : Nat → Nat) : Bs 32 := hashB (80 :: joinB (eachB S D (fun _ => 3)) 68)
def signB (S : Nat → Bs 16) (D : Nat → Nat) : List UInt8 := joinB (eachB S (fun _ => 0) D) 68
theorem each_on (S : Nat → Bs 16) (D : Nat → Nat) (hD : ∀ i, i < 68 → D i ≤ 3) (i : Nat) (hi : i < 68) : eachB (eachB S (fun _ => 0) D) D (fun _ => 3) i = eachB S (fun _ => 0) (fun _ => 3) i :=
  walk_on (S i) i 0 (D i) 3 (Nat.zero_le _) (hD i hi)
/-- The stage's theorem: what comes of a signature is the public. -/
theorem rest_sign (S : Nat → Bs 16) (D : Nat → Nat) (hD : ∀ i, i < 68 → D i ≤ 3) : restB (eachB S (fun _ => 0) D) D = publicB S := by
  unfold restB publicB
  rw [joinB_eq (each_on S D hD)]
theorem rest_eq {S S' : Nat → Bs 16} (D : Nat → Nat) (h : ∀ i, i < 68 → S i = S' i) : restB S D = restB S' D := by
  unfold restB
  rw [joinB_eq (S' := eachB S' D fun _ => 3) fun i hi => by unfold eachB; rw [h i hi]]
end Go.Proofs.Ytegicioofbhifaa
/- The walks of wots.node, wots.step and wots.Step. -/
namespace Go.Proofs.Ytegicioofbhifaa
open Go.RowKit
set_option linter.unusedVariables false
set_option linter.unusedSimpArgs false

theorem half_extract (h : Bs 32) : (bcells h).extract 0 16 = bcells (halfB h) := by
  apply Array.ext'
  rw [Array.toList_extract, List.extract_eq_take_drop, toList_bcells, toList_bcells, List.drop_zero, ← List.map_take]; rfl
theorem bcells_zeros16 : bcells (zeros 16) = #[.int .u8 0, .int .u8 0, .int .u8 0, .int .u8 0, .int .u8 0, .int .u8 0, .int .u8 0, .int .u8 0, .int .u8 0, .int .u8 0, .int .u8 0, .int .u8 0, .int .u8 0, .int .u8 0, .int .u8 0, .int .u8 0] := rfl
theorem exec_store_Node (ρ : Operand → Value) (d : Option Tmp) (x y : Operand) (t : TypeId) (p : String) (af : Array Edge) (gd : Option (Nat × Bool)) (w : World) : (execOp ρ ⟨d, .store 80 x y, t, p, af, gd⟩).run Try.prog w = storeStep Try.prog 80 (ρ x) (ρ y) w := exec_store 80 ρ d x y t p af gd w
theorem node_at (a : Option Addr) (len cap : Nat) (w : World) (h : 16 ≤ len) : (Instr.arrayAt 80 (.slice a len cap)).run Try.prog w = .ok (.pointer a) w := run_arrayAt w _ _ 16 a len cap Try.underlying80 h
attribute [local go_sem ↓] exec_store_Hash exec_store_Node
attribute [local go_sem ↓] loadCells_blk
attribute [local go_sem] node_at run_blkLoad rowAt_drew rowAt_old rowAt_new size_bcells bc_whole half_extract
set_option maxHeartbeats 2000000 in
set_option maxRecDepth 100000 in
theorem node16 (h : Bs 32) (w : World) : Calls Try.prog 71 #[.agg (bcells h)] w fun r w' => r = .returned (.agg (bcells (halfB h))) ∧ Ext w w' := by
  have hN2 := heap_alloc2_new w (.cells (bcells h) 23) (.cells (bcells (zeros 16)) 80)
  have hx := ext_two w (.cells (bcells h) 23) (.cells (bcells (zeros 16)) 80)
  have hst := store_over (P := Try.prog) _ (w.heap.size + 1) 80 16 (bcells (halfB h)) _ 80 (size_bcells _) (size_bcells (zeros 16)) (by kernel_rfl) (one_bcells _) hN2
  rw [bcells_zeros16] at hN2 hx hst
  replace hN2 := hide hN2
  replace hx := hide hx
  go_enter Try.func71, Try.ntmps71
  go_wp2_with ((with_reducible show bodyPost _ _ _ _ _ _); refine ret_row (P := Try.prog) 2 80 16 _ _ rfl rfl Try.underlying80 rfl (by kernel_rfl) _ _ rfl (rowAt_whole (setRow_heap _ _ _ _ _ _ hN2.out) (size_bcells _)) ⟨rfl, below_setRow hx.out (by omega) _⟩)
/-- What a step lays for its sum. -/
theorem step_laid (W : World) (N : Nat) (x : Bs 16) (bi bk : UInt8) (t : TypeId) (hsz : W.heap.size = N + 1 + 1) (hX : W.heap[N]? = some (.cells (bcells x) t)) :
    PiecesIn ((W.alloc (.cells #[.int .u8 87, .int .u8 (bi.toNat : Int), .int .u8 (bk.toNat : Int)] 5)).alloc (.cells #[.slice (some ⟨N + 1 + 1, 0, none⟩) 3 3, .slice (some ⟨N, 0, none⟩) 16 16] 27)) (some ⟨N + 1 + 1 + 1, 0, none⟩) 2 [[87, bi, bk], x.1] := by
  have hmx : 16 ≤ maxLen := by unfold maxLen; omega
  have hmx3 : 3 ≤ maxLen := by unfold maxLen; omega
  have hxm := ext_alloc W (.cells #[.int .u8 87, .int .u8 (bi.toNat : Int), .int .u8 (bk.toNat : Int)] 5)
  have hbm : BytesIn (W.alloc (.cells #[.int .u8 87, .int .u8 (bi.toNat : Int), .int .u8 (bk.toNat : Int)] 5)) (some ⟨N + 1 + 1, 0, none⟩) 3 [87, bi, bk] := by
    rw [← hsz]; exact bytes_blk (l := [87, bi, bk]) (heap_alloc_new W _) rfl
  exact two_laid hbm ((bytes_blk hX x.2 : BytesIn W (some ⟨N, 0, none⟩) 16 x.1).ext hxm) (Nat.le_refl 3) (Nat.le_refl 16) hmx3 hmx (N + 1 + 1 + 1) (by simp [hsz])
set_option maxHeartbeats 4000000 in
set_option maxRecDepth 100000 in
theorem step_any (x : Bs 16) (i k : Nat) (hi : i < 256) (hk : k < 256) (w : World) : Calls Try.prog 102 #[.agg (bcells x), .int .i64 (i : Int), .int .i64 (k : Int)] w fun r w' => r = .returned (.agg (bcells (stepB x i k))) ∧ Ext w w' := by
  have u1 := u8_of i
  have u2 := u8_of k
  have e0 : halfB (hashB (stepT x i k)) = stepB x i k := rfl
  have e1 : [[87, UInt8.ofNat i, UInt8.ofNat k], x.1].flatten = stepT x i k := by simp [stepT]
  generalize UInt8.ofNat i = bi at u1 e1
  generalize UInt8.ofNat k = bk at u2 e1
  generalize stepT x i k = c at e0 e1
  have hmx2 : 2 ≤ maxLen := by unfold maxLen; omega
  have hx := ext_two w (.cells (bcells x) 80) (.cells (bcells (zeros 16)) 80)
  have hZ := heap_alloc2_new w (.cells (bcells x) 80) (.cells (bcells (zeros 16)) 80)
  have hp2 := step_laid _ w.heap.size x bi bk _ (by simp) (heap_alloc2_old w (.cells (bcells x) 80) (.cells (bcells (zeros 16)) 80))
  have hxp := fun W => (ext_alloc W (.cells #[.int .u8 87, .int .u8 (bi.toNat : Int), .int .u8 (bk.toNat : Int)] 5)).then (ext_alloc _ (.cells #[.slice (some ⟨w.heap.size + 1 + 1, 0, none⟩) 3 3, .slice (some ⟨w.heap.size, 0, none⟩) 16 16] 27))
  have hzZ := size_bcells (zeros 16)
  rw [bcells_zeros16] at hx hZ hp2 hzZ
  replace hx := hide hx
  replace hZ := hide hZ
  replace hp2 := hide hp2
  replace hxp := hide hxp
  replace e0 := hide e0
  replace e1 := hide e1
  replace hzZ := hide hzZ
  go_enter Try.func102, Try.ntmps102
  go_wp2_with (first
    | (go_at_call 25; (with_reducible refine (sumB_any _ 2 2 _ c e1.out _ (Nat.le_refl 2) hmx2 hp2.out).mono ?_); rintro r w4 ⟨rfl, hx4⟩; replace hx4 := (hxp.out _).then hx4)
    | (go_at_call 71; (with_reducible refine (node16 (hashB c) _).mono ?_); rintro r w5 ⟨rfl, hx5⟩; rw [e0.out]; replace hx5 := hx4.then hx5; have hZ5 := (hx5.block _ (lt_of_block hZ.out)).trans hZ.out; have hst5 := store_over (P := Try.prog) w5 (w.heap.size + 1) 80 16 (bcells (stepB x i k)) _ 80 (size_bcells _) hzZ.out (by kernel_rfl) (one_bcells _) hZ5)
    | ((with_reducible show bodyPost _ _ _ _ _ _); refine ret_row (P := Try.prog) 6 80 16 _ _ rfl rfl Try.underlying80 rfl (by kernel_rfl) _ _ rfl (rowAt_whole (setRow_heap _ _ _ _ _ _ hZ5) (size_bcells _)) ⟨rfl, below_setRow (hx.out.then hx5) (by omega) _⟩))
end Go.Proofs.Ytegicioofbhifaa
/- The walks of the reference's half, StepText and Step. -/
namespace Go.Proofs.Ytegicioofbhifaa
open Go.RowKit
set_option linter.unusedVariables false
set_option linter.unusedSimpArgs false

theorem length_stepT (x : Bs 16) (i k : Nat) : (stepT x i k).length = 19 := by simp [stepT, x.2]
/-- Bytes at the head of a block. -/
theorem bytes_front {w : World} {g : Nat} {t : TypeId} {fr : Nat × Nat} {Z : Array Value} {c : List UInt8} {n : Nat} (h : w.heap[g]? = some (.cells ((c.map cb).toArray ++ Z) t fr)) (hn : c.length = n) : BytesIn w (some ⟨g, 0, none⟩) n c := by
  refine ⟨hn, fun _ => ⟨_, rfl, fun i hi => ?_⟩⟩
  rw [add_flat, Nat.zero_add, cell_of_row _ _ i _ _ _ h, Array.getElem?_append_left (by simp; omega)]
  simp [List.getD, List.getElem?_eq_getElem (show i < c.length by omega)]
attribute [local go_sem ↓] exec_store_Node loadCells_blk
attribute [local go_sem] run_blkLoad rowAt_drew rowAt_old rowAt_new size_bcells bc_whole
set_option maxHeartbeats 4000000 in
set_option maxRecDepth 100000 in
theorem stepText_any (x : Bs 16) (i k : Nat) (w : World) : Calls Try.prog 84 #[.agg (bcells x), .int .i64 (i : Int), .int .i64 (k : Int)] w fun r w' => (∃ g cap, r = .returned (.slice (some ⟨g, 0, none⟩) 19 cap) ∧ BytesIn w' (some ⟨g, 0, none⟩) 19 (stepT x i k)) ∧ Ext w w' := by
  have u1 := u8_of i
  have u2 := u8_of k
  have hcl := length_stepT x i k
  have htx : ∀ Z : Array Value, #[.int .u8 87, .int .u8 ((UInt8.ofNat i).toNat : Int), .int .u8 ((UInt8.ofNat k).toNat : Int)] ++ (bcells x ++ Z) = ((stepT x i k).map cb).toArray ++ Z := fun Z => by
    rw [← Array.append_assoc]; unfold stepT; rw [List.map_append, ← List.append_toArray]; rfl
  generalize UInt8.ofNat i = bi at u1 htx
  generalize UInt8.ofNat k = bk at u2 htx
  generalize stepT x i k = c at htx hcl ⊢
  have hx : ∀ (a b d : Obj), Ext w (((w.alloc a).alloc b).alloc d).drew := fun a b d => by go_grown
  replace htx := hide htx
  go_enter Try.func84, Try.ntmps84
  go_wp2_with fail
  go_ret
  rw [htx.out]
  exact ⟨⟨_, _, rfl, bytes_front (alloc3 w _ _ _).2.2.1 hcl⟩, hx _ _ _⟩
end Go.Proofs.Ytegicioofbhifaa
/- The walks of the reference's half and Step. -/
namespace Go.Proofs.Ytegicioofbhifaa
open Go.RowKit
set_option linter.unusedVariables false
set_option linter.unusedSimpArgs false

attribute [local go_sem ↓] exec_store_Bg zero_Bg exec_store_Node exec_store_Hash
attribute [local go_sem ↓] loadCells_blk
attribute [local go_sem] run_blkLoad rowAt_drew rowAt_old rowAt_new size_bcells bc_whole
set_option maxHeartbeats 4000000 in
set_option maxRecDepth 100000 in
theorem half_any (a : Option Addr) (n cap : Nat) (c : List UInt8) (hn : n ≤ 1000000) (w : World) (h : BytesIn w a n c) (hnil : a = none → cap = 0) :
    Calls Try.prog 64 #[.agg begC, .slice a n cap] w fun r w' => r = .returned (.agg (bcells (halfB (hashB c)))) ∧ Ext w w' := by
  have hbw : begC.extract 0 72 = begC := by rfl
  have hz16 : (#[.int .u8 0, .int .u8 0, .int .u8 0, .int .u8 0, .int .u8 0, .int .u8 0, .int .u8 0, .int .u8 0, .int .u8 0, .int .u8 0, .int .u8 0, .int .u8 0, .int .u8 0, .int .u8 0, .int .u8 0, .int .u8 0] : Array Value) = ((laidL (hashB c).1 16 0).map cb).toArray := by rw [laid_zero]; rfl
  have hRz := heap_alloc2_new w (.cells begC 63) (.cells (bcells (zeros 16)) 80)
  have hxw := ext_two w (.cells begC 63) (.cells (bcells (zeros 16)) 80)
  have hzZ := size_bcells (zeros 16)
  rw [bcells_zeros16] at hRz hxw hzZ
  have hlen := (hashB c).2
  have hhalf : ((laidL (hashB c).1 16 16).map cb).toArray = bcells (halfB (hashB c)) := by rw [laid_all]; rfl
  have hS := fun w' h => refSumB_any a n cap c hn w' h hnil
  have hbw : begC.extract 0 72 = begC := by rfl
  have hbx := h.ext hxw
  clear h hnil
  generalize hashB c = H at *
  have hz32 : (bcells (zeros 32)).size = 32 := size_bcells _
  rw [bcells_zeros] at hz32
  replace hS := hide hS
  replace hz16 := hide hz16
  replace hhalf := hide hhalf
  replace hRz := hide hRz
  replace hxw := hide hxw
  replace hbx := hide hbx
  replace hlen := hide hlen
  go_enter Try.func64, Try.ntmps64
  go_wp2_with (go_at_call 27; (with_reducible refine (hS.out _ hbx.out).mono ?_); rintro r w3 ⟨rfl, hx3⟩; have hR3 := hide ((hx3.block _ (lt_of_block hRz.out)).trans hRz.out); have hst3 := store_new_H H w3 _ rfl _ hz32)
  rw [hz16.out]
  have hH := heap_alloc2_old w3 (.cells (bcells H) 23) (.cells ((laidL H.1 16 0).map cb).toArray 80)
  have hX := heap_alloc2_new w3 (.cells (bcells H) 23) (.cells ((laidL H.1 16 0).map cb).toArray 80)
  have hx5 := ext_two w3 (.cells (bcells H) 23) (.cells ((laidL H.1 16 0).map cb).toArray 80)
  have hR5 := hide ((hx5.block _ (lt_of_block hR3.out)).trans hR3.out)
  have hG : w.heap.size + 1 < w3.heap.size := lt_of_block hR3.out
  have hx := hxw.out.then (hx3.then hx5)
  generalize (w3.alloc (.cells (bcells H) 23)).alloc (.cells ((laidL H.1 16 0).map cb).toArray 80) = W at *
  obtain ⟨G, eG⟩ : ∃ G, G = w3.heap.size := ⟨_, rfl⟩
  rw [← eG] at hH hX hG ⊢
  clear hst3 hR3 hx3 hx5 hz16 hRz
  replace eG := hide eG
  go_loopw [7] (fun s wr => ∃ i : Nat, i ≤ 16 ∧ s = .int .i64 i ∧ wr.heap[G]? = some (.cells (bcells H) 23 (0, 0)) ∧ wr.heap[G + 1]? = some (.cells ((laidL H.1 16 i).map cb).toArray 80 (0, 0)) ∧ wr.heap[w.heap.size + 1]? = W.heap[w.heap.size + 1]? ∧ Ext w wr) (fun i _ => 16 - (intOf i).toNat)
  case atStart => exact ⟨0, by omega, rfl, hH, hX, rfl, hx⟩
  case round =>
    clear hH hX hx
    obtain ⟨i, hi, rfl, hH, hX, hRw, hx⟩ := hrel
    obtain ⟨w2, rfl⟩ : ∃ w2, w2 = wr := ⟨_, rfl⟩
    by_cases hlt : i < 16
    · have hlt' : (i : Int) < 16 := by omega
      have hlt2 : (i : Int) < 32 := by omega
      have hi0 : (0 : Int) ≤ i := by omega
      have c1 := b_at _ hH i (by rw [hlen.out]; omega)
      have c2 := b_at _ hX i (by rw [length_laidL _ _ _ hi (by rw [hlen.out]; omega)]; omega)
      have f2 := free_blk hX i
      have hset := laid_set H.1 16 i hlt (by rw [hlen.out]; omega)
      generalize (H.1.getD i 0) = y at c1 hset
      replace hset := hide hset
      replace hH := hide hH
      replace hX := hide hX
      replace hRw := hide hRw
      go_wp2_with fail
      go_roundw
      case rel => exact ⟨i + 1, by omega, by go_num, (Below.heap_setCell _ _ _ _ (by show G ≠ G + 1; omega)).trans hH.out, by rw [heap_setCell hX.out, hset.out], (Below.heap_setCell _ _ _ _ (by show w.heap.size + 1 ≠ G + 1; omega)).trans hRw.out, Below.setCell (p := ⟨G + 1, i, none⟩) hx (by show w.heap.size ≤ G + 1; omega) _⟩
      case measure => simp [intOf]; omega
    · obtain rfl : i = 16 := by omega
      rw [hhalf.out] at hX
      have hR := hRw.trans hR5.out
      have r1 := rowAt_whole hX (size_bcells _)
      have hst := store_over (P := Try.prog) _ (w.heap.size + 1) 80 16 (bcells (halfB H)) _ 80 (size_bcells _) hzZ (by kernel_rfl) (one_bcells _) hR
      go_wp2_with ((with_reducible show bodyPost _ _ _ _ _ _); refine ret_row (P := Try.prog) 4 80 16 _ _ rfl rfl Try.underlying80 rfl (by kernel_rfl) _ _ rfl (rowAt_whole (setRow_heap _ _ _ _ _ _ hR) (size_bcells _)) ⟨rfl, below_setRow hx (by omega) _⟩)
end Go.Proofs.Ytegicioofbhifaa
/- Secrets: made as noughts, stored whole, a node of them stored and loaded. -/
namespace Go.Proofs.Ytegicioofbhifaa
open Go.RowKit
set_option linter.unusedVariables false
set_option linter.unusedSimpArgs false

def noS : Nat → Bs 16 := fun _ => zeros 16
set_option maxRecDepth 100000 in
theorem zero_Secret (w : World) : (zeroValue 82).run Try.prog w = .ok (.agg (scells noS)) w := run_zeroValue w _ _ (by kernel_rfl)
theorem exec_store_Secret (ρ : Operand → Value) (d : Option Tmp) (x y : Operand) (t : TypeId) (p : String) (af : Array Edge) (gd : Option (Nat × Bool)) (w : World) : (execOp ρ ⟨d, .store 82 x y, t, p, af, gd⟩).run Try.prog w = storeStep Try.prog 82 (ρ x) (ρ y) w := exec_store 82 ρ d x y t p af gd w
/-- A node is stored into a secret's block. -/
theorem store_node (w : World) (g i : Nat) (hi : i < 68) (S : Nat → Bs 16) (x : Bs 16) (t : TypeId) (h : w.heap[g]? = some (.cells (scells S) t (0, 0))) :
    storeStep Try.prog 80 (.pointer (some ⟨g, i * 16, none⟩)) (.agg (bcells x)) w = .ok .skip (w.setRow g (scells (upd S i x))) := by
  have hf : rowFree w g (i * 16) 16 = true := by unfold rowFree; rw [h]; simp only [size_scells]; simp; omega
  rw [storeStep_row w g (i * 16) 80 16 (bcells x) (size_bcells x) (by kernel_rfl), hf, one_bcells, if_pos (show (true && true) = true from rfl)]
  unfold setRowAt; rw [h]
  simp only
  rw [splice_scells S i x hi]
/-- Its cells alone. -/
theorem store_node_cells (w : World) (g i : Nat) (hi : i < 68) (S : Nat → Bs 16) (x : Bs 16) (t : TypeId) (h : w.heap[g]? = some (.cells (scells S) t (0, 0))) :
    (storeCells ⟨g, i * 16, none⟩ (bcells x).toList).run Try.prog w = .ok () (w.setRow g (scells (upd S i x))) := by
  have h1 := run_storeCells_at (P := Try.prog) g (i * 16) t (bcells x).toList 0 (scells S) w h (by rw [size_scells]; simp [size_bcells]; omega) (fun v hv => (Array.all_eq_true_iff_forall_mem.1 (one_bcells x)) v (by simpa using hv))
  rw [← splice_scells S i x hi]
  simpa [spliceA] using h1
end Go.Proofs.Ytegicioofbhifaa
/- '==' on a secret and itself. -/
namespace Go.Proofs.Ytegicioofbhifaa
open Go.RowKit
set_option linter.unusedVariables false
set_option linter.unusedSimpArgs false

theorem extract_scells (S : Nat → Bs 16) (i : Nat) (hi : i < 68) : (scells S).extract (i * 16) (i * 16 + 16) = bcells (S i) := by
  apply Array.ext'
  rw [Array.toList_extract, List.extract_eq_take_drop, show i * 16 + 16 - i * 16 = 16 by omega, toList_scells, toList_bcells, ← List.map_drop, ← List.map_take, joinB_at S i 68 hi]
theorem part_node (w : World) (S : Nat → Bs 16) (i : Nat) (hi : i < 68) : (part 80 (scells S) (i * 16)).run Try.prog w = .ok (.agg (bcells (S i))) w := by
  have hz := run_sizeOf w 80 16 (P := Try.prog) (by kernel_rfl)
  have hx := extract_scells S i hi
  generalize bcells (S i) = c at hx ⊢
  generalize scells S = xs at hx ⊢
  simp [part, isAgg, run_underlying Try.underlying80, hz, hx]
theorem equal_node (w : World) (d : Nat) (a b : Bs 16) : (Op.equalIn (d + 2) 80 (.agg (bcells a)) (.agg (bcells b))).run Try.prog w = .ok (bsEq a b) w :=
  equalIn_Bs w d 80 5 16 Try.underlying80 Try.underlying5 (by kernel_rfl) a b
/-- '==' on an array and itself. -/
theorem equal_same_array {P : Program} (w : World) (d : Nat) {t e : TypeId} {n m : Nat} {j : TypeInfo} (xs : Array Value) (item : Nat → Value) (hu : P.underlying t = some (.array n e)) (hj : P.info? e = some j) (hc : P.cellsOf e = m)
    (hp : ∀ i, i < n → (part e xs (i * m)).run P w = .ok (item i) w) (he : ∀ i, i < n → (Op.equalIn d e (item i) (item i)).run P w = .ok true w) : (Op.equalIn (d + 1) t (.agg xs) (.agg xs)).run P w = .ok true w := by
  rw [run_equalIn_array w d xs xs hu hj, hc]
  have : ∀ is : List Nat, (∀ i ∈ is, i < n) → (Op.eqItems d e m xs xs is).run P w = .ok true w := by
    intro is
    induction is with
    | nil => intro _; simp [Op.eqItems]
    | cons i is ih =>
      intro h
      have h1 := hp i (h i (by simp))
      have h2 := he i (h i (by simp))
      simp only [Op.eqItems, Sem.run_bind, h1, h2, Result.andThen_ok, Bool.not_true, Bool.false_eq_true, if_false]
      exact ih fun k hk => h k (by simp [hk])
  exact this _ fun i hi => by simpa using hi
theorem node_info : ∃ j, Try.prog.info? 80 = some j := Option.isSome_iff_exists.1 (by kernel_rfl)
theorem equal_secret (w : World) (S : Nat → Bs 16) : (Op.equalIn 10000 82 (.agg (scells S)) (.agg (scells S))).run Try.prog w = .ok true w :=
  node_info.elim fun j hj => equal_same_array w 9999 (scells S) (fun i => .agg (bcells (S i))) Try.underlying82 hj (by kernel_rfl) (part_node w S) (fun i _ => by have h := equal_node w 9997 (S i) (S i); rw [bsEq_self] at h; exact h)
theorem index_secret (w : World) (S : Nat → Bs 16) (i : Nat) (hi : i < 68) : (Instr.index 82 (.agg (scells S)) (.int .i64 (i : Int))).run Try.prog w = .ok (.agg (bcells (S i))) w := by
  have hz := run_sizeOf w 80 16 (P := Try.prog) (by kernel_rfl)
  have hp := part_node w S i hi
  have hn : 0 ≤ (i : Int) ∧ (i : Int) < (68 : Int) := by omega
  generalize bcells (S i) = c at hp ⊢
  generalize scells S = xs at hp ⊢
  simp [Instr.index, run_underlying Try.underlying82, asIntOf, hz, hp, hi]
end Go.Proofs.Ytegicioofbhifaa
/- append of bytes to bytes of one's own, wherever the appended ones lie. -/
namespace Go.Proofs.Ytegicioofbhifaa
open Go.RowKit
set_option linter.unusedVariables false
set_option linter.unusedSimpArgs false

theorem grown_refl (w : World) (k : Option Nat) : w.grownBy w k := ⟨rfl, rfl, rfl, Nat.le_refl _, fun _ _ _ => rfl⟩
theorem one_cb (c : List UInt8) : ∀ u ∈ c.map cb, u.oneCell' = true := by
  intro u hu; simp only [List.mem_map] at hu; obtain ⟨y, _, rfl⟩ := hu; rfl
theorem bytes_nil {w : World} {n : Nat} {c : List UInt8} (h : BytesIn w none n c) : n = 0 ∧ c = [] := by
  have h0 : n = 0 := by
    rcases Nat.eq_zero_or_pos n with h0 | h0
    · exact h0
    · obtain ⟨ad, e, _⟩ := h.2 h0
      cases e
  exact ⟨h0, List.eq_nil_of_length_eq_zero (by rw [h.1, h0])⟩
theorem run_append_own_nil {P : Program} {w : World} (base : Nat) (t ty e : TypeId) (i : TypeInfo) (size : Nat) (ht : P.underlying t = some (.slice e)) (hi : P.info? e = some i)
    (v : Value) (n : Nat) (xs : List Value) (hown : w.ownsRow base e size v n xs) (cap : Nat) :
    (Builtin.append_ #[t, t] ty #[v, .slice none 0 cap]).run P w = .ok v w := by
  rcases hown.2 with ⟨rfl, rfl⟩ | ⟨g, cap', cur, rfl, _, _, hnc, _⟩
  · simp [Builtin.append_, run_underlying ht, sizeOf, typeInfo, hi, Builtin.lenOf, Builtin.firstCells]
  · simp [Builtin.append_, run_underlying ht, sizeOf, typeInfo, hi, Builtin.lenOf, Builtin.firstCells, hnc, storeCells]
theorem wpList_app {ops : Array Oper} {rest : List Oper} {o : Oper} {act : Act} {Q : Exit → Act → World → Prop} (w : World) (hgd : o.guard = none) (s x : Operand)
    (ho : o.op = .call { callee := .builtin .append, args := #[s, x], argTypes := #[27, 27] })
    (base n : Nat) (v : Value) (xs : List UInt8) (hs : act.eval s = v) (hown : w.ownsRow base 5 1 v n (xs.map cb))
    (a : Option Addr) (m cap : Nat) (c : List UInt8) (hx : act.eval x = .slice a m cap) (hb : BytesIn w a m c)
    (hmax : n + m ≤ 140737488355328) (hbase : base ≤ w.heap.size)
    (h : ∀ v' w', w'.ownsRow base 5 1 v' (n + m) ((xs ++ c).map cb) → w.grownBy w' v.ownBlock → (v' = .slice none 0 0 → v = .slice none 0 0 ∧ m = 0) → wpList Try.prog ops Q rest (act.put o.dst v') w') :
    wpList Try.prog ops Q (o :: rest) act w := by
  obtain ⟨i0, hi0, hz0, hz1, hz2⟩ := info_parts info_u8
  cases a with
  | none =>
    obtain ⟨h0, rfl⟩ := bytes_nil hb
    subst h0
    refine wpList_plain hgd fun K hK => ?_
    have hrun := run_append_own_nil base 27 o.type 5 i0 1 Try.underlying27 hi0 v n (xs.map cb) hown cap
    unfold Oper.wp
    simp [execOp, ho, resolve, invoke, builtin, hs, hx, hrun, Result.andThen]
    refine hK _ _ ?_
    exact h v w (by rw [List.append_nil]; exact hown) (grown_refl _ _) (fun e => ⟨e, rfl⟩)
  | some ad =>
    refine wpList_append_own _ hgd s x 27 ho base 5 i0 (.int .u8 0) 1 1 Try.underlying27 hi0 hz0 hz1 hz2 rfl (by decide) v n (xs.map cb) hs hown ad m cap (c.map cb) hx (by rw [List.length_map, hb.1, Nat.mul_one]) (news_of_bytes hb) (one_cb c) (by unfold maxLen; omega) (by omega) hbase ?_
    intro v' w' h1 h2 h3
    exact h v' w' (by rw [List.map_append]; exact h1) h2 (fun e => h3.1 e)
/-- A row of one's own, as bytes that a slice holds. -/
theorem own_in {w : World} {base n : Nat} {v : Value} {xs : List UInt8} (h : w.ownsRow base 5 1 v n (xs.map cb)) : ∃ a cap, v = .slice a n cap ∧ n ≤ cap ∧ cap ≤ maxLen ∧ (a = none → n = 0 ∧ cap = 0) ∧ BytesIn w a n xs ∧ ∀ ad, a = some ad → ∃ g, ad = ⟨g, 0, none⟩ ∧ base ≤ g ∧ g < w.heap.size ∧ ∃ L, w.heap[g]? = some (.cells L 5 (0, 0)) := by
  have hl := h.1
  rw [List.length_map, Nat.mul_one] at hl
  have h' := h
  rcases h.2 with ⟨hv, h0⟩ | ⟨g, cap, cur, hv, hbg, hg, hn, hm, hsz, htk⟩
  · subst hv h0
    exact ⟨none, 0, rfl, Nat.le_refl _, Nat.zero_le _, fun _ => ⟨rfl, rfl⟩, ⟨hl, fun h => absurd h (by omega)⟩, fun ad e => by cases e⟩
  · subst hv
    exact ⟨_, cap, rfl, hn, hm, (fun e => by cases e), own_bytes h' hl, fun ad e => by obtain rfl := Option.some.inj e; exact ⟨g, rfl, hbg, lt_of_block hg, cur, hg⟩⟩
/-- What a fresh slice of bytes is: its place from 'base' on, in a block of its own. -/
def Fresh (base : Nat) (v : Value) (c : List UInt8) (w : World) : Prop :=
  ∃ a cap, v = .slice a c.length cap ∧ c.length ≤ cap ∧ cap ≤ maxLen ∧ (a = none → c.length = 0 ∧ cap = 0) ∧ BytesIn w a c.length c ∧ ∀ ad, a = some ad → ∃ g, ad = ⟨g, 0, none⟩ ∧ base ≤ g ∧ g < w.heap.size ∧ ∃ L, w.heap[g]? = some (.cells L 5 (0, 0))
theorem own_fresh {w : World} {base n : Nat} {v : Value} {xs : List UInt8} (h : w.ownsRow base 5 1 v n (xs.map cb)) : Fresh base v xs w := by
  have hl := h.1
  rw [List.length_map, Nat.mul_one] at hl
  subst hl
  exact own_in h
end Go.Proofs.Ytegicioofbhifaa
/- The walk of wots.join. -/
namespace Go.Proofs.Ytegicioofbhifaa
open Go.RowKit
set_option linter.unusedVariables false
set_option linter.unusedSimpArgs false

theorem store_new_N (o : Bs 16) (w : World) (N : Nat) (hN : w.heap.size = N) (z : Array Value) (hz : z.size = 16) : storeStep Try.prog 80 (.pointer (some ⟨N, 0, none⟩)) (.agg (bcells o)) (w.alloc (.cells z 80)) = .ok .skip (w.alloc (.cells (bcells o) 80)) := by
  subst hN
  rw [store_over (P := Try.prog) _ w.heap.size 80 16 (bcells o) z 80 (size_bcells o) hz (by kernel_rfl) (one_bcells _) (heap_alloc_new w _), setRow_new]
theorem sc_whole (S : Nat → Bs 16) : (scells S).extract 0 1088 = scells S := by
  apply Array.ext'
  rw [Array.toList_extract, List.extract_eq_take_drop, List.drop_zero, List.take_of_length_le]
  rw [Array.length_toList, size_scells]; omega
theorem nat_mul (i n : Nat) : ((i : Int) * (n : Int)).toNat = i * n := by rw [← Int.natCast_mul]; rfl
attribute [local go_sem ↓] exec_store_Node exec_store_Secret zero_Secret
attribute [local go_sem ↓] loadCells_blk
attribute [local go_sem] run_blkLoad rowAt_drew rowAt_old rowAt_new size_bcells size_scells bc_whole sc_whole
set_option maxHeartbeats 4000000 in
set_option maxRecDepth 100000 in
theorem join_own (S : Nat → Bs 16) (w : World) : Calls Try.prog 73 #[.agg (scells S)] w fun r w' => (∃ v, r = .returned v ∧ w'.ownsRow w.heap.size 5 1 v 1088 ((joinB S 68).map cb)) ∧ Ext w w' := by
  have hz16 : (#[.int .u8 0, .int .u8 0, .int .u8 0, .int .u8 0, .int .u8 0, .int .u8 0, .int .u8 0, .int .u8 0, .int .u8 0, .int .u8 0, .int .u8 0, .int .u8 0, .int .u8 0, .int .u8 0, .int .u8 0, .int .u8 0] : Array Value).size = 16 := rfl
  go_enter Try.func73, Try.ntmps73
  go_wp2_with fail
  go_loopw [3, 7] (fun s3 s7 wr => ∃ i : Nat, i ≤ 68 ∧ s7 = .int .i64 i ∧ wr.ownsRow w.heap.size 5 1 s3 (i * 16) ((joinB S i).map cb) ∧ Ext w wr) (fun _ i _ => 68 - (intOf i).toNat)
  case atStart => exact ⟨0, by omega, rfl, ⟨rfl, .inl ⟨rfl, rfl⟩⟩, ext_alloc _ _⟩
  case round =>
    obtain ⟨i, hi, rfl, hown, hx⟩ := hrel
    obtain ⟨w2, rfl⟩ : ∃ w2, w2 = wr := ⟨_, rfl⟩
    by_cases hlt : i < 68
    · have hlt' : (i : Int) < 68 := by omega
      have hi0 : (0 : Int) ≤ i := by omega
      have hp := index_secret w2 S i hlt
      have hsn := store_new_N (S i) w2 _ rfl _ hz16
      have hb : BytesIn (w2.alloc (.cells (bcells (S i)) 80)) (some ⟨w2.heap.size, 0, none⟩) 16 (S i).1 := bytes_blk (heap_alloc_new w2 (.cells (bcells (S i)) 80)) (S i).2
      have hx1 := ext_alloc w2 (.cells (bcells (S i)) 80)
      have hown1 := own_ext hx1 hown
      have hbase := (hx.then hx1).size
      have hm : i * 16 + 16 ≤ 140737488355328 := by omega
      have hjn : joinB S i ++ (S i).1 = joinB S (i + 1) := rfl
      have h16 : i * 16 + 16 = (i + 1) * 16 := by omega
      obtain ⟨m, em⟩ : ∃ m, m = i * 16 := ⟨_, rfl⟩
      rw [← em] at hown1 hm h16 hown
      replace hown := hide hown
      replace hown1 := hide hown1
      replace hb := hide hb
      replace hm := hide hm
      replace hbase := hide hbase
      replace hjn := hide hjn
      replace h16 := hide h16
      replace em := hide em
      go_wp2_with (at_builtin; (refine wpList_app _ rfl _ _ rfl w.heap.size m u3 (joinB S i) rfl hown1.out (some ⟨w2.heap.size, 0, none⟩) 16 16 (S i).1 rfl hb.out hm.out hbase.out ?_); intro v1 w3 hown3 hgrow3 hnil3; rw [hjn.out, h16.out] at hown3; have hx3 := ext_grown (hx.then hx1) hgrow3 (fun k hk => (hown1.out.lt k hk).1))
      go_roundw
      case rel => exact ⟨i + 1, by omega, by go_num, hown3, hx3⟩
      case measure => simp [intOf]; omega
    · obtain rfl : i = 68 := by omega
      go_wp2_with fail
      go_ret
      exact ⟨⟨_, rfl, hown⟩, hx⟩
theorem join_any (S : Nat → Bs 16) (w : World) : Calls Try.prog 73 #[.agg (scells S)] w fun r w' => (∃ v, r = .returned v ∧ Fresh w.heap.size v (joinB S 68) w') ∧ Ext w w' :=
  (join_own S w).mono fun r w' ⟨⟨v, hr, ho⟩, hx⟩ => ⟨⟨v, hr, own_fresh ho⟩, hx⟩
end Go.Proofs.Ytegicioofbhifaa
/- Digits as numbers from 0 to 3. -/
namespace Go.Proofs.Ytegicioofbhifaa
open Go.RowKit
set_option linter.unusedVariables false
set_option linter.unusedSimpArgs false

theorem digL_range (h : Bs 32) : ∀ d ∈ digL h, 0 ≤ d ∧ d ≤ 3 := by
  intro d hd
  rw [digL, List.mem_append] at hd
  rcases hd with hd | hd
  · exact dgs_range _ d hd
  · simp only [four, List.mem_cons, List.not_mem_nil, or_false] at hd
    rcases hd with rfl | rfl | rfl | rfl <;> omega
def digN (h : Bs 32) (i : Nat) : Nat := ((digL h).getD i 0).toNat
theorem digN_int (h : Bs 32) (i : Nat) : (digL h).getD i 0 = (digN h i : Int) := by
  unfold digN
  by_cases hi : i < (digL h).length
  · have := digL_range h ((digL h)[i]) (List.getElem_mem hi)
    rw [List.getD_eq_getElem?_getD, List.getElem?_eq_getElem hi, Option.getD_some]; omega
  · rw [List.getD_eq_getElem?_getD, List.getElem?_eq_none (by omega)]; rfl
theorem digN_le (h : Bs 32) (i : Nat) : digN h i ≤ 3 := by
  unfold digN
  by_cases hi : i < (digL h).length
  · have := digL_range h ((digL h)[i]) (List.getElem_mem hi)
    rw [List.getD_eq_getElem?_getD, List.getElem?_eq_getElem hi, Option.getD_some]; omega
  · rw [List.getD_eq_getElem?_getD, List.getElem?_eq_none (by omega)]; simp
theorem HasInts.digit {w : World} {g : Nat} {h : Bs 32} (hi : HasInts w g (digL h)) (i : Nat) (hlt : i < 68) : w.cell? ⟨g, i, none⟩ = some (.int .i64 (digN h i : Int)) := by
  rw [hi i hlt, digN_int]
end Go.Proofs.Ytegicioofbhifaa
/- The walk of wots.each. -/
namespace Go.Proofs.Ytegicioofbhifaa
open Go.RowKit
set_option linter.unusedVariables false
set_option linter.unusedSimpArgs false

theorem enter_none (args : Array Value) (w : World) : (callFunc 75 args).run Try.prog w = .ok (.enter 75 args) w := by
  go_simp
attribute [local go_sem ↓] exec_store_Hash exec_store_Node exec_store_Secret zero_Secret
attribute [local go_sem ↓] loadCells_blk
attribute [local go_sem] node_at run_blkLoad rowAt_drew rowAt_old rowAt_new size_bcells size_scells bc_whole half_extract
set_option maxHeartbeats 4000000 in
set_option maxRecDepth 100000 in
theorem each_any (S : Nat → Bs 16) (ff ft : Nat) (cf ct : Array Value) (F T : Nat → Nat) (w : World)
    (hF : ∀ w' i, Ext w w' → i < 68 → Calls Try.prog ff (#[.int .i64 (i : Int)] ++ cf) w' fun r w'' => r = .returned (.int .i64 (F i : Int)) ∧ Ext w' w'')
    (hT : ∀ w' i, Ext w w' → i < 68 → Calls Try.prog ft (#[.int .i64 (i : Int)] ++ ct) w' fun r w'' => r = .returned (.int .i64 (T i : Int)) ∧ Ext w' w'')
    (hrF : ∀ args w, (callFunc ff args).run Try.prog w = .ok (.enter ff args) w) (hrT : ∀ args w, (callFunc ft args).run Try.prog w = .ok (.enter ft args) w)
    (hT3 : ∀ i, i < 68 → T i ≤ 3) :
    Calls Try.prog 74 #[.agg (scells S), .func (.func ff) #[] cf, .func (.func ft) #[] ct] w fun r w' => r = .returned (.agg (scells (eachB S F T))) ∧ Ext w w' := by
  go_enter Try.func74, Try.ntmps74
  go_wp2_with fail
  have hx := ext_two w (.cells (scells S) 82) (.cells (scells noS) 82)
  have hX := heap_alloc2_old w (.cells (scells S) 82) (.cells (scells noS) 82)
  have hZ := heap_alloc2_new w (.cells (scells S) 82) (.cells (scells noS) 82)
  generalize (w.alloc (.cells (scells S) 82)).alloc (.cells (scells noS) 82) = W at *
  rw [← mix_zero (eachB S F T) S] at hX
  go_loopw [9] (fun s wr => ∃ k : Nat, k ≤ 68 ∧ s = .int .i64 k ∧ wr.heap[w.heap.size]? = some (.cells (scells (mix (eachB S F T) S k)) 82 (0, 0)) ∧ wr.heap[w.heap.size + 1]? = some (.cells (scells noS) 82 (0, 0)) ∧ Ext w wr) (fun i _ => 68 - (intOf i).toNat)
  case atStart => exact ⟨0, by omega, rfl, hX, hZ, hx⟩
  case round =>
    clear hX hZ hx
    obtain ⟨k, hk, rfl, hX, hZ, hx⟩ := hrel
    obtain ⟨w2, rfl⟩ : ∃ w2, w2 = wr := ⟨_, rfl⟩
    by_cases hlt : k < 68
    · have hlt' : (k : Int) < 68 := by omega
      have hk0 : (0 : Int) ≤ k := by omega
      have hM := mix_succ (eachB S F T) S k
      have hMk := mix_at (eachB S F T) S k
      have hE : eachB S F T k = goB (S k) k (F k) (T k - F k) := rfl
      generalize mix (eachB S F T) S k = M at *
      rw [← upd_self M k, hMk] at hX
      replace hM := hide hM
      replace hE := hide hE
      replace hZ := hide hZ
      have hFk := hF _ k hx hlt
      have hTk := fun w' h => hT w' k h hlt
      have hT3 := hT3 k hlt
      replace hX := hide hX
      replace hTk := hide hTk
      clear hF hT
      go_wp2_with (first
        | ((with_reducible refine hFk.mono ?_); rintro r w3 ⟨rfl, hx3⟩))
      have hX3 := (hx3.block _ (lt_of_block hX.out)).trans hX.out
      have hZ3 := (hx3.block _ (lt_of_block hZ.out)).trans hZ.out
      replace hx3 := hx.then hx3
      clear hFk hX hZ hx
      obtain ⟨f, hf⟩ : ∃ f, f = F k := ⟨_, rfl⟩
      obtain ⟨t, ht⟩ : ∃ t, t = T k := ⟨_, rfl⟩
      rw [← hf, ← ht] at hE
      rw [← ht] at hTk hT3
      rw [← hf]
      replace hf := hide hf
      replace ht := hide ht
      go_loopw [8] (fun s wr => ∃ n : Nat, s = .int .i64 ((f + n : Nat) : Int) ∧ (n = 0 ∨ f + n ≤ t) ∧ wr.heap[w.heap.size]? = some (.cells (scells (upd M k (goB (S k) k f n))) 82 (0, 0)) ∧ wr.heap[w.heap.size + 1]? = some (.cells (scells noS) 82 (0, 0)) ∧ Ext w wr) (fun i _ => t - (intOf i).toNat)
      case atStart => exact ⟨0, rfl, .inl rfl, hX3, hZ3, hx3⟩
      case round =>
        clear hX3 hZ3 hx3
        obtain ⟨n, rfl, hn, hX, hZ, hx⟩ := hrel
        obtain ⟨w4, rfl⟩ : ∃ w4, w4 = wr := ⟨_, rfl⟩
        have hTn := hTk.out w4 hx
        obtain ⟨m, hm⟩ : ∃ m, m = f + n := ⟨_, rfl⟩
        have hms : ∀ x : Bs 16, stepB x k (f + n) = stepB x k m := fun x => by rw [hm]
        rw [← hm] at hn ⊢
        have hm1 : m + 1 = f + (n + 1) := by omega
        replace hm := hide hm
        by_cases hnt : m < t
        · have hnt' : (m : Int) < t := by omega
          have hd : decide ((m : Int) < t) = true := by simpa using hnt'
          have hup := upd_upd M k (goB (S k) k f n) (goB (S k) k f (n + 1))
          have hgo : goB (S k) k f (n + 1) = stepB (goB (S k) k f n) k (f + n) := rfl
          have hrow := rowAt_scells hX k hlt
          rw [upd_at] at hrow
          rw [hms] at hgo
          rw [hgo] at hup
          generalize goB (S k) k f n = x at *
          replace hX := hide hX
          replace hZ := hide hZ
          replace hup := hide hup
          replace hgo := hide hgo
          go_wp2_with (first
            | ((with_reducible refine hTn.mono ?_); rintro r w5 ⟨rfl, hx5⟩; have hrow5 := rowAt_ext hx5 hrow; have hX5 := (hx5.block _ (lt_of_block hX.out)).trans hX.out; have hZ5 := (hx5.block _ (lt_of_block hZ.out)).trans hZ.out)
            | (go_at_call 102; (with_reducible refine (step_any x k m (by omega) (by omega) _).mono ?_); rintro r w6 ⟨rfl, hx6⟩; have hX6 := (hx6.block _ (lt_of_block hX5)).trans hX5; have hZ6 := (hx6.block _ (lt_of_block hZ5)).trans hZ5; have hst := store_node w6 w.heap.size k hlt _ (stepB x k m) _ hX6; rw [hup.out] at hst))
          go_roundw
          case rel => exact ⟨n + 1, by rw [← hm1]; go_num, .inr (by omega), by rw [hgo.out]; exact setRow_heap _ _ _ _ _ _ hX6, (setRow_other _ _ _ _ (by omega)).trans hZ6, below_setRow ((hx.then hx5).then hx6) (Nat.le_refl _) _⟩
          case measure => simp [intOf]; omega
        · have hnt' : ¬ (m : Int) < t := by omega
          have hd : decide ((m : Int) < t) = false := by simpa using hnt'
          obtain rfl : n = t - f := by have := hm.out; omega
          rw [← hE.out, hM.out] at hX
          replace hX := hide hX
          replace hZ := hide hZ
          go_wp2_with (first
            | ((with_reducible refine hTn.mono ?_); rintro r w5 ⟨rfl, hx5⟩))
          go_roundw
          case rel => exact ⟨k + 1, by omega, by go_num, (hx5.block _ (lt_of_block hX.out)).trans hX.out, (hx5.block _ (lt_of_block hZ.out)).trans hZ.out, hx.then hx5⟩
          case measure => simp [intOf]; omega
    · obtain rfl : k = 68 := by omega
      rw [scells_mix] at hX
      have r1 := rowAt_whole hX (size_scells _)
      have hst := store_over (P := Try.prog) _ (w.heap.size + 1) 82 1088 (scells (eachB S F T)) _ 82 (size_scells _) (size_scells _) (by kernel_rfl) (one_scells _) hZ
      go_wp2_with ((with_reducible show bodyPost _ _ _ _ _ _); refine ret_row (P := Try.prog) 6 82 1088 _ _ rfl rfl Try.underlying82 rfl (by kernel_rfl) _ _ rfl (rowAt_whole (setRow_heap _ _ _ _ _ _ hZ) (size_scells _)) ⟨rfl, below_setRow hx (by omega) _⟩)
end Go.Proofs.Ytegicioofbhifaa
/- The walk of wots.Public. -/
namespace Go.Proofs.Ytegicioofbhifaa
open Go.RowKit
set_option linter.unusedVariables false
set_option linter.unusedSimpArgs false

theorem enter_all (args : Array Value) (w : World) : (callFunc 82 args).run Try.prog w = .ok (.enter 82 args) w := by
  go_simp
theorem none_any (i : Int) (w : World) : Calls Try.prog 75 #[.int .i64 i] w fun r w' => r = .returned (.int .i64 ((0 : Nat) : Int)) ∧ Ext w w' := by
  go_enter Try.func75, Try.ntmps75
  go_wp2_with fail
  go_ret
  exact ⟨rfl, Below.refl _ _⟩
theorem all_any (i : Int) (w : World) : Calls Try.prog 82 #[.int .i64 i] w fun r w' => r = .returned (.int .i64 ((3 : Nat) : Int)) ∧ Ext w w' := by
  go_enter Try.func82, Try.ntmps82
  go_wp2_with fail
  go_ret
  exact ⟨rfl, Below.refl _ _⟩
attribute [local go_sem ↓] exec_store_Hash exec_store_Node exec_store_Secret zero_Secret
attribute [local go_sem ↓] loadCells_blk
attribute [local go_sem] run_blkLoad rowAt_drew rowAt_old rowAt_new size_bcells size_scells bc_whole sc_whole
theorem none_at (w' : World) (i : Nat) : Calls Try.prog 75 (#[.int .i64 (i : Int)] ++ #[]) w' fun r w'' => r = .returned (.int .i64 ((0 : Nat) : Int)) ∧ Ext w' w'' := by
  rw [Array.append_empty]; exact none_any i w'
theorem all_at (w' : World) (i : Nat) : Calls Try.prog 82 (#[.int .i64 (i : Int)] ++ #[]) w' fun r w'' => r = .returned (.int .i64 ((3 : Nat) : Int)) ∧ Ext w' w'' := by
  rw [Array.append_empty]; exact all_any i w'
theorem each_public (S : Nat → Bs 16) (w : World) : Calls Try.prog 74 #[.agg (scells S), .func (.func 75) #[] #[], .func (.func 82) #[] #[]] w fun r w' => r = .returned (.agg (scells (eachB S (fun _ => 0) (fun _ => 3)))) ∧ Ext w w' :=
  each_any S 75 82 #[] #[] (fun _ => 0) (fun _ => 3) w (fun w' i _ _ => none_at w' i) (fun w' i _ _ => all_at w' i) enter_none enter_all (fun _ _ => Nat.le_refl 3)
set_option maxHeartbeats 4000000 in
set_option maxRecDepth 100000 in
theorem public_any (S : Nat → Bs 16) (w : World) : Calls Try.prog 68 #[.agg (scells S)] w fun r w' => r = .returned (.agg (bcells (publicB S))) ∧ Ext w w' := by
  have e0 : hashB (80 :: joinB (eachB S (fun _ => 0) (fun _ => 3)) 68) = publicB S := rfl
  have hE := fun w' => each_public S w'
  generalize eachB S (fun _ => 0) (fun _ => 3) = E at *
  have hJ := fun w' => join_any E w'
  have hJl : (joinB E 68).length = 1088 := length_joinB E 68
  generalize joinB E 68 = J at *
  obtain ⟨hA, hR, hP, hx, hsz⟩ := alloc3 w (.cells (scells S) 82) (.cells (bcells (zeros 32)) 23) (.cells #[.int .u8 80] 5)
  have hbP : BytesIn _ (some ⟨w.heap.size + 1 + 1, 0, none⟩) 1 [80] := bytes_blk (l := [80]) hP rfl
  have hz := size_bcells (zeros 32)
  rw [bcells_zeros] at hz hA hR hP hx hbP
  have hmx2 : 2 ≤ maxLen := by unfold maxLen; omega
  have hmx1 : 1 ≤ maxLen := by unfold maxLen; omega
  clear hA hP hsz
  have hfl : [[80], J].flatten = 80 :: J := by simp
  replace hfl := hide hfl
  replace hE := hide hE
  replace hJ := hide hJ
  replace e0 := hide e0
  replace hR := hide hR
  replace hx := hide hx
  replace hbP := hide hbP
  replace hJl := hide hJl
  go_enter Try.func68, Try.ntmps68
  go_wp2_with (first
    | (go_at_call 74; (with_reducible refine (hE.out _).mono ?_); rintro r w1 ⟨rfl, hx1⟩)
    | (go_at_call 73; (with_reducible refine (hJ.out _).mono ?_); rintro r w2 ⟨⟨v, rfl, a, cap, rfl, hc1, hc2, hc3, hb, hc5⟩, hx2⟩; replace hx2 := hx1.then hx2; have hp := two_laid (hbP.out.ext hx2) hb (Nat.le_refl 1) hc1 hmx1 hc2 _ rfl; have hx3 := hx2.then (ext_alloc w2 (.cells #[.slice (some ⟨w.heap.size + 1 + 1, 0, none⟩) 1 1, .slice a J.length cap] 27)); replace hp := hide hp; clear hc3 hc5 hb)
    | (go_at_call 25; (with_reducible refine (sumB_any _ 2 2 [[80], J] (80 :: J) hfl.out _ (Nat.le_refl 2) hmx2 hp.out).mono ?_); rintro r w4 ⟨rfl, hx4⟩; rw [e0.out]; replace hx4 := hx3.then hx4; have hR4 := (hx4.block _ (lt_of_block hR.out)).trans hR.out; have hst4 := store_over (P := Try.prog) w4 (w.heap.size + 1) 23 32 (bcells (publicB S)) _ 23 (size_bcells _) hz (by kernel_rfl) (one_bcells _) hR4)
    | ((with_reducible show bodyPost _ _ _ _ _ _); refine ret_row (P := Try.prog) 2 23 32 _ _ rfl rfl Try.underlying23 rfl (by kernel_rfl) _ _ rfl (rowAt_whole (setRow_heap _ _ _ _ _ _ hR4) (size_bcells _)) ⟨rfl, below_setRow (hx.out.then hx4) (by omega) _⟩))
end Go.Proofs.Ytegicioofbhifaa
/- The walk of wots.Sign. -/
namespace Go.Proofs.Ytegicioofbhifaa
open Go.RowKit
set_option linter.unusedVariables false
set_option linter.unusedSimpArgs false

theorem Fresh.low {b b' : Nat} {v : Value} {c : List UInt8} {w : World} (h : Fresh b v c w) (hb : b' ≤ b) : Fresh b' v c w :=
  let ⟨a, cap, h1, h2, h3, h4, h5, h6⟩ := h
  ⟨a, cap, h1, h2, h3, h4, h5, fun ad e => let ⟨g, e1, e2, e3⟩ := h6 ad e; ⟨g, e1, Nat.le_trans hb e2, e3⟩⟩
theorem enter_sign1 (args : Array Value) (w : World) : (callFunc 76 args).run Try.prog w = .ok (.enter 76 args) w := by
  go_simp
theorem sign1_any (h : Bs 32) (p g cp i : Nat) (hi : i < 68) (w : World) (hp : w.cell? ⟨p, 0, none⟩ = some (.slice (some ⟨g, 0, none⟩) 68 cp)) (hd : HasInts w g (digL h)) : Calls Try.prog 76 #[.int .i64 (i : Int), .pointer (some ⟨p, 0, none⟩)] w fun r w' => r = .returned (.int .i64 (digN h i : Int)) ∧ Ext w w' := by
  have hc := hd.digit i hi
  have hi' : (i : Int) < 68 := by omega
  have hi0 : (0 : Int) ≤ i := by omega
  clear hd
  generalize digN h i = d at hc ⊢
  go_enter Try.func76, Try.ntmps76
  go_wp2_with fail
  go_ret
  exact ⟨rfl, Below.refl _ _⟩
theorem each_sign (S : Nat → Bs 16) (h : Bs 32) (p g cp : Nat) (w : World) (hp : w.heap[p]? = some (.cells #[.slice (some ⟨g, 0, none⟩) 68 cp] 100 (0, 0))) (hd : HasInts w g (digL h)) :
    Calls Try.prog 74 #[.agg (scells S), .func (.func 75) #[] #[], .func (.func 76) #[] #[.pointer (some ⟨p, 0, none⟩)]] w fun r w' => r = .returned (.agg (scells (eachB S (fun _ => 0) (digN h)))) ∧ Ext w w' := by
  have hc : w.cell? ⟨p, 0, none⟩ = some (.slice (some ⟨g, 0, none⟩) 68 cp) := by rw [cell_of_row w p 0 _ _ _ hp]; rfl
  exact each_any S 75 76 #[] #[.pointer (some ⟨p, 0, none⟩)] (fun _ => 0) (digN h) w (fun w' i _ _ => none_at w' i) (fun w' i hx hi => sign1_any h p g cp i hi w' ((hx.cell (p := ⟨p, 0, none⟩) (block_lt_of_cell hc)).trans hc) (hd.ext hx)) enter_none enter_sign1 (fun i _ => digN_le h i)
attribute [local go_sem ↓] exec_store_Hash exec_store_Node exec_store_Secret zero_Secret
attribute [local go_sem ↓] loadCells_blk
attribute [local go_sem] run_blkLoad rowAt_drew rowAt_old rowAt_new size_bcells size_scells bc_whole sc_whole
set_option maxHeartbeats 4000000 in
set_option maxRecDepth 100000 in
theorem sign_own (S : Nat → Bs 16) (h : Bs 32) (w : World) : Calls Try.prog 34 #[.agg (scells S), .agg (bcells h)] w fun r w' => (∃ v, r = .returned v ∧ w'.ownsRow w.heap.size 5 1 v 1088 ((signB S (digN h)).map cb)) ∧ Ext w w' := by
  have hS := heap_alloc2_old w (.cells (scells S) 82) (.cells (bcells h) 23)
  have hx := ext_two w (.cells (scells S) 82) (.cells (bcells h) 23)
  replace hS := hide hS
  replace hx := hide hx
  go_enter Try.func34, Try.ntmps34
  go_wp2_with (first
    | (go_at_call 72; (with_reducible refine (digits_ints h _).mono ?_); rintro r w1 ⟨g, cp, rfl, hi, hx1⟩; have hS1 := (hx1.block _ (lt_of_block hS.out)).trans hS.out; have hS2 := ((ext_alloc w1 (.cells #[.slice (some ⟨g, 0, none⟩) 68 cp] 100)).block _ (lt_of_block hS1)).trans hS1; have r2 := rowAt_whole hS2 (size_scells S); have hD := heap_alloc_new w1 (.cells #[.slice (some ⟨g, 0, none⟩) 68 cp] 100); have hi2 := hi.ext (ext_alloc w1 (.cells #[.slice (some ⟨g, 0, none⟩) 68 cp] 100)); replace hx1 := hx1.then (ext_alloc w1 (.cells #[.slice (some ⟨g, 0, none⟩) 68 cp] 100)); clear hS1 hS2 hi)
    | (go_at_call 74; (with_reducible refine (each_sign S h _ g cp _ hD hi2).mono ?_); rintro r w2 ⟨rfl, hx2⟩; replace hx2 := hx1.then hx2)
    | (go_at_call 73; (with_reducible refine (join_own _ _).mono ?_); rintro r w3 ⟨⟨v, rfl, hf⟩, hx3⟩; replace hx3 := hx.out.then (hx2.then hx3); have hf2 := Joins.ownsRow_le hf (hx.out.then hx2).size; clear hf))
  go_ret
  exact ⟨⟨_, rfl, hf2⟩, hx3⟩
theorem sign_any (S : Nat → Bs 16) (h : Bs 32) (w : World) : Calls Try.prog 34 #[.agg (scells S), .agg (bcells h)] w fun r w' => (∃ v, r = .returned v ∧ Fresh w.heap.size v (signB S (digN h)) w') ∧ Ext w w' :=
  (sign_own S h w).mono fun r w' ⟨⟨v, hr, ho⟩, hx⟩ => ⟨⟨v, hr, own_fresh ho⟩, hx⟩
end Go.Proofs.Ytegicioofbhifaa
/- The walk of wots.Recover. -/
namespace Go.Proofs.Ytegicioofbhifaa
open Go.RowKit
set_option linter.unusedVariables false
set_option linter.unusedSimpArgs false

theorem enter_rec1 (args : Array Value) (w : World) : (callFunc 81 args).run Try.prog w = .ok (.enter 81 args) w := by
  go_simp
theorem rec1_any (h : Bs 32) (p g cp i : Nat) (hi : i < 68) (w : World) (hp : w.cell? ⟨p, 0, none⟩ = some (.slice (some ⟨g, 0, none⟩) 68 cp)) (hd : HasInts w g (digL h)) : Calls Try.prog 81 #[.int .i64 (i : Int), .pointer (some ⟨p, 0, none⟩)] w fun r w' => r = .returned (.int .i64 (digN h i : Int)) ∧ Ext w w' := by
  have hc := hd.digit i hi
  have hi' : (i : Int) < 68 := by omega
  have hi0 : (0 : Int) ≤ i := by omega
  clear hd
  generalize digN h i = d at hc ⊢
  go_enter Try.func81, Try.ntmps81
  go_wp2_with fail
  go_ret
  exact ⟨rfl, Below.refl _ _⟩
theorem each_rec (S : Nat → Bs 16) (h : Bs 32) (p g cp : Nat) (w : World) (hp : w.heap[p]? = some (.cells #[.slice (some ⟨g, 0, none⟩) 68 cp] 100 (0, 0))) (hd : HasInts w g (digL h)) :
    Calls Try.prog 74 #[.agg (scells S), .func (.func 81) #[] #[.pointer (some ⟨p, 0, none⟩)], .func (.func 82) #[] #[]] w fun r w' => r = .returned (.agg (scells (eachB S (digN h) (fun _ => 3)))) ∧ Ext w w' := by
  have hc : w.cell? ⟨p, 0, none⟩ = some (.slice (some ⟨g, 0, none⟩) 68 cp) := by rw [cell_of_row w p 0 _ _ _ hp]; rfl
  exact each_any S 81 82 #[.pointer (some ⟨p, 0, none⟩)] #[] (digN h) (fun _ => 3) w (fun w' i hx hi => rec1_any h p g cp i hi w' ((hx.cell (p := ⟨p, 0, none⟩) (block_lt_of_cell hc)).trans hc) (hd.ext hx)) (fun w' i _ _ => all_at w' i) enter_rec1 enter_all (fun i _ => Nat.le_refl 3)
theorem bytes_mid {w : World} {ad : Addr} {n : Nat} {c : List UInt8} (h : BytesIn w (some ad) n c) (i q : Nat) (hi : i + q ≤ n) : BytesIn w (some (ad.add i)) q ((c.drop i).take q) := by
  have hl := h.1
  refine ⟨by rw [List.length_take, List.length_drop]; omega, fun h0 => ⟨_, rfl, fun j hj => ?_⟩⟩
  obtain ⟨ad', e, h2⟩ := h.2 (by omega)
  obtain rfl := Option.some.inj e
  rw [addr_add, h2 (i + j) (by omega)]
  simp [List.getD, List.getElem?_take_of_lt hj]
theorem load_node {w : World} {ad : Addr} {b : Bs 16} (h : BytesIn w (some ad) 16 b.1) : (blkLoad ad 16).run Try.prog w = .ok (bcells b) w := by
  have := run_loadCells_list (P := Try.prog) w ad (b.1.map cb) (fun j v hj => news_of_bytes h j v hj)
  rw [List.length_map, b.2] at this
  exact this
theorem nodesOf_at (c : List UInt8) (h : c.length = 1088) (k : Nat) (hk : k < 68) : (nodesOf c h k).1 = (c.drop (16 * k)).take 16 := by
  unfold nodesOf; rw [dif_pos hk]; show (c.drop (k * 16)).take 16 = _; rw [Nat.mul_comm]
attribute [local go_sem ↓] exec_store_Hash exec_store_Node exec_store_Secret zero_Secret
attribute [local go_sem ↓] loadCells_blk
attribute [local go_sem] node_at run_blkLoad rowAt_drew rowAt_old rowAt_new size_bcells size_scells bc_whole sc_whole
set_option maxHeartbeats 4000000 in
set_option maxRecDepth 100000 in
theorem recover_no (a : Option Addr) (n cap : Nat) (h : Bs 32) (w : World) (hn : n ≠ 1088) (hm : n ≤ maxLen) : Calls Try.prog 38 #[.slice a n cap, .agg (bcells h)] w fun r w' => r = .returned (.tuple #[.agg (bcells (zeros 32)), .int .i64 4]) ∧ Ext w w' := by
  have hx := ext_two w (.cells (bcells h) 23) (.cells (bcells (zeros 32)) 23)
  have hZ := heap_alloc2_new w (.cells (bcells h) 23) (.cells (bcells (zeros 32)) 23)
  have hst := store_self (P := Try.prog) _ (w.heap.size + 1) 23 32 (bcells (zeros 32)) 23 (size_bcells _) (by kernel_rfl) (one_bcells _) hZ
  have hrow := rowAt_whole hZ (size_bcells (zeros 32))
  rw [bcells_zeros] at hx hZ hst hrow
  rw [bcells_zeros]
  have hn' : ¬ (n : Int) = 1088 := by omega
  replace hZ := hide hZ
  replace hx := hide hx
  go_enter Try.func38, Try.ntmps38
  go_wp2_with ((with_reducible show bodyPost _ _ _ _ _ _); refine ret_row2 (P := Try.prog) 4 5 23 32 _ _ _ rfl rfl Try.underlying23 rfl (by kernel_rfl) _ _ rfl rfl hrow ⟨rfl, hx.out⟩)
set_option maxHeartbeats 4000000 in
set_option maxRecDepth 100000 in
theorem recover_S (a : Option Addr) (cap : Nat) (c : List UInt8) (S : Nat → Bs 16) (hS : ∀ k, k < 68 → (S k).1 = (c.drop (16 * k)).take 16) (h : Bs 32) (w : World) (hcap : 1088 ≤ cap) (hm : cap ≤ maxLen) (hb : BytesIn w a 1088 c) : Calls Try.prog 38 #[.slice a 1088 cap, .agg (bcells h)] w fun r w' => r = .returned (.tuple #[.agg (bcells (restB S (digN h))), .int .i64 0]) ∧ Ext w w' := by
  obtain ⟨ad, rfl, _⟩ := hb.2 (by omega)
  obtain ⟨hA, hR, hP, hx, hsz⟩ := alloc3 w (.cells (bcells h) 23) (.cells (bcells (zeros 32)) 23) (.cells (scells noS) 82)
  have hz := size_bcells (zeros 32)
  rw [bcells_zeros] at hz hA hR hP hx hsz
  replace hA := hide hA
  replace hR := hide hR
  replace hP := hide hP
  replace hx := hide hx
  replace hsz := hide hsz
  replace hb := hide hb
  go_enter Try.func38, Try.ntmps38
  go_wp2_with fail
  have hA := hA.out
  have hR := hR.out
  have hP := hP.out
  have hx := hx.out
  have hb := hb.out
  generalize ((w.alloc (.cells (bcells h) 23)).alloc _).alloc (.cells (scells noS) 82) = W at *
  rw [← mix_zero S noS] at hP
  clear hsz
  go_loopw [13] (fun s wr => ∃ k : Nat, k ≤ 68 ∧ s = .int .i64 k ∧ wr.heap[w.heap.size + 1 + 1]? = some (.cells (scells (mix S noS k)) 82 (0, 0)) ∧ wr.heap[w.heap.size]? = W.heap[w.heap.size]? ∧ wr.heap[w.heap.size + 1]? = W.heap[w.heap.size + 1]? ∧ Ext w wr) (fun i _ => 68 - (intOf i).toNat)
  case atStart => exact ⟨0, by omega, rfl, hP, rfl, rfl, hx⟩
  case round =>
    clear hP hx
    obtain ⟨k, hk, rfl, hP, hAw, hRw, hx⟩ := hrel
    obtain ⟨w2, rfl⟩ : ∃ w2, w2 = wr := ⟨_, rfl⟩
    by_cases hlt : k < 68
    · have hlt' : (k : Int) < 68 := by omega
      have hk0 : (0 : Int) ≤ k := by omega
      have hbk := bytes_mid (hb.ext hx) (16 * k) 16 (by omega)
      rw [← hS k hlt] at hbk
      have hld := load_node hbk
      have hst := store_node w2 (w.heap.size + 1 + 1) k hlt _ (S k) _ hP
      rw [mix_succ] at hst
      have hSr := setRow_heap w2 (w.heap.size + 1 + 1) (scells (mix S noS k)) (scells (mix S noS (k + 1))) _ _ hP
      clear hS
      generalize S k = x at *
      clear hbk
      replace hP := hide hP
      replace hAw := hide hAw
      replace hRw := hide hRw
      replace hSr := hide hSr
      go_wp2_with fail
      go_roundw
      case rel => exact ⟨k + 1, by omega, by go_num, hSr.out, (setRow_other _ _ _ _ (by omega)).trans hAw.out, (setRow_other _ _ _ _ (by omega)).trans hRw.out, below_setRow hx (by omega) _⟩
      case measure => simp [intOf]; omega
    · obtain rfl : k = 68 := by omega
      rw [scells_mix] at hP
      have hA2 := hAw.trans hA
      have hR2 := hRw.trans hR
      have r0 := rowAt_whole hA2 (size_bcells h)
      have e0 : hashB (80 :: joinB (eachB S (digN h) (fun _ => 3)) 68) = restB S (digN h) := rfl
      have hE := fun p g cp w' => each_rec S h p g cp w'
      generalize eachB S (digN h) (fun _ => 3) = E at *
      have hJ := fun w' => join_any E w'
      generalize joinB E 68 = J at *
      have hmx2 : 2 ≤ maxLen := by unfold maxLen; omega
      have hmx1 : 1 ≤ maxLen := by unfold maxLen; omega
      have hfl : [[80], J].flatten = 80 :: J := by simp
      replace hfl := hide hfl
      replace hE := hide hE
      replace hJ := hide hJ
      replace e0 := hide e0
      replace hR2 := hide hR2
      replace hP := hide hP
      clear hAw hRw hA hR hb hA2
      go_wp2_with (first
        | (go_at_call 72; (with_reducible refine (digits_ints h _).mono ?_); rintro r w3 ⟨g, cp, rfl, hi, hx3⟩; have hxp := ext_two w3 (.cells #[.slice (some ⟨g, 0, none⟩) 68 cp] 100) (.cells #[.int .u8 80] 5); have hD := heap_alloc2_old w3 (.cells #[.slice (some ⟨g, 0, none⟩) 68 cp] 100) (.cells #[.int .u8 80] 5); have hbP := bytes_blk (n := 1) (l := [80]) (heap_alloc2_new w3 (.cells #[.slice (some ⟨g, 0, none⟩) 68 cp] 100) (.cells #[.int .u8 80] 5)) rfl; replace hi := hi.ext hxp; replace hx3 := hx3.then hxp; have hP5 := (hx3.block _ (lt_of_block hP.out)).trans hP.out; have r5 := rowAt_whole hP5 (size_scells S); clear hP5; replace hD := hide hD; replace hbP := hide hbP; replace hi := hide hi; clear hxp)
        | (go_at_call 74; (with_reducible refine (hE.out _ g cp _ hD.out hi.out).mono ?_); rintro r w4 ⟨rfl, hx4⟩)
        | (go_at_call 73; (with_reducible refine (hJ.out _).mono ?_); rintro r w5 ⟨⟨v, rfl, a, cap, rfl, hc1, hc2, hc3, hb, hc5⟩, hx5⟩; replace hx5 := hx4.then hx5; have hp := two_laid (hbP.out.ext hx5) hb (Nat.le_refl 1) hc1 hmx1 hc2 _ rfl; have hx6 := hx3.then (hx5.then (ext_alloc w5 (.cells #[.slice (some ⟨w3.heap.size + 1, 0, none⟩) 1 1, .slice a J.length cap] 27))); replace hp := hide hp; clear hc3 hc5 hb)
        | (go_at_call 25; (with_reducible refine (sumB_any _ 2 2 [[80], J] (80 :: J) hfl.out _ (Nat.le_refl 2) hmx2 hp.out).mono ?_); rintro r w7 ⟨rfl, hx7⟩; rw [e0.out]; replace hx7 := hx6.then hx7; have hR7 := (hx7.block _ (lt_of_block hR2.out)).trans hR2.out; have hst7 := store_over (P := Try.prog) w7 (w.heap.size + 1) 23 32 (bcells (restB S (digN h))) _ 23 (size_bcells _) hz (by kernel_rfl) (one_bcells _) hR7)
        | ((with_reducible show bodyPost _ _ _ _ _ _); refine ret_row2 (P := Try.prog) 4 5 23 32 _ _ _ rfl rfl Try.underlying23 rfl (by kernel_rfl) _ _ rfl rfl (rowAt_whole (setRow_heap _ _ _ _ _ _ hR7) (size_bcells _)) ⟨rfl, below_setRow (hx.then hx7) (by omega) _⟩))
theorem recover_any (a : Option Addr) (cap : Nat) (c : List UInt8) (hc : c.length = 1088) (h : Bs 32) (w : World) (hcap : 1088 ≤ cap) (hm : cap ≤ maxLen) (hb : BytesIn w a 1088 c) : Calls Try.prog 38 #[.slice a 1088 cap, .agg (bcells h)] w fun r w' => r = .returned (.tuple #[.agg (bcells (restB (nodesOf c hc) (digN h))), .int .i64 0]) ∧ Ext w w' :=
  recover_S a cap c (nodesOf c hc) (fun k hk => nodesOf_at c hc k hk) h w hcap hm hb
end Go.Proofs.Ytegicioofbhifaa
/- The walk of wots.Make. -/
namespace Go.Proofs.Ytegicioofbhifaa
open Go.RowKit
set_option linter.unusedVariables false
set_option linter.unusedSimpArgs false

def secretT (seed : Bs 32) (leaf i : Nat) : List UInt8 := [83] ++ seed.1 ++ [UInt8.ofNat leaf, UInt8.ofNat i]
/-- A secret's nodes. -/
def secretB (seed : Bs 32) (leaf : Nat) : Nat → Bs 16 := fun i => halfB (hashB (secretT seed leaf i))
attribute [local go_sem ↓] exec_store_Hash exec_store_Node exec_store_Secret zero_Secret
attribute [local go_sem ↓] loadCells_blk
attribute [local go_sem] node_at run_blkLoad rowAt_drew rowAt_old rowAt_new size_bcells size_scells bc_whole half_extract
/-- What a node of a secret lays for its sum. -/
theorem make_laid (w W : World) (seed : Bs 32) (bl bi : UInt8) (h : BytesIn W (some ⟨w.heap.size, 0, none⟩) 32 seed.1) :
    PiecesIn (((W.alloc (.cells #[.int .u8 83] 5)).alloc (.cells #[.int .u8 (bl.toNat : Int), .int .u8 (bi.toNat : Int)] 5)).alloc (.cells #[.slice (some ⟨W.heap.size, 0, none⟩) 1 1, .slice (some ⟨w.heap.size, 0, none⟩) 32 32, .slice (some ⟨W.heap.size + 1, 0, none⟩) 2 2] 27)) (some ⟨W.heap.size + 1 + 1, 0, none⟩) 3 [[83], seed.1, [bl, bi]] := by
  have m1 : 1 ≤ maxLen := by unfold maxLen; omega
  have m2 : 2 ≤ maxLen := by unfold maxLen; omega
  have m3 : 32 ≤ maxLen := by unfold maxLen; omega
  have x1 := ext_alloc W (.cells #[.int .u8 83] 5)
  have x2 := ext_alloc (W.alloc (.cells #[.int .u8 83] 5)) (.cells #[.int .u8 (bl.toNat : Int), .int .u8 (bi.toNat : Int)] 5)
  have hb1 : BytesIn (W.alloc (.cells #[.int .u8 83] 5)) (some ⟨W.heap.size, 0, none⟩) 1 [83] := bytes_blk (l := [83]) (heap_alloc_new W _) rfl
  have hb2 : BytesIn ((W.alloc (.cells #[.int .u8 83] 5)).alloc (.cells #[.int .u8 (bl.toNat : Int), .int .u8 (bi.toNat : Int)] 5)) (some ⟨W.heap.size + 1, 0, none⟩) 2 [bl, bi] := by
    have := bytes_blk (l := [bl, bi]) (heap_alloc_new (W.alloc (.cells #[.int .u8 83] 5)) (.cells #[.int .u8 (bl.toNat : Int), .int .u8 (bi.toNat : Int)] 5)) rfl
    rwa [World.size_alloc] at this
  exact three_pieces (hb1.ext x2) ((h.ext x1).ext x2) hb2 (Nat.le_refl 1) (Nat.le_refl 32) (Nat.le_refl 2) m1 m3 m2 _ (by simp)
set_option maxHeartbeats 4000000 in
set_option maxRecDepth 100000 in
theorem make_any (seed : Bs 32) (leaf : Nat) (hl : leaf < 256) (w : World) : Calls Try.prog 33 #[.agg (bcells seed), .int .i64 (leaf : Int)] w fun r w' => r = .returned (.tuple #[.agg (scells (secretB seed leaf)), .int .i64 0]) ∧ Ext w w' := by
  have d1 : decide ((leaf : Int) < 0) = false := by simp
  have d2 : decide ((255 : Int) < leaf) = false := by simp; omega
  have d3 : decide (255 < leaf) = false := by simp; omega
  go_enter Try.func33, Try.ntmps33
  go_wp2_with fail
  have hx := ext_two w (.cells (bcells seed) 23) (.cells (scells noS) 82)
  have hX := heap_alloc2_old w (.cells (bcells seed) 23) (.cells (scells noS) 82)
  have hZ := heap_alloc2_new w (.cells (bcells seed) 23) (.cells (scells noS) 82)
  generalize (w.alloc (.cells (bcells seed) 23)).alloc (.cells (scells noS) 82) = W at *
  rw [← mix_zero (secretB seed leaf) noS] at hZ
  go_loopw [14] (fun s wr => ∃ k : Nat, k ≤ 68 ∧ s = .int .i64 k ∧ wr.heap[w.heap.size]? = some (.cells (bcells seed) 23 (0, 0)) ∧ wr.heap[w.heap.size + 1]? = some (.cells (scells (mix (secretB seed leaf) noS k)) 82 (0, 0)) ∧ Ext w wr) (fun i _ => 68 - (intOf i).toNat)
  case atStart => exact ⟨0, by omega, rfl, hX, hZ, hx⟩
  case round =>
    clear hX hZ hx
    obtain ⟨k, hk, rfl, hX, hZ, hx⟩ := hrel
    obtain ⟨w2, rfl⟩ : ∃ w2, w2 = wr := ⟨_, rfl⟩
    by_cases hlt : k < 68
    · have hlt' : (k : Int) < 68 := by omega
      have hk0 : (0 : Int) ≤ k := by omega
      have u1 := u8_of leaf
      have u2 := u8_of k
      have e1 : [[83], seed.1, [UInt8.ofNat leaf, UInt8.ofNat k]].flatten = secretT seed leaf k := by simp [secretT]
      have e2 : secretB seed leaf k = halfB (hashB (secretT seed leaf k)) := rfl
      have e3 := mix_succ (secretB seed leaf) noS k
      rw [e2] at e3
      generalize mix (secretB seed leaf) noS k = M at *
      generalize UInt8.ofNat leaf = bl at u1 e1
      generalize UInt8.ofNat k = bk at u2 e1
      generalize secretT seed leaf k = c at e1 e3
      have hp3 := make_laid w w2 seed bl bk (bytes_hash hX)
      have hxp := ((ext_alloc w2 (.cells #[.int .u8 83] 5)).then (ext_alloc _ (.cells #[.int .u8 (bl.toNat : Int), .int .u8 (bk.toNat : Int)] 5))).then (ext_alloc _ (.cells #[.slice (some ⟨w2.heap.size, 0, none⟩) 1 1, .slice (some ⟨w.heap.size, 0, none⟩) 32 32, .slice (some ⟨w2.heap.size + 1, 0, none⟩) 2 2] 27))
      have hm3 : 3 ≤ maxLen := by unfold maxLen; omega
      replace hX := hide hX
      replace hZ := hide hZ
      replace hp3 := hide hp3
      replace hxp := hide hxp
      replace e1 := hide e1
      replace e3 := hide e3
      clear e2
      go_wp2_with (first
        | (go_at_call 25; (with_reducible refine (sumB_any _ 3 3 _ c e1.out _ (Nat.le_refl 3) hm3 hp3.out).mono ?_); rintro r w4 ⟨rfl, hx4⟩; replace hx4 := hxp.out.then hx4)
        | (go_at_call 71; (with_reducible refine (node16 (hashB c) _).mono ?_); rintro r w5 ⟨rfl, hx5⟩; replace hx5 := hx4.then hx5; have hZ5 := (hx5.block _ (lt_of_block hZ.out)).trans hZ.out; have hX5 := (hx5.block _ (lt_of_block hX.out)).trans hX.out; have hst5 := store_node w5 (w.heap.size + 1) k hlt M (halfB (hashB c)) _ hZ5))
      go_roundw
      case rel => exact ⟨k + 1, by omega, by go_num, (setRow_other _ _ _ _ (by omega)).trans hX5, by rw [← e3.out]; exact setRow_heap _ _ _ _ _ _ hZ5, below_setRow (hx.then hx5) (by omega) _⟩
      case measure => simp [intOf]; omega
    · obtain rfl : k = 68 := by omega
      rw [scells_mix] at hZ
      have r1 := rowAt_whole hZ (size_scells _)
      have hst := store_self (P := Try.prog) _ (w.heap.size + 1) 82 1088 _ 82 (size_scells _) (by kernel_rfl) (one_scells _) hZ
      go_wp2_with ((with_reducible show bodyPost _ _ _ _ _ _); refine ret_row2 (P := Try.prog) 4 5 82 1088 _ _ _ rfl rfl Try.underlying82 rfl (by kernel_rfl) _ _ rfl rfl r1 ⟨rfl, hx⟩)
end Go.Proofs.Ytegicioofbhifaa
