/- The walks of the reference's Ends and Public. -/
import Derived.Test.YtclghfnmmnnceaaWalkR
import Derived.Test.YtclghfnmmnnceaaNodesR
import Derived.Test.YtclghfnmmnnceaaPubT
import Derived.Test.YtclghfnmmnnceaaDigs
import Derived.Test.YtclghfnmmnnceaaRefSum
import Derived.Laws.MakeOwn
import Derived.Deep.RegionWith
namespace Go.Proofs.Ytclghfnmmnnceaa
open Go.RowKit
set_option linter.unusedVariables false
set_option linter.unusedSimpArgs false

theorem HasInts.nats {w : World} {g : Nat} {h : Bs 32} (hi : HasInts w g (digL h)) : HasNats w g (digN h) := fun i hlt => hi.digit i hlt
/-- The reference's Sum, by the hash's name. -/
theorem refSB_any (a : Option Addr) (n cap : Nat) (c : List UInt8) (w : World) (hn : n ≤ 1000000) (h : BytesIn w a n c) (hnil : a = none → cap = 0) : Calls Try.prog 29 #[.slice a n cap] w fun r w' => r = .returned (.agg (bcells (hashB c))) ∧ Ext w w' :=
  (refS_any a n cap c w hn h hnil).mono fun r w' ⟨⟨o, ho, hr⟩, hx⟩ => ⟨by rw [hr, sum_one (b := c) (show (hashB c).1 = sumL c from rfl) ho], hx⟩
/-- A secret's block turned whole. -/
theorem store_new_S (S Z : Nat → Bs 16) (w : World) (N : Nat) (hN : w.heap.size = N) : storeStep Try.prog 25 (.pointer (some ⟨N, 0, none⟩)) (.agg (scells S)) (w.alloc (.cells (scells Z) 25)) = .ok .skip (w.alloc (.cells (scells S) 25)) := by
  subst hN
  rw [store_over (P := Try.prog) _ w.heap.size 25 1088 (scells S) (scells Z) 25 (size_scells S) (size_scells Z) (by kernel_rfl) (one_scells _) (heap_alloc_new w _), setRow_new]
theorem store_cells_secret (w : World) (g : Nat) (t : TypeId) (Z : Array Value) (hZ : Z.size = 1088) (S : Nat → Bs 16) (h : w.heap[g]? = some (.cells Z t (0, 0))) : (storeCells ⟨g, 0, none⟩ (scells S).toList).run Try.prog w = .ok () (w.setRow g (scells S)) := by
  have h1 := run_storeCells_from (P := Try.prog) g t (scells S).toList 0 Z w h (by rw [hZ]; simp [size_scells]) (fun v hv => (Array.all_eq_true_iff_forall_mem.1 (one_scells S)) v (by simpa using hv))
  rw [h1]
  simp
def zI : Array Value := Array.replicate 68 (.int .i64 0)
theorem make_ints (w : World) : (Instr.makeSlice 30 (.int .i64 68) (.int .i64 68)).run Try.prog w = .ok (.slice (some ⟨w.heap.size, 0, none⟩) 68 68) (w.alloc (.cells zI 3)) := by
  obtain ⟨i0, hi, hz0, hz1, hz2⟩ := info_parts info_int
  rw [run_makeSlice w 30 3 i0 (.int .i64 0) Try.underlying30 hi hz0 .i64 .i64 68 68 (by omega) (by omega) (by rw [hz1]; decide) (by rw [hz2]; decide) (by omega), hz1]
  exact congrArg (fun A => Result.ok (Value.slice (some ⟨w.heap.size, 0, none⟩) 68 68) (w.alloc (.cells A 3))) (by kernel_rfl)
theorem nats_made (w : World) : HasNats (w.alloc (.cells zI 3)) w.heap.size (fun _ => 0) := by
  intro i hi
  rw [cell_of_row _ _ i _ _ _ (heap_alloc_new w _)]
  simp [zI, hi]
attribute [local go_sem ↓] exec_store_Hash exec_store_Secret zero_Secret
attribute [local go_sem ↓] loadCells_blk
attribute [local go_sem] run_blkLoad rowAt_drew rowAt_old rowAt_new size_bcells size_scells bc_whole sc_whole
attribute [local go_sem] make_ints
theorem walk_up (S : Nat → Bs 16) (g cap : Nat) (D : Nat → Nat) (w : World) (hD : HasNats w g D) (hD3 : ∀ i, i < 68 → D i ≤ 3) : Calls Try.prog 31 #[.agg (scells S), .slice (some ⟨g, 0, none⟩) 68 cap, .bool true] w fun r w' => r = .returned (.agg (scells (eachB S (fun _ => 0) D))) ∧ Ext w w' :=
  walkR_any S g cap D true w hD hD3
theorem walk_down (S : Nat → Bs 16) (g cap : Nat) (D : Nat → Nat) (w : World) (hD : HasNats w g D) (hD3 : ∀ i, i < 68 → D i ≤ 3) : Calls Try.prog 31 #[.agg (scells S), .slice (some ⟨g, 0, none⟩) 68 cap, .bool false] w fun r w' => r = .returned (.agg (scells (eachB S D (fun _ => 3)))) ∧ Ext w w' :=
  walkR_any S g cap D false w hD hD3
set_option maxHeartbeats 4000000 in
set_option maxRecDepth 100000 in
theorem ends_any (S : Nat → Bs 16) (w : World) : Calls Try.prog 38 #[.agg (scells S)] w fun r w' => r = .returned (.agg (scells (eachB S (fun _ => 0) (fun _ => 3)))) ∧ Ext w w' := by
  have hR := heap_alloc2_new w (.cells (scells S) 25) (.cells (scells noS) 25)
  have hS := heap_alloc2_old w (.cells (scells S) 25) (.cells (scells noS) 25)
  have hx := ext_two w (.cells (scells S) 25) (.cells (scells noS) 25)
  have rS := rowAt_whole hS (size_scells S)
  clear hS
  replace hR := hide hR
  replace hx := hide hx
  go_enter Try.func38, Try.ntmps38
  go_wp2_with fail
  generalize (w.alloc (.cells (scells S) 25)).alloc (.cells (scells noS) 25) = W at *
  have hN : HasNats (W.alloc (.cells zI 3)).drew W.heap.size (fun _ => 0) := nats_made W
  replace hN := hide hN
  have rS2 := rowAt_ext (ext_alloc W (.cells zI 3)) rS
  go_region_with (go_at_call 31; (with_reducible refine (walk_down S W.heap.size 68 (fun _ => 0) _ hN.out (fun _ _ => Nat.zero_le 3)).mono ?_); rintro r w1 ⟨rfl, hx1⟩; replace hx1 : Ext W w1 := Ext.then (b := (W.alloc (.cells zI 3)).drew) (ext_alloc W (.cells zI 3)).drew hx1; have hR1 := (hx1.block _ (lt_of_block hR.out)).trans hR.out; have hst1 := store_cells_secret w1 (w.heap.size + 1) 25 _ (size_scells _) (eachB S (fun _ => 0) (fun _ => 3)) hR1)
  all_goals go_wp2_with ((with_reducible show bodyPost _ _ _ _ _ _); refine ret_row (P := Try.prog) 2 25 1088 _ _ rfl rfl Try.underlying25 rfl (by kernel_rfl) _ _ rfl (rowAt_whole (setRow_heap _ _ _ _ _ _ hR1) (size_scells _)) ⟨rfl, below_setRow (hx.out.then hx1) (by omega) _⟩)
attribute [local go_sem ↓] exec_store_Hash exec_store_Secret zero_Secret
attribute [local go_sem ↓] loadCells_blk
attribute [local go_sem] run_blkLoad rowAt_drew rowAt_old rowAt_new size_bcells size_scells bc_whole sc_whole
set_option maxHeartbeats 4000000 in
set_option maxRecDepth 100000 in
set_option maxHeartbeats 4000000 in
set_option maxRecDepth 100000 in
theorem refPublic_any (S : Nat → Bs 16) (w : World) : Calls Try.prog 17 #[.agg (scells S)] w fun r w' => r = .returned (.agg (bcells (publicB S))) ∧ Ext w w' := by
  have e0 : hashB (80 :: joinB (eachB S (fun _ => 0) (fun _ => 3)) 68) = publicB S := rfl
  have hE := fun w' => ends_any S w'
  generalize eachB S (fun _ => 0) (fun _ => 3) = E at *
  have hJ := fun w' => publicText_any E w'
  have hJl : (80 :: joinB E 68).length = 1089 := by rw [List.length_cons, length_joinB]
  generalize 80 :: joinB E 68 = J at *
  have hR := heap_alloc2_new w (.cells (scells S) 25) (.cells (bcells (zeros 32)) 27)
  have hx := ext_two w (.cells (scells S) 25) (.cells (bcells (zeros 32)) 27)
  have hz := size_bcells (zeros 32)
  rw [bcells_zeros] at hz hR hx
  replace hE := hide hE
  replace hJ := hide hJ
  replace e0 := hide e0
  replace hR := hide hR
  replace hx := hide hx
  go_enter Try.func17, Try.ntmps17
  go_wp2_with (first
    | (go_at_call 38; (with_reducible refine (hE.out _).mono ?_); rintro r w1 ⟨rfl, hx1⟩)
    | (go_at_call 30; (with_reducible refine (hJ.out _).mono ?_); rintro r w2 ⟨⟨v, rfl, a, cap, rfl, hc1, hc2, hc3, hb, hc5⟩, hx2⟩; rw [hJl] at hb hc3; replace hx2 := hx1.then hx2; clear hc1 hc2 hc5)
    | (go_at_call 29; (with_reducible refine (refSB_any a 1089 cap J _ (by omega) hb (fun e => (hc3 e).2)).mono ?_); rintro r w4 ⟨rfl, hx4⟩; rw [e0.out]; replace hx4 := hx2.then hx4; have hR4 := (hx4.block _ (lt_of_block hR.out)).trans hR.out; have hst4 := store_over (P := Try.prog) w4 (w.heap.size + 1) 27 32 (bcells (publicB S)) _ 27 (size_bcells _) hz (by kernel_rfl) (one_bcells _) hR4)
    | ((with_reducible show bodyPost _ _ _ _ _ _); refine ret_row (P := Try.prog) 2 27 32 _ _ rfl rfl Try.underlying27 rfl (by kernel_rfl) _ _ rfl (rowAt_whole (setRow_heap _ _ _ _ _ _ hR4) (size_bcells _)) ⟨rfl, below_setRow (hx.out.then hx4) (by omega) _⟩))
end Go.Proofs.Ytclghfnmmnnceaa
