/- The walk of the reference's Nodes. -/
import Derived.Test.YtclghfnmmnnceaaSecret
import Derived.Test.YtclghfnmmnnceaaLaid
namespace Go.Proofs.Ytclghfnmmnnceaa
open Go.RowKit
set_option linter.unusedVariables false
set_option linter.unusedSimpArgs false

/-- Bytes of a secret that are laid one by one. -/
def laidC (c : List UInt8) (n i : Nat) : Array Value := ((laidL c n i).map cb).toArray
attribute [local go_sem ↓] exec_store_Secret zero_Secret
attribute [local go_sem ↓] loadCells_blk
attribute [local go_sem] run_blkLoad rowAt_drew rowAt_old rowAt_new size_bcells size_scells bc_whole
set_option maxHeartbeats 4000000 in
set_option maxRecDepth 100000 in
theorem nodes_any (a : Option Addr) (cap : Nat) (c : List UInt8) (hc : c.length = 1088) (w : World) (hb : BytesIn w a 1088 c) : Calls Try.prog 28 #[.slice a 1088 cap] w fun r w' => r = .returned (.tuple #[.agg (scells (nodesOf c hc)), .bool true]) ∧ Ext w w' := by
  obtain ⟨ad, rfl, _⟩ := hb.2 (by omega)
  have hbh := hide hb
  clear hb
  have hR := heap_alloc2_old w (.cells (scells noS) 25) (.cells (scells noS) 25)
  have hS := heap_alloc2_new w (.cells (scells noS) 25) (.cells (scells noS) 25)
  have hx := ext_two w (.cells (scells noS) 25) (.cells (scells noS) 25)
  have h0 : scells noS = ((laidL c 1088 0).map cb).toArray := by
    rw [laid_zero, scells_def]
    exact congrArg (fun l => (l.map cb).toArray) (by decide +kernel : joinB noS 68 = List.replicate 1088 0)
  have h9 : ((laidL c 1088 1088).map cb).toArray = scells (nodesOf c hc) := by
    rw [laid_all, List.take_of_length_le (by omega), scells_def, join_nodes]
  replace hR := hide hR
  replace hS := hide hS
  replace hx := hide hx
  replace h0 := hide h0
  replace h9 := hide h9
  go_enter Try.func28, Try.ntmps28
  go_wp2_with fail
  have hR := hR.out
  have hS := hS.out
  have hx := hx.out
  generalize (w.alloc (.cells (scells noS) 25)).alloc (.cells (scells noS) 25) = W at *
  rw [h0.out] at hS
  go_loopw [5] (fun s wr => ∃ i : Nat, i ≤ 1088 ∧ s = .int .i64 i ∧ wr.heap[w.heap.size + 1]? = some (.cells ((laidL c 1088 i).map cb).toArray 25 (0, 0)) ∧ wr.heap[w.heap.size]? = some (.cells (scells noS) 25 (0, 0)) ∧ Ext w wr) (fun i _ => 1088 - (intOf i).toNat)
  case atStart => exact ⟨0, by omega, rfl, hS, hR, hx⟩
  case round =>
    clear hS hR hx
    obtain ⟨i, hi, rfl, hS, hR, hx⟩ := hrel
    obtain ⟨w2, rfl⟩ : ∃ w2, w2 = wr := ⟨_, rfl⟩
    by_cases hlt : i < 1088
    · have hlt' : (i : Int) < 1088 := by omega
      have hi0 : (0 : Int) ≤ i := by omega
      have c1 : w2.cell? (ad.add i) = some (.int .u8 ((c.getD i 0).toNat : Int)) := by
        obtain ⟨ad', e, c0⟩ := (hbh.out.ext hx).2 (by omega)
        obtain rfl := Option.some.inj e
        exact c0 i hlt
      have c2 := b_at _ hS i (by rw [length_laidL _ _ _ hi (by omega)]; omega)
      have f2 := free_blk hS i
      have hset := laid_set c 1088 i hlt (by omega)
      generalize (c.getD i 0) = y at c1 hset
      generalize (laidL c 1088 i).getD i 0 = z at c2
      obtain ⟨k, m, hk, hm, hkm⟩ : ∃ k m : Nat, k < 68 ∧ m < 16 ∧ k * 16 + m = i := ⟨i / 16, i % 16, by omega, by omega, by omega⟩
      have hdiv : (i : Int).tdiv 16 = k := by rw [Int.tdiv_eq_ediv_of_nonneg hi0]; omega
      have hmod : (i : Int).tmod 16 = m := by rw [Int.tmod_eq_emod_of_nonneg hi0]; omega
      have hwr : IntKind.i64.wrap (k : Int) = k := by rw [IntKind.wrap_i64]; omega
      have hdiv3 : i / 16 = k := by omega
      have hmod3 : i % 16 = m := by omega
      have hdiv2 : (i : Int) / 16 = k := by omega
      have hmod2 : (i : Int) % 16 = m := by omega
      have hk' : (k : Int) < 68 := by omega
      have hm' : (m : Int) < 16 := by omega
      have hk0 : (0 : Int) ≤ k := by omega
      have hm0 : (0 : Int) ≤ m := by omega
      replace hS := hide hS
      replace hR := hide hR
      replace hset := hide hset
      go_wp2_with fail
      go_region_with fail
      all_goals
        go_wp2_with fail
        go_roundw
        case rel => exact ⟨i + 1, by omega, by go_num, by show (w2.setCell _ _).heap[_]? = _; rw [heap_setCell hS.out, hset.out], (Below.heap_setCell _ _ _ _ (by show w.heap.size ≠ w.heap.size + 1; omega)).trans hR.out, (Below.setCell (p := ⟨w.heap.size + 1, i, none⟩) hx (by show w.heap.size ≤ w.heap.size + 1; omega) _).drew⟩
        case measure => simp [intOf]; omega
    · obtain rfl : i = 1088 := by omega
      rw [h9.out] at hS
      have r1 := rowAt_whole hS (size_scells _)
      have hst := store_over (P := Try.prog) w2 w.heap.size 25 1088 (scells (nodesOf c hc)) (scells noS) 25 (size_scells _) (size_scells _) (by kernel_rfl) (one_scells _) hR
      go_wp2_with ((with_reducible show bodyPost _ _ _ _ _ _); refine ret_row2 (P := Try.prog) 2 3 25 1088 _ _ _ rfl rfl Try.underlying25 rfl (by kernel_rfl) _ _ rfl rfl (rowAt_whole (setRow_heap _ _ _ _ _ _ hR) (size_scells _)) ⟨rfl, below_setRow hx (Nat.le_refl _) _⟩)
end Go.Proofs.Ytclghfnmmnnceaa
