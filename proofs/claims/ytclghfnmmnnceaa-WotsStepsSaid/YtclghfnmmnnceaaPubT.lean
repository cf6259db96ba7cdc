/- The walk of the reference's PublicText. -/
import Derived.Test.YtclghfnmmnnceaaJoinW
import Derived.Lib.SmallJoins
namespace Go.Proofs.Ytclghfnmmnnceaa
open Go.RowKit
set_option linter.unusedVariables false
set_option linter.unusedSimpArgs false

theorem bytes_node {w : World} {g : Nat} {S : Nat → Bs 16} {t : TypeId} {fr : Nat × Nat} (h : w.heap[g]? = some (.cells (scells S) t fr)) (i : Nat) (hi : i < 68) : BytesIn w (some ⟨g, i * 16, none⟩) 16 (S i).1 := by
  have hr := rowAt_scells h i hi
  refine ⟨(S i).2, fun _ => ⟨_, rfl, fun j hj => ?_⟩⟩
  rw [add_flat, cell_of_rowAt' hr j hj]
  simp [bcells, List.getD, List.getElem?_eq_getElem (show j < (S i).1.length by rw [(S i).2]; exact hj), cb, Extern.Stop.cell]
attribute [local go_sem ↓] exec_store_Node exec_store_Secret zero_Secret
attribute [local go_sem ↓] loadCells_blk
attribute [local go_sem] run_blkLoad rowAt_drew rowAt_old rowAt_new size_bcells size_scells bc_whole
set_option maxHeartbeats 4000000 in
set_option maxRecDepth 100000 in
theorem publicText_any (S : Nat → Bs 16) (w : World) : Calls Try.prog 30 #[.agg (scells S)] w fun r w' => (∃ v, r = .returned v ∧ Fresh w.heap.size v (80 :: joinB S 68) w') ∧ Ext w w' := by
  have hW := heap_alloc2_old w (.cells (scells S) 25) (.cells #[.int .u8 80] 5)
  have hx := ext_two w (.cells (scells S) 25) (.cells #[.int .u8 80] 5)
  have hown : ((w.alloc (.cells (scells S) 25)).alloc (.cells #[.int .u8 80] 5)).ownsRow (w.heap.size + 1) 5 1 (.slice (some ⟨w.heap.size + 1, 0, none⟩) 1 1) (0 * 16 + 1) ((80 :: joinB S 0).map cb) := by
    have := own_lit (w.alloc (.cells (scells S) 25)) 5 #[.int .u8 80] 1 rfl (by unfold maxLen; omega)
    rwa [World.size_alloc] at this
  replace hW := hide hW
  replace hx := hide hx
  replace hown := hide hown
  go_enter Try.func30, Try.ntmps30
  go_wp2_with fail
  have hW := hW.out
  have hx := hx.out
  have hown := hown.out
  generalize (w.alloc (.cells (scells S) 25)).alloc (.cells #[.int .u8 80] 5) = W at *
  go_loopw [3, 4] (fun s3 s4 wr => ∃ i : Nat, i ≤ 68 ∧ s4 = .int .i64 i ∧ wr.ownsRow (w.heap.size + 1) 5 1 s3 (i * 16 + 1) ((80 :: joinB S i).map cb) ∧ wr.heap[w.heap.size]? = some (.cells (scells S) 25 (0, 0)) ∧ Ext w wr) (fun _ i _ => 68 - (intOf i).toNat)
  case atStart => exact ⟨0, by omega, rfl, hown, hW, hx⟩
  case round =>
    clear hW hx hown
    obtain ⟨i, hi, rfl, hown, hW, hx⟩ := hrel
    obtain ⟨w2, rfl⟩ : ∃ w2, w2 = wr := ⟨_, rfl⟩
    by_cases hlt : i < 68
    · have hlt' : (i : Int) < 68 := by omega
      have hi0 : (0 : Int) ≤ i := by omega
      have hb := bytes_node hW i hlt
      have hbase : w.heap.size + 1 ≤ w2.heap.size := lt_of_block hW
      have hjn : (80 :: joinB S i) ++ (S i).1 = 80 :: joinB S (i + 1) := rfl
      obtain ⟨m, em⟩ : ∃ m, m = i * 16 + 1 := ⟨_, rfl⟩
      have h16 : m + 16 = (i + 1) * 16 + 1 := by omega
      have hm : m + 16 ≤ 140737488355328 := by omega
      rw [← em] at hown
      replace hown := hide hown
      replace hW := hide hW
      replace hb := hide hb
      replace hm := hide hm
      replace hbase := hide hbase
      replace hjn := hide hjn
      replace h16 := hide h16
      replace em := hide em
      go_wp2_with (at_builtin; (refine wpList_app _ rfl _ _ rfl (w.heap.size + 1) m u3 (80 :: joinB S i) rfl hown.out (some ⟨w.heap.size, i * 16, none⟩) 16 16 (S i).1 rfl hb.out hm.out hbase.out ?_); intro v1 w3 hown3 hgrow3 hnil3; rw [hjn.out, h16.out] at hown3; have hlo := fun k hk => (hown.out.lt k hk).1; have hx3 := ext_grown hx hgrow3 (fun k hk => Nat.le_trans (Nat.le_succ _) (hlo k hk)); have hW3 := (hgrow3.block w.heap.size (lt_of_block hW.out) (fun e => absurd (hlo _ e.symm) (by omega))).trans hW.out)
      go_roundw
      case rel => exact ⟨i + 1, by omega, by go_num, hown3, hW3, hx3⟩
      case measure => simp [intOf]; omega
    · obtain rfl : i = 68 := by omega
      go_wp2_with fail
      go_ret
      exact ⟨⟨_, rfl, own_fresh (Joins.ownsRow_le hown (Nat.le_succ _))⟩, hx⟩
end Go.Proofs.Ytclghfnmmnnceaa
