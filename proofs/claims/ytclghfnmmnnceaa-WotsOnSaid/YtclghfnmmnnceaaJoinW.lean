/- The walk of wots.join. -/
import Derived.Test.YtclghfnmmnnceaaSecEq
import Derived.Test.YtclghfnmmnnceaaAppK
namespace Go.Proofs.Ytclghfnmmnnceaa
open Go.RowKit
set_option linter.unusedVariables false
set_option linter.unusedSimpArgs false

theorem store_new_N (o : Bs 16) (w : World) (N : Nat) (hN : w.heap.size = N) (z : Array Value) (hz : z.size = 16) : storeStep Try.prog 23 (.pointer (some ⟨N, 0, none⟩)) (.agg (bcells o)) (w.alloc (.cells z 23)) = .ok .skip (w.alloc (.cells (bcells o) 23)) := by
  subst hN
  rw [store_over (P := Try.prog) _ w.heap.size 23 16 (bcells o) z 23 (size_bcells o) hz (by kernel_rfl) (one_bcells _) (heap_alloc_new w _), setRow_new]
theorem sc_whole (S : Nat → Bs 16) : (scells S).extract 0 1088 = scells S := by
  apply Array.ext'
  rw [Array.toList_extract, List.extract_eq_take_drop, List.drop_zero, List.take_of_length_le]
  rw [Array.length_toList, size_scells]; omega
theorem nat_mul (i n : Nat) : ((i : Int) * (n : Int)).toNat = i * n := by rw [← Int.natCast_mul]; rfl
attribute [local go_sem ↓] exec_store_Node exec_store_Secret zero_Secret
attribute [local go_sem ↓] loadCells_blk
attribute [local go_sem] run_blkLoad rowAt_drew rowAt_old rowAt_new size_bcells size_scells bc_whole sc_whole
set_option maxHeartbeats 4000000 in
set_option maxRecDepth 100000 in
theorem join_any (S : Nat → Bs 16) (w : World) : Calls Try.prog 19 #[.agg (scells S)] w fun r w' => (∃ v, r = .returned v ∧ Fresh w.heap.size v (joinB S 68) w') ∧ Ext w w' := by
  have hz16 : (#[.int .u8 0, .int .u8 0, .int .u8 0, .int .u8 0, .int .u8 0, .int .u8 0, .int .u8 0, .int .u8 0, .int .u8 0, .int .u8 0, .int .u8 0, .int .u8 0, .int .u8 0, .int .u8 0, .int .u8 0, .int .u8 0] : Array Value).size = 16 := rfl
  go_enter Try.func19, Try.ntmps19
  go_wp2_with fail
  go_loopw [3, 7] (fun s3 s7 wr => ∃ i : Nat, i ≤ 68 ∧ s7 = .int .i64 i ∧ wr.ownsRow w.heap.size 5 1 s3 (i * 16) ((joinB S i).map cb) ∧ Ext w wr) (fun _ i _ => 68 - (intOf i).toNat)
  case atStart => exact ⟨0, by omega, rfl, ⟨rfl, .inl ⟨rfl, rfl⟩⟩, ext_alloc _ _⟩
  case round =>
    obtain ⟨i, hi, rfl, hown, hx⟩ := hrel
    obtain ⟨w2, rfl⟩ : ∃ w2, w2 = wr := ⟨_, rfl⟩
    by_cases hlt : i < 68
    · have hlt' : (i : Int) < 68 := by omega
      have hi0 : (0 : Int) ≤ i := by omega
      have hp := index_secret w2 S i hlt
      have hsn := store_new_N (S i) w2 _ rfl _ hz16
      have hb : BytesIn (w2.alloc (.cells (bcells (S i)) 23)) (some ⟨w2.heap.size, 0, none⟩) 16 (S i).1 := bytes_blk (heap_alloc_new w2 (.cells (bcells (S i)) 23)) (S i).2
      have hx1 := ext_alloc w2 (.cells (bcells (S i)) 23)
      have hown1 := own_ext hx1 hown
      have hbase := (hx.then hx1).size
      have hm : i * 16 + 16 ≤ 140737488355328 := by omega
      have hjn : joinB S i ++ (S i).1 = joinB S (i + 1) := rfl
      have h16 : i * 16 + 16 = (i + 1) * 16 := by omega
      obtain ⟨m, em⟩ : ∃ m, m = i * 16 := ⟨_, rfl⟩
      rw [← em] at hown1 hm h16 hown
      replace hown := hide hown
      replace hown1 := hide hown1
      replace hb := hide hb
      replace hm := hide hm
      replace hbase := hide hbase
      replace hjn := hide hjn
      replace h16 := hide h16
      replace em := hide em
      go_wp2_with (at_builtin; (refine wpList_app _ rfl _ _ rfl w.heap.size m u3 (joinB S i) rfl hown1.out (some ⟨w2.heap.size, 0, none⟩) 16 16 (S i).1 rfl hb.out hm.out hbase.out ?_); intro v1 w3 hown3 hgrow3 hnil3; rw [hjn.out, h16.out] at hown3; have hx3 := ext_grown (hx.then hx1) hgrow3 (fun k hk => (hown1.out.lt k hk).1))
      go_roundw
      case rel => exact ⟨i + 1, by omega, by go_num, hown3, hx3⟩
      case measure => simp [intOf]; omega
    · obtain rfl : i = 68 := by omega
      go_wp2_with fail
      go_ret
      exact ⟨⟨_, rfl, own_fresh hown⟩, hx⟩
end Go.Proofs.Ytclghfnmmnnceaa
