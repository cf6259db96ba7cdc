/- The walks of tree.Node, and of the reference's Text and Node. -/
import Derived.Test.YtldcaoclimcahaaJoin
import Derived.Test.YtldcaoclimcahaaNamesN
import Derived.Deep.RegionWith
namespace Go.Proofs.Ytldcaoclimcahaa
open Go.RowKit
set_option linter.unusedVariables false
set_option linter.unusedSimpArgs false

theorem length_sumL (c : List UInt8) : (sumL c).length = 32 := by
  have h := length_blocksF k64 ((followedL c).length / 64) h8 (followedL c) rfl
  have h2 := length_be4s (blocksF k64 ((followedL c).length / 64) h8 (followedL c))
  rw [h] at h2
  exact h2
/-- The hash of a message; the node of two hashes. -/
def hashB (c : List UInt8) : Bs 32 := ⟨sumL c, length_sumL c⟩
def textN (a b : Bs 32) : List UInt8 := [78] ++ a.1 ++ b.1
def nodeB (a b : Bs 32) : Bs 32 := hashB (textN a b)
theorem hash_eq {o : Bs 32} {c : List UInt8} (h : o.1 = sumL c) : o = hashB c := by
  cases o; simp only [hashB, Bs.mk.injEq]; exact h
theorem alloc3 (w : World) (A B C : Obj) : (((w.alloc A).alloc B).alloc C).heap[w.heap.size]? = some A ∧ (((w.alloc A).alloc B).alloc C).heap[w.heap.size + 1]? = some B ∧ (((w.alloc A).alloc B).alloc C).heap[w.heap.size + 1 + 1]? = some C ∧ Ext w (((w.alloc A).alloc B).alloc C) ∧ (((w.alloc A).alloc B).alloc C).heap.size = w.heap.size + 3 := by
  have e2 : ((w.alloc A).alloc B).heap.size = w.heap.size + 1 + 1 := by simp
  refine ⟨(Below.heap_alloc _ C w.heap.size (by simp; omega)).trans (heap_alloc2_old w A B), (Below.heap_alloc _ C (w.heap.size + 1) (by simp)).trans (heap_alloc2_new w A B), ?_, (ext_two w A B).then (ext_alloc _ C), by simp⟩
  have := heap_alloc_new ((w.alloc A).alloc B)
  rw [e2] at this
  exact this C
attribute [local go_sem ↓] exec_store_Hash
attribute [local go_sem ↓] loadCells_blk
attribute [local go_sem] run_blkLoad rowAt_drew rowAt_old rowAt_new size_bcells bc_whole
set_option maxHeartbeats 4000000 in
set_option maxRecDepth 100000 in
theorem node_any (a b : Bs 32) (w : World) : Calls Try.prog 35 #[.agg (bcells a), .agg (bcells b)] w fun r w' => r = .returned (.agg (bcells (nodeB a b))) ∧ Ext w w' := by
  go_enter Try.func35, Try.ntmps35
  go_wp2_with fail
  obtain ⟨hA, hB, hZ, hx, hsz⟩ := alloc3 w (.cells (bcells a) 28) (.cells (bcells b) 28) (.cells (bcells (zeros 32)) 28)
  rw [bcells_zeros] at hA hB hZ hx hsz
  generalize ((w.alloc (.cells (bcells a) 28)).alloc (.cells (bcells b) 28)).alloc _ = w2 at *
  obtain ⟨N, hN⟩ : ∃ N, N = w.heap.size := ⟨_, rfl⟩
  rw [← hN] at hA hB hZ hsz ⊢
  have hxw := hx.size
  have hba := bytes_hash hA
  have hbb := bytes_hash hB
  have hxm := ext_alloc w2 (.cells #[.int .u8 78] 5)
  have hbm : BytesIn (w2.alloc (.cells #[.int .u8 78] 5)) (some ⟨w2.heap.size, 0, none⟩) 1 [78] := bytes_blk (l := [78]) (heap_alloc_new w2 _) rfl
  have hmx : 3 ≤ maxLen := by unfold maxLen; omega
  have hmx1 : 1 ≤ maxLen := by unfold maxLen; omega
  have hmx32 : 32 ≤ maxLen := by unfold maxLen; omega
  have hp3 := (three_pieces hbm (hba.ext hxm) (hbb.ext hxm) (Nat.le_refl 1) (Nat.le_refl 32) (Nat.le_refl 32) hmx1 hmx32 hmx32 (w2.heap.size + 1) (by simp)).ext (ext_drew _)
  have hxp := (hxm.then (ext_alloc (w2.alloc (.cells #[.int .u8 78] 5)) (.cells #[.slice (some ⟨w2.heap.size, 0, none⟩) 1 1, .slice (some ⟨N, 0, none⟩) 32 32, .slice (some ⟨N + 1, 0, none⟩) 32 32] 25))).then (ext_drew _)
  have hfl : [[78], a.1, b.1].flatten = textN a b := by simp [textN]
  have hgz := lt_of_block hZ
  have hwN : w.heap.size ≤ N + 1 + 1 := by omega
  replace hN := hide hN
  replace hsz := hide hsz
  replace hp3 := hide hp3
  replace hfl := hide hfl
  replace hxp := hide hxp
  replace hZ := hide hZ
  clear hbm hxm hA hB hba hbb
  go_region_with (go_at_call 16; (with_reducible refine (sum_any (some ⟨w2.heap.size + 1, 0, none⟩) 3 3 [[78], a.1, b.1] _ (Nat.le_refl _) hmx hp3.out).mono ?_); rintro r w4 ⟨⟨o, ho, rfl⟩, hx4⟩; obtain rfl : o = nodeB a b := hash_eq (ho.trans (congrArg sumL hfl.out)); have hx4 := hxp.out.then hx4; have hZ4 := (hx4.block (N + 1 + 1) hgz).trans hZ.out; have hs4 := store_cells_hash w4 (N + 1 + 1) _ _ (by rfl) (nodeB a b) hZ4)
  all_goals
    go_wp2_with ((with_reducible show bodyPost _ _ _ _ _ _); refine ret_row (P := Try.prog) 4 28 32 _ _ rfl rfl Try.underlying28 rfl (by kernel_rfl) _ _ rfl (rowAt_whole (setRow_heap _ _ _ _ _ _ hZ4) (size_bcells _)) ⟨rfl, below_setRow (hx.then hx4) hwN _⟩)
theorem own_ge {w : World} {base n cap g size : Nat} {e : TypeId} {xs : List Value} (h : w.ownsRow base e size (.slice (some ⟨g, 0, none⟩) n cap) n xs) : base ≤ g := (h.lt g rfl).1
theorem own_caps {w : World} {base n cap g size : Nat} {e : TypeId} {xs : List Value} (h : w.ownsRow base e size (.slice (some ⟨g, 0, none⟩) n cap) n xs) : n ≤ cap ∧ cap ≤ maxLen := by
  rcases h.2 with ⟨hv, _⟩ | ⟨g', cap', cur, hv, _, hg, hn, hm, hsz, htk⟩
  · cases hv
  · simp only [Value.slice.injEq, Option.some.injEq, Addr.mk.injEq, and_true] at hv
    obtain ⟨rfl, _, rfl⟩ := hv
    exact ⟨hn, hm⟩
theorem length_textN (a b : Bs 32) : (textN a b).length = 65 := by
  unfold textN; rw [List.length_append, List.length_append, a.2, b.2]; rfl
set_option maxHeartbeats 4000000 in
set_option maxRecDepth 100000 in
theorem text7_any (a b : Bs 32) (w : World) : Calls Try.prog 51 #[.agg (bcells a), .agg (bcells b)] w fun r w' => (∃ g cap, r = .returned (.slice (some ⟨g, 0, none⟩) 65 cap) ∧ BytesIn w' (some ⟨g, 0, none⟩) 65 (textN a b) ∧ 65 ≤ cap ∧ cap ≤ maxLen ∧ w.heap.size ≤ g) ∧ Ext w w' := by
  obtain ⟨i0, hi, hz0, hz1, hz2⟩ := info_parts info_u8
  have hA := heap_alloc2_old w (.cells (bcells a) 28) (.cells (bcells b) 28)
  have hB := heap_alloc2_new w (.cells (bcells a) 28) (.cells (bcells b) 28)
  have hx := ext_two w (.cells (bcells a) 28) (.cells (bcells b) 28)
  replace hA := hide hA
  replace hB := hide hB
  go_enter Try.func51, Try.ntmps51
  go_wp2_with fail
  have hA := hA.out
  have hB := hB.out
  generalize (w.alloc (.cells (bcells a) 28)).alloc (.cells (bcells b) 28) = w5 at *
  obtain ⟨N, hN⟩ : ∃ N, N = w.heap.size := ⟨_, rfl⟩
  rw [← hN] at hA hB ⊢
  have hba := bytes_hash hA
  have hbb := bytes_hash hB
  replace hN := hide hN
  replace hba := hide hba
  replace hbb := hide hbb
  clear hA hB
  have hmx1 : 1 ≤ maxLen := by unfold maxLen; omega
  have hown0 : ((w5.alloc (.cells #[.int .u8 78] 5)).drew).ownsRow w5.heap.size 5 1 (.slice (some ⟨w5.heap.size, 0, none⟩) 1 1) 1 ([78].map cb) := own_lit w5 5 #[.int .u8 78] 1 rfl hmx1
  have hx5 : Ext w5 ((w5.alloc (.cells #[.int .u8 78] 5)).drew) := (ext_alloc w5 _).then (ext_drew _)
  have hby5 := hide (news_of_bytes (hba.out.ext hx5))
  have h63a : 1 + 32 ≤ maxLen := by unfold maxLen; omega
  have h63b : 1 + 32 + 32 ≤ maxLen := by unfold maxLen; omega
  have hXl : (a.1.map cb).length = 32 * 1 := by rw [List.length_map, a.2]
  have hHl : (b.1.map cb).length = 32 * 1 := by rw [List.length_map, b.2]
  have hX1 := hide (one_cbs a.1)
  have hH1 := hide (one_cbs b.1)
  have hcl := length_textN a b
  have htx : ([78].map cb ++ a.1.map cb ++ b.1.map cb) = (textN a b).map cb := by unfold textN; rw [List.map_append, List.map_append]
  replace hXl := hide hXl
  replace hHl := hide hHl
  replace hcl := hide hcl
  replace htx := hide htx
  replace hown0 := hide hown0
  go_region_law (first
    | (refine step_append_lies _ rfl _ _ 25 rfl w5.heap.size 5 i0 (.int .u8 0) 1 1 Try.underlying25 hi hz0 hz1 hz2 rfl (by decide) (.slice (some ⟨w5.heap.size, 0, none⟩) 1 1) 1 ([78].map cb) (by simp [Act.eval, Act.put]) hown0.out ⟨N, 0, none⟩ 32 32 (a.1.map cb) (by simp [Act.eval, Act.put]) hXl.out hby5.out hX1.out (by decide) h63a (by decide) hx5.size _ rfl ?_; intro g6 cap6 w6 hown6 hgrow6 hat6 hlt6; have hx6 := ext_grown hx5 hgrow6 (fun k hk => (hown0.out.lt k hk).1); have hbl6 := hide (news_of_bytes (hbb.out.ext hx6)); have hx6s := hx6.size)
    | (refine step_append_lies _ rfl _ _ 25 rfl w5.heap.size 5 i0 (.int .u8 0) 1 1 Try.underlying25 hi hz0 hz1 hz2 rfl (by decide) (.slice (some ⟨g6, 0, none⟩) (1 + 32) cap6) (1 + 32) ([78].map cb ++ a.1.map cb) (by simp [Act.eval, Act.put]) hown6 ⟨N + 1, 0, none⟩ 32 32 (b.1.map cb) (by simp [Act.eval, Act.put]) hHl.out hbl6.out hH1.out (by decide) h63b (by decide) hx6s _ rfl ?_; intro g7 cap7 w7 hown7 hgrow7 hat7 hlt7; have hx7 := ext_grown hx6 hgrow7 (fun k hk => (hown6.lt k hk).1); have hb7 := hide (own_bytes (xs := textN a b) (n := 65) (by rw [← htx.out]; exact hown7) hcl.out); have hcc := hide (own_caps hown7); have hgg := hide (own_ge hown7)))
  all_goals
    go_wp2_with fail
    go_ret
    exact ⟨⟨_, _, rfl, hb7.out, hcc.out.1, hcc.out.2, Nat.le_trans hx.size hgg.out⟩, hx.then hx7⟩
set_option maxHeartbeats 4000000 in
set_option maxRecDepth 100000 in
theorem refNode_any (a b : Bs 32) (w : World) : Calls Try.prog 50 #[.agg (bcells a), .agg (bcells b)] w fun r w' => r = .returned (.agg (bcells (nodeB a b))) ∧ Ext w w' := by
  obtain ⟨hA, hB, hZ, hx, hsz⟩ := alloc3 w (.cells (bcells a) 28) (.cells (bcells b) 28) (.cells (bcells (zeros 32)) 28)
  rw [bcells_zeros] at hA hB hZ hx hsz
  have r1 := rowAt_whole hA (size_bcells a)
  have r2 := rowAt_whole hB (size_bcells b)
  have hgz := lt_of_block hZ
  have hg1 := lt_of_block hA
  have hg2 := lt_of_block hB
  replace hA := hide hA
  replace hB := hide hB
  replace hZ := hide hZ
  replace hsz := hide hsz
  go_enter Try.func50, Try.ntmps50
  go_wp2_with (first
    | (go_at_call 51; (with_reducible refine (text7_any a b _).mono ?_); rintro r w3 ⟨⟨g, cp, rfl, hb3, hc1, hc2⟩, hx3⟩; have hZ3 := hide ((hx3.block (w.heap.size + 1 + 1) hgz).trans hZ.out); have hx3 := hx.then hx3)
    | (go_at_call 15; (with_reducible refine (refS_any (some ⟨g, 0, none⟩) 65 cp (textN a b) _ (by omega) hb3 (fun h => by cases h)).mono ?_); rintro r w4 ⟨⟨o, ho, rfl⟩, hx4⟩; obtain rfl : o = nodeB a b := hash_eq ho; have hZ4 := (hx4.block (w.heap.size + 1 + 1) (lt_of_block hZ3.out)).trans hZ3.out; have hst4 := store_over (P := Try.prog) w4 (w.heap.size + 1 + 1) 28 32 (bcells (nodeB a b)) _ 28 (size_bcells _) (by rfl) (by kernel_rfl) (one_bcells _) hZ4)
    | ((with_reducible show bodyPost _ _ _ _ _ _); refine ret_row (P := Try.prog) 4 28 32 _ _ rfl rfl Try.underlying28 rfl (by kernel_rfl) _ _ rfl (rowAt_whole (setRow_heap _ _ _ _ _ _ hZ4) (size_bcells _)) ⟨rfl, below_setRow (hx3.then hx4) (by show w.heap.size ≤ w.heap.size + 1 + 1; omega) _⟩))
end Go.Proofs.Ytldcaoclimcahaa
