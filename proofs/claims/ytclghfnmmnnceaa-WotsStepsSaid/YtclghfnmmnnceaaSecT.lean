/- The walk of the reference's SecretText. -/
import Derived.Test.YtclghfnmmnnceaaAppK
import Derived.Lib.SmallJoins
import Derived.Test.YtclghfnmmnnceaaMakeW
namespace Go.Proofs.Ytclghfnmmnnceaa
open Go.RowKit
set_option linter.unusedVariables false
set_option linter.unusedSimpArgs false

theorem length_secretT (seed : Bs 32) (leaf i : Nat) : (secretT seed leaf i).length = 35 := by simp [secretT, seed.2]
attribute [local go_sem ↓] exec_store_Hash loadCells_blk
attribute [local go_sem] run_blkLoad rowAt_drew rowAt_old rowAt_new size_bcells bc_whole
set_option maxHeartbeats 4000000 in
set_option maxRecDepth 100000 in
theorem secretText_any (seed : Bs 32) (leaf i : Nat) (w : World) : Calls Try.prog 37 #[.agg (bcells seed), .int .i64 (leaf : Int), .int .i64 (i : Int)] w fun r w' => (∃ v, r = .returned v ∧ Fresh w.heap.size v (secretT seed leaf i) w') ∧ Ext w w' := by
  have u1 := u8_of leaf
  have u2 := u8_of i
  have htx : [83] ++ seed.1 ++ [UInt8.ofNat leaf, UInt8.ofNat i] = secretT seed leaf i := rfl
  generalize UInt8.ofNat leaf = bi at u1 htx
  generalize UInt8.ofNat i = bk at u2 htx
  generalize secretT seed leaf i = c at htx ⊢
  have hx := ext_two w (.cells (bcells seed) 27) (.cells #[.int .u8 83] 5)
  have hA := heap_alloc2_old w (.cells (bcells seed) 27) (.cells #[.int .u8 83] 5)
  have hb := bytes_hash hA
  have hown0 : ((w.alloc (.cells (bcells seed) 27)).alloc (.cells #[.int .u8 83] 5)).ownsRow (w.heap.size + 1) 5 1 (.slice (some ⟨w.heap.size + 1, 0, none⟩) 1 1) 1 ([83].map cb) := by
    have := own_lit (w.alloc (.cells (bcells seed) 27)) 5 #[.int .u8 83] 1 rfl (by unfold maxLen; omega)
    rwa [World.size_alloc] at this
  have hbase : w.heap.size + 1 ≤ ((w.alloc (.cells (bcells seed) 27)).alloc (.cells #[.int .u8 83] 5)).heap.size := by simp
  have hm1 : 1 + 32 ≤ 140737488355328 := by omega
  have hm2 : 33 + 2 ≤ 140737488355328 := by omega
  replace htx := hide htx
  replace hx := hide hx
  replace hb := hide hb
  replace hown0 := hide hown0
  replace hbase := hide hbase
  clear hA
  go_enter Try.func37, Try.ntmps37
  go_wp2_with (first
    | (at_builtin; (refine wpList_app _ rfl _ _ rfl (w.heap.size + 1) 1 (.slice (some ⟨w.heap.size + 1, 0, none⟩) 1 1) [83] rfl hown0.out (some ⟨w.heap.size, 0, none⟩) 32 32 seed.1 rfl hb.out hm1 hbase.out ?_); intro v1 w3 hown1 hgrow1 hnil1; have hx3 := ext_grown hx.out hgrow1 (fun k hk => Nat.le_trans (Nat.le_succ _) (hown0.out.lt k hk).1); have hxD := ext_alloc w3 (.cells #[.int .u8 (bi.toNat : Int), .int .u8 (bk.toNat : Int)] 5); have hown2 := own_ext hxD hown1; have hbD : BytesIn (w3.alloc (.cells #[.int .u8 (bi.toNat : Int), .int .u8 (bk.toNat : Int)] 5)) (some ⟨w3.heap.size, 0, none⟩) 2 [bi, bk] := bytes_blk (l := [bi, bk]) (heap_alloc_new w3 _) rfl; have hbs := (hx3.then hxD).size; have hbs2 : w.heap.size + 1 ≤ (w3.alloc (.cells #[.int .u8 (bi.toNat : Int), .int .u8 (bk.toNat : Int)] 5)).heap.size := Nat.le_trans hbase.out (Nat.le_trans hgrow1.size hxD.size); replace hown2 := hide hown2; replace hown1 := hide hown1; replace hbD := hide hbD; replace hgrow1 := hide hgrow1)
    | (at_builtin; (refine wpList_app _ rfl _ _ rfl (w.heap.size + 1) 33 v1 ([83] ++ seed.1) rfl hown2.out (some ⟨w3.heap.size, 0, none⟩) 2 2 [bi, bk] rfl hbD.out hm2 hbs2 ?_); intro v2 w4 hown3 hgrow2 hnil2; rw [htx.out] at hown3; have hx4 := ext_grown (hx3.then hxD) hgrow2 (fun k hk => Nat.le_trans (Nat.le_succ _) (hown2.out.lt k hk).1)))
  go_ret
  exact ⟨⟨_, rfl, own_fresh (Joins.ownsRow_le hown3 (Nat.le_succ _))⟩, hx4⟩
end Go.Proofs.Ytclghfnmmnnceaa
