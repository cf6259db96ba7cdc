/- The walks of wots.node, wots.step and wots.Step. -/
import Derived.Test.YtclghfnmmnnceaaChain
import Derived.Deep.RegionWith
import Derived.WalkLawsBesides
import Derived.Laws.Cover3
import Derived.Test.YtclghfnmmnnceaaWotsK
namespace Go.Proofs.Ytclghfnmmnnceaa
open Go.RowKit
set_option linter.unusedVariables false
set_option linter.unusedSimpArgs false

theorem half_extract (h : Bs 32) : (bcells h).extract 0 16 = bcells (halfB h) := by
  apply Array.ext'
  rw [Array.toList_extract, List.extract_eq_take_drop, toList_bcells, toList_bcells, List.drop_zero, ← List.map_take]; rfl
theorem bcells_zeros16 : bcells (zeros 16) = #[.int .u8 0, .int .u8 0, .int .u8 0, .int .u8 0, .int .u8 0, .int .u8 0, .int .u8 0, .int .u8 0, .int .u8 0, .int .u8 0, .int .u8 0, .int .u8 0, .int .u8 0, .int .u8 0, .int .u8 0, .int .u8 0] := rfl
theorem exec_store_Node (ρ : Operand → Value) (d : Option Tmp) (x y : Operand) (t : TypeId) (p : String) (af : Array Edge) (gd : Option (Nat × Bool)) (w : World) : (execOp ρ ⟨d, .store 23 x y, t, p, af, gd⟩).run Try.prog w = storeStep Try.prog 23 (ρ x) (ρ y) w := exec_store 23 ρ d x y t p af gd w
theorem node_at (a : Option Addr) (len cap : Nat) (w : World) (h : 16 ≤ len) : (Instr.arrayAt 23 (.slice a len cap)).run Try.prog w = .ok (.pointer a) w := run_arrayAt w _ _ 16 a len cap Try.underlying23 h
attribute [local go_sem ↓] exec_store_Hash exec_store_Node
attribute [local go_sem ↓] loadCells_blk
attribute [local go_sem] node_at run_blkLoad rowAt_drew rowAt_old rowAt_new size_bcells bc_whole half_extract
set_option maxHeartbeats 2000000 in
set_option maxRecDepth 100000 in
theorem node16 (h : Bs 32) (w : World) : Calls Try.prog 36 #[.agg (bcells h)] w fun r w' => r = .returned (.agg (bcells (halfB h))) ∧ Ext w w' := by
  have hN2 := heap_alloc2_new w (.cells (bcells h) 27) (.cells (bcells (zeros 16)) 23)
  have hx := ext_two w (.cells (bcells h) 27) (.cells (bcells (zeros 16)) 23)
  have hst := store_over (P := Try.prog) _ (w.heap.size + 1) 23 16 (bcells (halfB h)) _ 23 (size_bcells _) (size_bcells (zeros 16)) (by kernel_rfl) (one_bcells _) hN2
  rw [bcells_zeros16] at hN2 hx hst
  replace hN2 := hide hN2
  replace hx := hide hx
  go_enter Try.func36, Try.ntmps36
  go_wp2_with ((with_reducible show bodyPost _ _ _ _ _ _); refine ret_row (P := Try.prog) 2 23 16 _ _ rfl rfl Try.underlying23 rfl (by kernel_rfl) _ _ rfl (rowAt_whole (setRow_heap _ _ _ _ _ _ hN2.out) (size_bcells _)) ⟨rfl, below_setRow hx.out (by omega) _⟩)
/-- What a step lays for its sum. -/
theorem step_laid (W : World) (N : Nat) (x : Bs 16) (bi bk : UInt8) (t : TypeId) (hsz : W.heap.size = N + 1 + 1) (hX : W.heap[N]? = some (.cells (bcells x) t)) :
    PiecesIn ((W.alloc (.cells #[.int .u8 87, .int .u8 (bi.toNat : Int), .int .u8 (bk.toNat : Int)] 5)).alloc (.cells #[.slice (some ⟨N + 1 + 1, 0, none⟩) 3 3, .slice (some ⟨N, 0, none⟩) 16 16] 28)) (some ⟨N + 1 + 1 + 1, 0, none⟩) 2 [[87, bi, bk], x.1] := by
  have hmx : 16 ≤ maxLen := by unfold maxLen; omega
  have hmx3 : 3 ≤ maxLen := by unfold maxLen; omega
  have hxm := ext_alloc W (.cells #[.int .u8 87, .int .u8 (bi.toNat : Int), .int .u8 (bk.toNat : Int)] 5)
  have hbm : BytesIn (W.alloc (.cells #[.int .u8 87, .int .u8 (bi.toNat : Int), .int .u8 (bk.toNat : Int)] 5)) (some ⟨N + 1 + 1, 0, none⟩) 3 [87, bi, bk] := by
    rw [← hsz]; exact bytes_blk (l := [87, bi, bk]) (heap_alloc_new W _) rfl
  exact two_laid hbm ((bytes_blk hX x.2 : BytesIn W (some ⟨N, 0, none⟩) 16 x.1).ext hxm) (Nat.le_refl 3) (Nat.le_refl 16) hmx3 hmx (N + 1 + 1 + 1) (by simp [hsz])
set_option maxHeartbeats 4000000 in
set_option maxRecDepth 100000 in
theorem step_any (x : Bs 16) (i k : Nat) (hi : i < 256) (hk : k < 256) (w : World) : Calls Try.prog 24 #[.agg (bcells x), .int .i64 (i : Int), .int .i64 (k : Int)] w fun r w' => r = .returned (.agg (bcells (stepB x i k))) ∧ Ext w w' := by
  have u1 := u8_of i
  have u2 := u8_of k
  have e0 : halfB (hashB (stepT x i k)) = stepB x i k := rfl
  have e1 : [[87, UInt8.ofNat i, UInt8.ofNat k], x.1].flatten = stepT x i k := by simp [stepT]
  generalize UInt8.ofNat i = bi at u1 e1
  generalize UInt8.ofNat k = bk at u2 e1
  generalize stepT x i k = c at e0 e1
  have hmx2 : 2 ≤ maxLen := by unfold maxLen; omega
  have hx := ext_two w (.cells (bcells x) 23) (.cells (bcells (zeros 16)) 23)
  have hZ := heap_alloc2_new w (.cells (bcells x) 23) (.cells (bcells (zeros 16)) 23)
  have hp2 := step_laid _ w.heap.size x bi bk _ (by simp) (heap_alloc2_old w (.cells (bcells x) 23) (.cells (bcells (zeros 16)) 23))
  have hxp := fun W => (ext_alloc W (.cells #[.int .u8 87, .int .u8 (bi.toNat : Int), .int .u8 (bk.toNat : Int)] 5)).then (ext_alloc _ (.cells #[.slice (some ⟨w.heap.size + 1 + 1, 0, none⟩) 3 3, .slice (some ⟨w.heap.size, 0, none⟩) 16 16] 28))
  have hzZ := size_bcells (zeros 16)
  rw [bcells_zeros16] at hx hZ hp2 hzZ
  replace hx := hide hx
  replace hZ := hide hZ
  replace hp2 := hide hp2
  replace hxp := hide hxp
  replace e0 := hide e0
  replace e1 := hide e1
  replace hzZ := hide hzZ
  go_enter Try.func24, Try.ntmps24
  go_wp2_with (first
    | (go_at_call 25; (with_reducible refine (sumB_any _ 2 2 _ c e1.out _ (Nat.le_refl 2) hmx2 hp2.out).mono ?_); rintro r w4 ⟨rfl, hx4⟩; replace hx4 := (hxp.out _).then hx4)
    | (go_at_call 36; (with_reducible refine (node16 (hashB c) _).mono ?_); rintro r w5 ⟨rfl, hx5⟩; rw [e0.out]; replace hx5 := hx4.then hx5; have hZ5 := (hx5.block _ (lt_of_block hZ.out)).trans hZ.out; have hst5 := store_over (P := Try.prog) w5 (w.heap.size + 1) 23 16 (bcells (stepB x i k)) _ 23 (size_bcells _) hzZ.out (by kernel_rfl) (one_bcells _) hZ5)
    | ((with_reducible show bodyPost _ _ _ _ _ _); refine ret_row (P := Try.prog) 6 23 16 _ _ rfl rfl Try.underlying23 rfl (by kernel_rfl) _ _ rfl (rowAt_whole (setRow_heap _ _ _ _ _ _ hZ5) (size_bcells _)) ⟨rfl, below_setRow (hx.out.then hx5) (by omega) _⟩))
end Go.Proofs.Ytclghfnmmnnceaa
