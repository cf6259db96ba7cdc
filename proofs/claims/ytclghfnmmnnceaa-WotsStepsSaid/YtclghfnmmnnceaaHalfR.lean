/- The walks of the reference's half and Step. -/
import Derived.Test.YtclghfnmmnnceaaStepT
namespace Go.Proofs.Ytclghfnmmnnceaa
open Go.RowKit
set_option linter.unusedVariables false
set_option linter.unusedSimpArgs false

attribute [local go_sem ↓] exec_store_Bg zero_Bg exec_store_Node exec_store_Hash
attribute [local go_sem ↓] loadCells_blk
attribute [local go_sem] run_blkLoad rowAt_drew rowAt_old rowAt_new size_bcells bc_whole
set_option maxHeartbeats 4000000 in
set_option maxRecDepth 100000 in
theorem half_any (a : Option Addr) (n cap : Nat) (c : List UInt8) (hn : n ≤ 1000000) (w : World) (h : BytesIn w a n c) (hnil : a = none → cap = 0) :
    Calls Try.prog 33 #[.agg begC, .slice a n cap] w fun r w' => r = .returned (.agg (bcells (halfB (hashB c)))) ∧ Ext w w' := by
  have hbw : begC.extract 0 72 = begC := by rfl
  have hz16 : (#[.int .u8 0, .int .u8 0, .int .u8 0, .int .u8 0, .int .u8 0, .int .u8 0, .int .u8 0, .int .u8 0, .int .u8 0, .int .u8 0, .int .u8 0, .int .u8 0, .int .u8 0, .int .u8 0, .int .u8 0, .int .u8 0] : Array Value) = ((laidL (hashB c).1 16 0).map cb).toArray := by rw [laid_zero]; rfl
  have hRz := heap_alloc2_new w (.cells begC 62) (.cells (bcells (zeros 16)) 23)
  have hxw := ext_two w (.cells begC 62) (.cells (bcells (zeros 16)) 23)
  have hzZ := size_bcells (zeros 16)
  rw [bcells_zeros16] at hRz hxw hzZ
  have hlen := (hashB c).2
  have hhalf : ((laidL (hashB c).1 16 16).map cb).toArray = bcells (halfB (hashB c)) := by rw [laid_all]; rfl
  have hS := fun w' h => refSumB_any a n cap c hn w' h hnil
  have hbw : begC.extract 0 72 = begC := by rfl
  have hbx := h.ext hxw
  clear h hnil
  generalize hashB c = H at *
  have hz32 : (bcells (zeros 32)).size = 32 := size_bcells _
  rw [bcells_zeros] at hz32
  replace hS := hide hS
  replace hz16 := hide hz16
  replace hhalf := hide hhalf
  replace hRz := hide hRz
  replace hxw := hide hxw
  replace hbx := hide hbx
  replace hlen := hide hlen
  go_enter Try.func33, Try.ntmps33
  go_wp2_with (go_at_call 43; (with_reducible refine (hS.out _ hbx.out).mono ?_); rintro r w3 ⟨rfl, hx3⟩; have hR3 := hide ((hx3.block _ (lt_of_block hRz.out)).trans hRz.out); have hst3 := store_new_H H w3 _ rfl _ hz32)
  rw [hz16.out]
  have hH := heap_alloc2_old w3 (.cells (bcells H) 27) (.cells ((laidL H.1 16 0).map cb).toArray 23)
  have hX := heap_alloc2_new w3 (.cells (bcells H) 27) (.cells ((laidL H.1 16 0).map cb).toArray 23)
  have hx5 := ext_two w3 (.cells (bcells H) 27) (.cells ((laidL H.1 16 0).map cb).toArray 23)
  have hR5 := hide ((hx5.block _ (lt_of_block hR3.out)).trans hR3.out)
  have hG : w.heap.size + 1 < w3.heap.size := lt_of_block hR3.out
  have hx := hxw.out.then (hx3.then hx5)
  generalize (w3.alloc (.cells (bcells H) 27)).alloc (.cells ((laidL H.1 16 0).map cb).toArray 23) = W at *
  obtain ⟨G, eG⟩ : ∃ G, G = w3.heap.size := ⟨_, rfl⟩
  rw [← eG] at hH hX hG ⊢
  clear hst3 hR3 hx3 hx5 hz16 hRz
  replace eG := hide eG
  go_loopw [7] (fun s wr => ∃ i : Nat, i ≤ 16 ∧ s = .int .i64 i ∧ wr.heap[G]? = some (.cells (bcells H) 27 (0, 0)) ∧ wr.heap[G + 1]? = some (.cells ((laidL H.1 16 i).map cb).toArray 23 (0, 0)) ∧ wr.heap[w.heap.size + 1]? = W.heap[w.heap.size + 1]? ∧ Ext w wr) (fun i _ => 16 - (intOf i).toNat)
  case atStart => exact ⟨0, by omega, rfl, hH, hX, rfl, hx⟩
  case round =>
    clear hH hX hx
    obtain ⟨i, hi, rfl, hH, hX, hRw, hx⟩ := hrel
    obtain ⟨w2, rfl⟩ : ∃ w2, w2 = wr := ⟨_, rfl⟩
    by_cases hlt : i < 16
    · have hlt' : (i : Int) < 16 := by omega
      have hlt2 : (i : Int) < 32 := by omega
      have hi0 : (0 : Int) ≤ i := by omega
      have c1 := b_at _ hH i (by rw [hlen.out]; omega)
      have c2 := b_at _ hX i (by rw [length_laidL _ _ _ hi (by rw [hlen.out]; omega)]; omega)
      have f2 := free_blk hX i
      have hset := laid_set H.1 16 i hlt (by rw [hlen.out]; omega)
      generalize (H.1.getD i 0) = y at c1 hset
      replace hset := hide hset
      replace hH := hide hH
      replace hX := hide hX
      replace hRw := hide hRw
      go_wp2_with fail
      go_roundw
      case rel => exact ⟨i + 1, by omega, by go_num, (Below.heap_setCell _ _ _ _ (by show G ≠ G + 1; omega)).trans hH.out, by rw [heap_setCell hX.out, hset.out], (Below.heap_setCell _ _ _ _ (by show w.heap.size + 1 ≠ G + 1; omega)).trans hRw.out, Below.setCell (p := ⟨G + 1, i, none⟩) hx (by show w.heap.size ≤ G + 1; omega) _⟩
      case measure => simp [intOf]; omega
    · obtain rfl : i = 16 := by omega
      rw [hhalf.out] at hX
      have hR := hRw.trans hR5.out
      have r1 := rowAt_whole hX (size_bcells _)
      have hst := store_over (P := Try.prog) _ (w.heap.size + 1) 23 16 (bcells (halfB H)) _ 23 (size_bcells _) hzZ (by kernel_rfl) (one_bcells _) hR
      go_wp2_with ((with_reducible show bodyPost _ _ _ _ _ _); refine ret_row (P := Try.prog) 4 23 16 _ _ rfl rfl Try.underlying23 rfl (by kernel_rfl) _ _ rfl (rowAt_whole (setRow_heap _ _ _ _ _ _ hR) (size_bcells _)) ⟨rfl, below_setRow hx (by omega) _⟩)
end Go.Proofs.Ytclghfnmmnnceaa
