/- The walk of the reference's Sum. -/
import Derived.Test.YtclghfnmmnnceaaSumC
import Derived.Laws.IdiomStrings
import Derived.Laws.BytesArg
namespace Go.Proofs.Ytclghfnmmnnceaa
open Go.RowKit
set_option linter.unusedVariables false
set_option linter.unusedSimpArgs false

/-- One message, one sum. -/
theorem sumK_one {o o' : Bs 32} {b : List UInt8} (h : o.1 = sumK k64 h8 b) (h' : o'.1 = sumL b) : o' = o := sum_one h' h
attribute [local go_sem ↓] exec_store_Bg zero_Bg exec_store_Hash
attribute [local go_sem ↓] loadCells_blk
attribute [local go_sem] run_blkLoad rowAt_drew rowAt_old rowAt_new
set_option maxHeartbeats 4000000 in
set_option maxRecDepth 100000 in
theorem refS_any (a : Option Addr) (n cap : Nat) (c : List UInt8) (w : World) (hn : n ≤ 1000000) (h : BytesIn w a n c) (hnil : a = none → cap = 0) :
    Calls Try.prog 29 #[.slice a n cap] w fun r w' => (∃ o : Bs 32, o.1 = sumK k64 h8 c ∧ r = .returned (.agg (bcells o))) ∧ Ext w w' := by
  have hsC : begC.size = 72 := rfl
  have hsZ : zBg.size = 72 := rfl
  have hst : ∀ w : World, storeStep Try.prog 62 (.pointer (some ⟨w.heap.size, 0, none⟩)) (.agg begC) (w.alloc (.cells zBg 62)) = .ok .skip (w.alloc (.cells begC 62)) := fun w => by
    rw [store_over (P := Try.prog) _ w.heap.size 62 72 begC zBg 62 hsC hsZ (by kernel_rfl) (one_bgL _ _) (heap_alloc_new w _), setRow_new]
  have hH := heap_alloc_new w (.cells (bcells (zeros 32)) 27)
  have hxa := ext_alloc w (.cells (bcells (zeros 32)) 27)
  rw [bcells_zeros] at hH hxa
  replace hH := hide hH
  replace hxa := hide hxa
  replace h := hide h
  replace hnil := hide hnil
  go_enter Try.func29, Try.ntmps29
  go_wp2_with (first
    | (go_at_call 34; (with_reducible refine (begin_w _).mono ?_); rintro r w1 ⟨rfl, hx1⟩; have hx2 := hxa.out.then (hx1.then (ext_alloc w1 (.cells begC 62))); have r1 := rowAt_whole (heap_alloc_new w1 (.cells begC 62)) hsC; have hHb := (hx1.then (ext_alloc w1 (.cells begC 62))).block _ (lt_of_block hH.out))
    | (go_at_call 43; (with_reducible refine (refSum_c a n cap c hn _ (h.out.ext hx2) hnil.out).mono ?_); rintro r w3 ⟨⟨o, ho, rfl⟩, hx3⟩; have hH3 := ((hx3.block _ (lt_of_block (hHb.trans hH.out))).trans (hHb.trans hH.out)); have hst3 := store_over (P := Try.prog) w3 w.heap.size 27 32 (bcells o) _ 27 (size_bcells o) rfl (by kernel_rfl) (one_bcells o) hH3; have hx4 := hx2.then hx3)
    | ((with_reducible show bodyPost _ _ _ _ _ _); refine ret_row (P := Try.prog) 2 27 32 (bcells o) _ rfl rfl Try.underlying27 rfl (by kernel_rfl) _ _ rfl (rowAt_whole (setRow_heap _ _ _ _ _ _ hH3) (size_bcells o)) ⟨⟨o, ho, rfl⟩, below_setRow hx4 (Nat.le_refl _) _⟩))
end Go.Proofs.Ytclghfnmmnnceaa
