/- The walk of the reference's Make. -/
import Derived.Test.YtclghfnmmnnceaaHalfR
import Derived.Test.YtclghfnmmnnceaaSecT
namespace Go.Proofs.Ytclghfnmmnnceaa
open Go.RowKit
set_option linter.unusedVariables false
set_option linter.unusedSimpArgs false

attribute [local go_sem ↓] exec_store_Bg zero_Bg exec_store_Node exec_store_Hash exec_store_Secret zero_Secret
attribute [local go_sem ↓] loadCells_blk
attribute [local go_sem] run_blkLoad rowAt_drew rowAt_old rowAt_new size_bcells size_scells bc_whole
set_option maxHeartbeats 4000000 in
set_option maxRecDepth 100000 in
theorem refMake_any (seed : Bs 32) (leaf : Nat) (w : World) : Calls Try.prog 15 #[.agg (bcells seed), .int .i64 (leaf : Int)] w fun r w' => r = .returned (.agg (scells (secretB seed leaf))) ∧ Ext w w' := by
  obtain ⟨hA, hR, hS, hx, hsz⟩ := alloc3 w (.cells (bcells seed) 27) (.cells (scells noS) 25) (.cells (scells noS) 25)
  have hsZ : zBg.size = 72 := rfl
  have hsC : begC.size = 72 := rfl
  have hbw : begC.extract 0 72 = begC := by rfl
  have hG : w.heap.size + 1 + 1 < ((((w.alloc (.cells (bcells seed) 27)).alloc (.cells (scells noS) 25)).alloc (.cells (scells noS) 25)).heap.size) := by rw [hsz]; omega
  rw [← mix_zero (secretB seed leaf) noS] at hS
  replace hG := hide hG
  replace hA := hide hA
  replace hR := hide hR
  replace hS := hide hS
  replace hx := hide hx
  replace hsz := hide hsz
  have hst : ∀ w : World, storeStep Try.prog 62 (.pointer (some ⟨w.heap.size, 0, none⟩)) (.agg begC) (w.alloc (.cells zBg 62)) = .ok .skip (w.alloc (.cells begC 62)) := fun w => by
    rw [store_over (P := Try.prog) _ w.heap.size 62 72 begC zBg 62 hsC hsZ (by kernel_rfl) (one_bgL _ _) (heap_alloc_new w _), setRow_new]
  go_enter Try.func15, Try.ntmps15
  go_wp2_with (first
    | (go_at_call 34; (with_reducible refine (begin_w _).mono ?_); rintro r w1 ⟨rfl, hx1⟩; have hst1 := hst w1; have hG1 := hide (Nat.lt_of_lt_of_le hG.out hx1.size); have hB := heap_alloc_new w1 (.cells begC 62); replace hx1 := hx1.then (ext_alloc w1 (.cells begC 62)); have hA1 := (hx1.block _ (lt_of_block hA.out)).trans hA.out; have hR1 := (hx1.block _ (lt_of_block hR.out)).trans hR.out; have hS1 := (hx1.block _ (lt_of_block hS.out)).trans hS.out; replace hx1 := hx.out.then hx1; replace hA1 := hide hA1; replace hR1 := hide hR1; replace hS1 := hide hS1; replace hB := hide hB; replace hx1 := hide hx1))
  have hA1 := hA1.out
  have hR1 := hR1.out
  have hS1 := hS1.out
  have hB := hB.out
  have hx1 := hx1.out
  generalize w1.alloc (.cells begC 62) = W at *
  have hG : w.heap.size + 1 + 1 < w1.heap.size := hG1.out
  obtain ⟨G, eG⟩ : ∃ G, G = w1.heap.size := ⟨_, rfl⟩
  rw [← eG] at hB hG ⊢
  clear hG1 hst1 hst hA hR hS hx hsz
  replace eG := hide eG
  go_loopw [7] (fun s wr => ∃ i : Nat, i ≤ 68 ∧ s = .int .i64 i ∧ wr.heap[w.heap.size + 1 + 1]? = some (.cells (scells (mix (secretB seed leaf) noS i)) 25 (0, 0)) ∧ wr.heap[w.heap.size]? = some (.cells (bcells seed) 27 (0, 0)) ∧ wr.heap[w.heap.size + 1]? = some (.cells (scells noS) 25 (0, 0)) ∧ wr.heap[G]? = some (.cells begC 62 (0, 0)) ∧ Ext w wr) (fun i _ => 68 - (intOf i).toNat)
  case atStart => exact ⟨0, by omega, rfl, hS1, hA1, hR1, hB, hx1⟩
  case round =>
    clear hS1 hA1 hR1 hB hx1
    obtain ⟨i, hi, rfl, hS, hA, hR, hB, hx⟩ := hrel
    obtain ⟨w2, rfl⟩ : ∃ w2, w2 = wr := ⟨_, rfl⟩
    by_cases hlt : i < 68
    · have hlt' : (i : Int) < 68 := by omega
      have hi0 : (0 : Int) ≤ i := by omega
      have rA := rowAt_whole hA (size_bcells seed)
      have rB := rowAt_whole hB hsC
      have hl := length_secretT seed leaf i
      have hT := fun w' => secretText_any seed leaf i w'
      have e2 : secretB seed leaf i = halfB (hashB (secretT seed leaf i)) := rfl
      have e3 := mix_succ (secretB seed leaf) noS i
      rw [e2] at e3
      generalize mix (secretB seed leaf) noS i = M at *
      generalize secretT seed leaf i = c at hl hT e3
      clear e2
      replace hS := hide hS
      replace hA := hide hA
      replace hR := hide hR
      replace hB := hide hB
      replace hT := hide hT
      replace e3 := hide e3
      go_wp2_with fail
      go_region_with (first
        | (go_at_call 37; (with_reducible refine (hT.out _).mono ?_); rintro r w3 ⟨⟨v, rfl, a, cp, rfl, hc1, hc2, hc3, hb, hc5⟩, hx3⟩; have rB3 := rowAt_ext hx3 rB; rw [hl] at hb hc3; clear hc1 hc2 hc5)
        | (go_at_call 33; (with_reducible refine (half_any a 35 cp c (by omega) _ hb (fun e => (hc3 e).2)).mono ?_); rintro r w4 ⟨rfl, hx4⟩; replace hx4 := Ext.then (b := w2.drew) ((Below.refl _ _).drew) (hx3.then hx4); have hS4 := (hx4.block _ (lt_of_block hS.out)).trans hS.out; have hst4 := store_node_cells w4 (w.heap.size + 1 + 1) i hlt M (halfB (hashB c)) _ hS4; rw [e3.out] at hst4))
      all_goals
        go_wp2_with fail
        go_roundw
        case rel => exact ⟨i + 1, by omega, by go_num, setRow_heap _ _ _ _ _ _ hS4, (setRow_other _ _ _ _ (by omega)).trans ((hx4.block _ (lt_of_block hA.out)).trans hA.out), (setRow_other _ _ _ _ (by omega)).trans ((hx4.block _ (lt_of_block hR.out)).trans hR.out), (setRow_other _ _ _ _ (by omega)).trans ((hx4.block _ (lt_of_block hB.out)).trans hB.out), below_setRow (hx.then hx4) (by omega) _⟩
        case measure => simp [intOf]; omega
    · obtain rfl : i = 68 := by omega
      rw [scells_mix] at hS
      have r1 := rowAt_whole hS (size_scells _)
      have hst := store_over (P := Try.prog) w2 (w.heap.size + 1) 25 1088 (scells (secretB seed leaf)) (scells noS) 25 (size_scells _) (size_scells _) (by kernel_rfl) (one_scells _) hR
      go_wp2_with ((with_reducible show bodyPost _ _ _ _ _ _); refine ret_row (P := Try.prog) 4 25 1088 _ _ rfl rfl Try.underlying25 rfl (by kernel_rfl) _ _ rfl (rowAt_whole (setRow_heap _ _ _ _ _ _ hR) (size_scells _)) ⟨rfl, below_setRow hx (by omega) _⟩)
end Go.Proofs.Ytclghfnmmnnceaa
