/- The walk of the reference's Walk. -/
import Derived.Test.YtclghfnmmnnceaaHalfR
import Derived.Test.YtclghfnmmnnceaaSecret
namespace Go.Proofs.Ytclghfnmmnnceaa
open Go.RowKit
set_option linter.unusedVariables false
set_option linter.unusedSimpArgs false

/-- A slice that is known to hold these numbers. -/
def HasNats (w : World) (g : Nat) (D : Nat → Nat) : Prop := ∀ i, i < 68 → w.cell? ⟨g, i, none⟩ = some (.int .i64 (D i : Int))
theorem HasNats.ext {w w' : World} (h : Ext w w') {g : Nat} {D : Nat → Nat} (hi : HasNats w g D) : HasNats w' g D := by
  intro i hlt
  have := hi i hlt
  exact (h.cell (p := ⟨g, i, none⟩) (block_lt_of_cell this)).trans this
attribute [local go_sem ↓] exec_store_Bg zero_Bg exec_store_Node exec_store_Hash exec_store_Secret zero_Secret
attribute [local go_sem ↓] loadCells_blk
attribute [local go_sem] run_blkLoad rowAt_drew rowAt_old rowAt_new size_bcells size_scells bc_whole
set_option maxHeartbeats 4000000 in
set_option maxRecDepth 100000 in
theorem walkR_any (S : Nat → Bs 16) (g cap : Nat) (D : Nat → Nat) (sg : Bool) (w : World) (hD : HasNats w g D) (hD3 : ∀ i, i < 68 → D i ≤ 3) : Calls Try.prog 31 #[.agg (scells S), .slice (some ⟨g, 0, none⟩) 68 cap, .bool sg] w fun r w' => r = .returned (.agg (scells (eachB S (fun i => if sg then 0 else D i) (fun i => if sg then D i else 3)))) ∧ Ext w w' := by
  have hst : ∀ w : World, storeStep Try.prog 62 (.pointer (some ⟨w.heap.size, 0, none⟩)) (.agg begC) (w.alloc (.cells zBg 62)) = .ok .skip (w.alloc (.cells begC 62)) := fun w => by
    rw [store_over (P := Try.prog) _ w.heap.size 62 72 begC zBg 62 rfl rfl (by kernel_rfl) (one_bgL _ _) (heap_alloc_new w _), setRow_new]
  have hZ := heap_alloc2_new w (.cells (scells S) 25) (.cells (scells noS) 25)
  have hS := heap_alloc2_old w (.cells (scells S) 25) (.cells (scells noS) 25)
  have hx := ext_two w (.cells (scells S) 25) (.cells (scells noS) 25)
  have hG : w.heap.size + 1 < ((w.alloc (.cells (scells S) 25)).alloc (.cells (scells noS) 25)).heap.size := by simp
  have hsC : begC.size = 72 := rfl
  have hbw : begC.extract 0 72 = begC := by rfl
  obtain ⟨F, hF⟩ : ∃ F : Nat → Nat, F = fun i => if sg then 0 else D i := ⟨_, rfl⟩
  obtain ⟨T, hT⟩ : ∃ T : Nat → Nat, T = fun i => if sg then D i else 3 := ⟨_, rfl⟩
  rw [← hF, ← hT]
  rw [← mix_zero (eachB S F T) S] at hS
  replace hZ := hide hZ
  replace hS := hide hS
  replace hx := hide hx
  replace hG := hide hG
  replace hD := hide hD
  replace hD3 := hide hD3
  replace hF := hide hF
  replace hT := hide hT
  go_enter Try.func31, Try.ntmps31
  go_wp2_with (first
    | (go_at_call 34; (with_reducible refine (begin_w _).mono ?_); rintro r w1 ⟨rfl, hx1⟩; have hst1 := hst w1; have hG1 := hide (Nat.lt_of_lt_of_le hG.out hx1.size); have hB := heap_alloc_new w1 (.cells begC 62); replace hx1 := hx1.then (ext_alloc w1 (.cells begC 62)); have hS1 := (hx1.block _ (lt_of_block hS.out)).trans hS.out; have hZ1 := (hx1.block _ (lt_of_block hZ.out)).trans hZ.out; replace hx1 := hx.out.then hx1; have hD1 := hD.out.ext hx1; replace hB := hide hB; replace hS1 := hide hS1; replace hZ1 := hide hZ1; replace hD1 := hide hD1; replace hx1 := hide hx1))
  have hB := hB.out
  have hS1 := hS1.out
  have hZ1 := hZ1.out
  have hx1 := hx1.out
  have hG : w.heap.size + 1 < w1.heap.size := hG1.out
  generalize w1.alloc (.cells begC 62) = W at *
  obtain ⟨G, eG⟩ : ∃ G, G = w1.heap.size := ⟨_, rfl⟩
  rw [← eG] at hB hG ⊢
  clear hst1 hst hx hG1 hS hZ hD1
  replace eG := hide eG
  go_loopw [8] (fun s wr => ∃ i : Nat, i ≤ 68 ∧ s = .int .i64 i ∧ wr.heap[w.heap.size]? = some (.cells (scells (mix (eachB S F T) S i)) 25 (0, 0)) ∧ wr.heap[w.heap.size + 1]? = some (.cells (scells noS) 25 (0, 0)) ∧ wr.heap[G]? = some (.cells begC 62 (0, 0)) ∧ Ext w wr) (fun i _ => 68 - (intOf i).toNat)
  case atStart => exact ⟨0, by omega, rfl, hS1, hZ1, hB, hx1⟩
  case round =>
    clear hS1 hZ1 hB hx1
    obtain ⟨i, hi, rfl, hS, hZ, hB, hx⟩ := hrel
    obtain ⟨w2, rfl⟩ : ∃ w2, w2 = wr := ⟨_, rfl⟩
    by_cases hlt : i < 68
    · have hlt' : (i : Int) < 68 := by omega
      have hi0 : (0 : Int) ≤ i := by omega
      have hd := hD.out.ext hx i hlt
      have hd3 := hD3.out i hlt
      have hM := mix_succ (eachB S F T) S i
      have hMk := mix_at (eachB S F T) S i
      have hE : eachB S F T i = goB (S i) i (F i) (T i - F i) := rfl
      generalize mix (eachB S F T) S i = M at *
      rw [← upd_self M i, hMk] at hS
      obtain ⟨f, hf⟩ : ∃ f, f = F i := ⟨_, rfl⟩
      obtain ⟨t, ht⟩ : ∃ t, t = T i := ⟨_, rfl⟩
      rw [← hf, ← ht] at hE
      have ht3 : t ≤ 3 := by rw [ht, hT.out]; cases sg <;> simp <;> omega
      have hf' : f = if sg then 0 else D i := by rw [hf, hF.out]
      have ht' : t = if sg then D i else 3 := by rw [ht, hT.out]
      clear hf ht
      generalize D i = d at *
      replace hM := hide hM
      replace hE := hide hE
      replace hS := hide hS
      replace hZ := hide hZ
      replace hB := hide hB
      replace hMk := hide hMk
      cases sg
      · obtain rfl : f = d := by simpa using hf'
        have ht3e : t = 3 := by simpa using ht'
        clear hf' ht'
        go_wp2_with fail
        go_loopw [11] (fun s wr => ∃ n : Nat, s = .int .i64 ((f + n : Nat) : Int) ∧ (n = 0 ∨ f + n ≤ t) ∧ wr.heap[w.heap.size]? = some (.cells (scells (upd M i (goB (S i) i f n))) 25 (0, 0)) ∧ wr.heap[w.heap.size + 1]? = some (.cells (scells noS) 25 (0, 0)) ∧ wr.heap[G]? = some (.cells begC 62 (0, 0)) ∧ Ext w wr) (fun i _ => t - (intOf i).toNat)
        case atStart => exact ⟨0, by go_num, .inl rfl, hS.out, hZ.out, hB.out, hx⟩
        case round =>
          clear hS hZ hB hx
          obtain ⟨n, rfl, hn, hS, hZ, hB, hx⟩ := hrel
          obtain ⟨w4, rfl⟩ : ∃ w4, w4 = wr := ⟨_, rfl⟩
          obtain ⟨m, hm⟩ : ∃ m, m = f + n := ⟨_, rfl⟩
          have hm1 : m + 1 = f + (n + 1) := by omega
          by_cases hnt : m < t
          · have hnt' : (m : Int) < 3 := by omega
            have hup := upd_upd M i (goB (S i) i f n) (goB (S i) i f (n + 1))
            have hgo : goB (S i) i f (n + 1) = stepB (goB (S i) i f n) i (f + n) := rfl
            have hrow := rowAt_scells hS i hlt
            rw [upd_at] at hrow
            rw [← hm] at hgo hn ⊢
            rw [hgo] at hup
            have rB := rowAt_whole hB hsC
            generalize goB (S i) i f n = x at *
            have hTx := fun w' => stepText_any x i m w'
            have e0 : halfB (hashB (stepT x i m)) = stepB x i m := rfl
            generalize stepT x i m = c at hTx e0
            replace hS := hide hS
            replace hZ := hide hZ
            replace hB := hide hB
            replace hup := hide hup
            replace hgo := hide hgo
            replace hm := hide hm
            replace hTx := hide hTx
            replace e0 := hide e0
            go_wp2_with fail
            go_region_with (first
              | (go_at_call 35; (with_reducible refine (hTx.out _).mono ?_); rintro r w5 ⟨⟨g5, cp5, rfl, hb5⟩, hx5⟩; have rB5 := rowAt_ext hx5 rB)
              | (go_at_call 33; (with_reducible refine (half_any (some ⟨g5, 0, none⟩) 19 cp5 c (by omega) _ hb5 (fun e => by cases e)).mono ?_); rintro r w6 ⟨rfl, hx6⟩; rw [e0.out]; replace hx6 := Ext.then (b := w4.drew) ((Below.refl _ _).drew) (hx5.then hx6); have hS6 := (hx6.block _ (lt_of_block hS.out)).trans hS.out; have hst6 := store_node_cells w6 w.heap.size i hlt (upd M i x) (stepB x i m) _ hS6; rw [hup.out] at hst6))
            all_goals
              go_wp2_with fail
              go_roundw
              case rel => exact ⟨n + 1, by rw [← hm1]; go_num, .inr (by omega), by rw [hgo.out]; exact setRow_heap _ _ _ _ _ _ hS6, (setRow_other _ _ _ _ (by omega)).trans ((hx6.block _ (lt_of_block hZ.out)).trans hZ.out), (setRow_other _ _ _ _ (by omega)).trans ((hx6.block _ (lt_of_block hB.out)).trans hB.out), below_setRow (hx.then hx6) (Nat.le_refl _) _⟩
              case measure => simp [intOf]; omega
          · have hnt' : ¬ (m : Int) < 3 := by omega
            obtain rfl : n = t - f := by omega
            rw [← hE.out, hM.out] at hS
            rw [← hm]
            replace hS := hide hS
            replace hZ := hide hZ
            replace hB := hide hB
            replace hm := hide hm
            go_wp2_with fail
            go_roundw
            case rel => exact ⟨i + 1, by omega, by go_num, hS.out, hZ.out, hB.out, hx⟩
            case measure => simp [intOf]; omega
      · have hf0 : f = 0 := by simpa using hf'
        obtain rfl : t = d := by simpa using ht'
        clear hf' ht'
        go_wp2_with fail
        go_region_with fail
        all_goals
          go_wp2_with fail
          go_loopw [11] (fun s wr => ∃ n : Nat, s = .int .i64 ((f + n : Nat) : Int) ∧ (n = 0 ∨ f + n ≤ t) ∧ wr.heap[w.heap.size]? = some (.cells (scells (upd M i (goB (S i) i f n))) 25 (0, 0)) ∧ wr.heap[w.heap.size + 1]? = some (.cells (scells noS) 25 (0, 0)) ∧ wr.heap[G]? = some (.cells begC 62 (0, 0)) ∧ Ext w wr) (fun i _ => t - (intOf i).toNat)
          case atStart => exact ⟨0, by rw [hf0]; go_num, .inl rfl, hS.out, hZ.out, hB.out, hx.drew⟩
          case round =>
            clear hS hZ hB hx
            obtain ⟨n, rfl, hn, hS, hZ, hB, hx⟩ := hrel
            obtain ⟨w4, rfl⟩ : ∃ w4, w4 = wr := ⟨_, rfl⟩
            obtain ⟨m, hm⟩ : ∃ m, m = f + n := ⟨_, rfl⟩
            have hm1 : m + 1 = f + (n + 1) := by omega
            by_cases hnt : m < t
            · have hnt' : (m : Int) < t := by omega
              have hup := upd_upd M i (goB (S i) i f n) (goB (S i) i f (n + 1))
              have hgo : goB (S i) i f (n + 1) = stepB (goB (S i) i f n) i (f + n) := rfl
              have hrow := rowAt_scells hS i hlt
              rw [upd_at] at hrow
              rw [← hm] at hgo hn ⊢
              rw [hgo] at hup
              have rB := rowAt_whole hB hsC
              generalize goB (S i) i f n = x at *
              have hTx := fun w' => stepText_any x i m w'
              have e0 : halfB (hashB (stepT x i m)) = stepB x i m := rfl
              generalize stepT x i m = c at hTx e0
              replace hS := hide hS
              replace hZ := hide hZ
              replace hB := hide hB
              replace hup := hide hup
              replace hgo := hide hgo
              replace hm := hide hm
              replace hTx := hide hTx
              replace e0 := hide e0
              go_wp2_with fail
              go_region_with (first
                | (go_at_call 35; (with_reducible refine (hTx.out _).mono ?_); rintro r w5 ⟨⟨g5, cp5, rfl, hb5⟩, hx5⟩; have rB5 := rowAt_ext hx5 rB)
                | (go_at_call 33; (with_reducible refine (half_any (some ⟨g5, 0, none⟩) 19 cp5 c (by omega) _ hb5 (fun e => by cases e)).mono ?_); rintro r w6 ⟨rfl, hx6⟩; rw [e0.out]; replace hx6 := Ext.then (b := w4.drew) ((Below.refl _ _).drew) (hx5.then hx6); have hS6 := (hx6.block _ (lt_of_block hS.out)).trans hS.out; have hst6 := store_node_cells w6 w.heap.size i hlt (upd M i x) (stepB x i m) _ hS6; rw [hup.out] at hst6))
              all_goals
                go_wp2_with fail
                go_roundw
                case rel => exact ⟨n + 1, by rw [← hm1]; go_num, .inr (by omega), by rw [hgo.out]; exact setRow_heap _ _ _ _ _ _ hS6, (setRow_other _ _ _ _ (by omega)).trans ((hx6.block _ (lt_of_block hZ.out)).trans hZ.out), (setRow_other _ _ _ _ (by omega)).trans ((hx6.block _ (lt_of_block hB.out)).trans hB.out), below_setRow (hx.then hx6) (Nat.le_refl _) _⟩
                case measure => simp [intOf]; omega
            · have hnt' : ¬ (m : Int) < t := by omega
              obtain rfl : n = t - f := by omega
              rw [← hE.out, hM.out] at hS
              rw [← hm]
              replace hS := hide hS
              replace hZ := hide hZ
              replace hB := hide hB
              replace hm := hide hm
              go_wp2_with fail
              go_roundw
              case rel => exact ⟨i + 1, by omega, by go_num, hS.out, hZ.out, hB.out, hx⟩
              case measure => simp [intOf]; omega
    · obtain rfl : i = 68 := by omega
      rw [scells_mix] at hS
      have r1 := rowAt_whole hS (size_scells _)
      have hst := store_over (P := Try.prog) w2 (w.heap.size + 1) 25 1088 (scells (eachB S F T)) (scells noS) 25 (size_scells _) (size_scells _) (by kernel_rfl) (one_scells _) hZ
      go_wp2_with ((with_reducible show bodyPost _ _ _ _ _ _); refine ret_row (P := Try.prog) 6 25 1088 _ _ rfl rfl Try.underlying25 rfl (by kernel_rfl) _ _ rfl (rowAt_whole (setRow_heap _ _ _ _ _ _ hZ) (size_scells _)) ⟨rfl, below_setRow hx (by omega) _⟩)
end Go.Proofs.Ytclghfnmmnnceaa
