/- The walk of wots.each. -/
import Derived.Test.YtclghfnmmnnceaaSecret
namespace Go.Proofs.Ytclghfnmmnnceaa
open Go.RowKit
set_option linter.unusedVariables false
set_option linter.unusedSimpArgs false

theorem enter_none (args : Array Value) (w : World) : (callFunc 21 args).run Try.prog w = .ok (.enter 21 args) w := by
  go_simp
attribute [local go_sem ↓] exec_store_Hash exec_store_Node exec_store_Secret zero_Secret
attribute [local go_sem ↓] loadCells_blk
attribute [local go_sem] node_at run_blkLoad rowAt_drew rowAt_old rowAt_new size_bcells size_scells bc_whole half_extract
set_option maxHeartbeats 4000000 in
set_option maxRecDepth 100000 in
theorem each_any (S : Nat → Bs 16) (ff ft : Nat) (cf ct : Array Value) (F T : Nat → Nat) (w : World)
    (hF : ∀ w' i, Ext w w' → i < 68 → Calls Try.prog ff (#[.int .i64 (i : Int)] ++ cf) w' fun r w'' => r = .returned (.int .i64 (F i : Int)) ∧ Ext w' w'')
    (hT : ∀ w' i, Ext w w' → i < 68 → Calls Try.prog ft (#[.int .i64 (i : Int)] ++ ct) w' fun r w'' => r = .returned (.int .i64 (T i : Int)) ∧ Ext w' w'')
    (hrF : ∀ args w, (callFunc ff args).run Try.prog w = .ok (.enter ff args) w) (hrT : ∀ args w, (callFunc ft args).run Try.prog w = .ok (.enter ft args) w)
    (hT3 : ∀ i, i < 68 → T i ≤ 3) :
    Calls Try.prog 20 #[.agg (scells S), .func (.func ff) #[] cf, .func (.func ft) #[] ct] w fun r w' => r = .returned (.agg (scells (eachB S F T))) ∧ Ext w w' := by
  go_enter Try.func20, Try.ntmps20
  go_wp2_with fail
  have hx := ext_two w (.cells (scells S) 25) (.cells (scells noS) 25)
  have hX := heap_alloc2_old w (.cells (scells S) 25) (.cells (scells noS) 25)
  have hZ := heap_alloc2_new w (.cells (scells S) 25) (.cells (scells noS) 25)
  generalize (w.alloc (.cells (scells S) 25)).alloc (.cells (scells noS) 25) = W at *
  rw [← mix_zero (eachB S F T) S] at hX
  go_loopw [9] (fun s wr => ∃ k : Nat, k ≤ 68 ∧ s = .int .i64 k ∧ wr.heap[w.heap.size]? = some (.cells (scells (mix (eachB S F T) S k)) 25 (0, 0)) ∧ wr.heap[w.heap.size + 1]? = some (.cells (scells noS) 25 (0, 0)) ∧ Ext w wr) (fun i _ => 68 - (intOf i).toNat)
  case atStart => exact ⟨0, by omega, rfl, hX, hZ, hx⟩
  case round =>
    clear hX hZ hx
    obtain ⟨k, hk, rfl, hX, hZ, hx⟩ := hrel
    obtain ⟨w2, rfl⟩ : ∃ w2, w2 = wr := ⟨_, rfl⟩
    by_cases hlt : k < 68
    · have hlt' : (k : Int) < 68 := by omega
      have hk0 : (0 : Int) ≤ k := by omega
      have hM := mix_succ (eachB S F T) S k
      have hMk := mix_at (eachB S F T) S k
      have hE : eachB S F T k = goB (S k) k (F k) (T k - F k) := rfl
      generalize mix (eachB S F T) S k = M at *
      rw [← upd_self M k, hMk] at hX
      replace hM := hide hM
      replace hE := hide hE
      replace hZ := hide hZ
      have hFk := hF _ k hx hlt
      have hTk := fun w' h => hT w' k h hlt
      have hT3 := hT3 k hlt
      replace hX := hide hX
      replace hTk := hide hTk
      clear hF hT
      go_wp2_with (first
        | ((with_reducible refine hFk.mono ?_); rintro r w3 ⟨rfl, hx3⟩))
      have hX3 := (hx3.block _ (lt_of_block hX.out)).trans hX.out
      have hZ3 := (hx3.block _ (lt_of_block hZ.out)).trans hZ.out
      replace hx3 := hx.then hx3
      clear hFk hX hZ hx
      obtain ⟨f, hf⟩ : ∃ f, f = F k := ⟨_, rfl⟩
      obtain ⟨t, ht⟩ : ∃ t, t = T k := ⟨_, rfl⟩
      rw [← hf, ← ht] at hE
      rw [← ht] at hTk hT3
      rw [← hf]
      replace hf := hide hf
      replace ht := hide ht
      go_loopw [8] (fun s wr => ∃ n : Nat, s = .int .i64 ((f + n : Nat) : Int) ∧ (n = 0 ∨ f + n ≤ t) ∧ wr.heap[w.heap.size]? = some (.cells (scells (upd M k (goB (S k) k f n))) 25 (0, 0)) ∧ wr.heap[w.heap.size + 1]? = some (.cells (scells noS) 25 (0, 0)) ∧ Ext w wr) (fun i _ => t - (intOf i).toNat)
      case atStart => exact ⟨0, rfl, .inl rfl, hX3, hZ3, hx3⟩
      case round =>
        clear hX3 hZ3 hx3
        obtain ⟨n, rfl, hn, hX, hZ, hx⟩ := hrel
        obtain ⟨w4, rfl⟩ : ∃ w4, w4 = wr := ⟨_, rfl⟩
        have hTn := hTk.out w4 hx
        obtain ⟨m, hm⟩ : ∃ m, m = f + n := ⟨_, rfl⟩
        have hms : ∀ x : Bs 16, stepB x k (f + n) = stepB x k m := fun x => by rw [hm]
        rw [← hm] at hn ⊢
        have hm1 : m + 1 = f + (n + 1) := by omega
        replace hm := hide hm
        by_cases hnt : m < t
        · have hnt' : (m : Int) < t := by omega
          have hd : decide ((m : Int) < t) = true := by simpa using hnt'
          have hup := upd_upd M k (goB (S k) k f n) (goB (S k) k f (n + 1))
          have hgo : goB (S k) k f (n + 1) = stepB (goB (S k) k f n) k (f + n) := rfl
          have hrow := rowAt_scells hX k hlt
          rw [upd_at] at hrow
          rw [hms] at hgo
          rw [hgo] at hup
          generalize goB (S k) k f n = x at *
          replace hX := hide hX
          replace hZ := hide hZ
          replace hup := hide hup
          replace hgo := hide hgo
          go_wp2_with (first
            | ((with_reducible refine hTn.mono ?_); rintro r w5 ⟨rfl, hx5⟩; have hrow5 := rowAt_ext hx5 hrow; have hX5 := (hx5.block _ (lt_of_block hX.out)).trans hX.out; have hZ5 := (hx5.block _ (lt_of_block hZ.out)).trans hZ.out)
            | (go_at_call 24; (with_reducible refine (step_any x k m (by omega) (by omega) _).mono ?_); rintro r w6 ⟨rfl, hx6⟩; have hX6 := (hx6.block _ (lt_of_block hX5)).trans hX5; have hZ6 := (hx6.block _ (lt_of_block hZ5)).trans hZ5; have hst := store_node w6 w.heap.size k hlt _ (stepB x k m) _ hX6; rw [hup.out] at hst))
          go_roundw
          case rel => exact ⟨n + 1, by rw [← hm1]; go_num, .inr (by omega), by rw [hgo.out]; exact setRow_heap _ _ _ _ _ _ hX6, (setRow_other _ _ _ _ (by omega)).trans hZ6, below_setRow ((hx.then hx5).then hx6) (Nat.le_refl _) _⟩
          case measure => simp [intOf]; omega
        · have hnt' : ¬ (m : Int) < t := by omega
          have hd : decide ((m : Int) < t) = false := by simpa using hnt'
          obtain rfl : n = t - f := by have := hm.out; omega
          rw [← hE.out, hM.out] at hX
          replace hX := hide hX
          replace hZ := hide hZ
          go_wp2_with (first
            | ((with_reducible refine hTn.mono ?_); rintro r w5 ⟨rfl, hx5⟩))
          go_roundw
          case rel => exact ⟨k + 1, by omega, by go_num, (hx5.block _ (lt_of_block hX.out)).trans hX.out, (hx5.block _ (lt_of_block hZ.out)).trans hZ.out, hx.then hx5⟩
          case measure => simp [intOf]; omega
    · obtain rfl : k = 68 := by omega
      rw [scells_mix] at hX
      have r1 := rowAt_whole hX (size_scells _)
      have hst := store_over (P := Try.prog) _ (w.heap.size + 1) 25 1088 (scells (eachB S F T)) _ 25 (size_scells _) (size_scells _) (by kernel_rfl) (one_scells _) hZ
      go_wp2_with ((with_reducible show bodyPost _ _ _ _ _ _); refine ret_row (P := Try.prog) 6 25 1088 _ _ rfl rfl Try.underlying25 rfl (by kernel_rfl) _ _ rfl (rowAt_whole (setRow_heap _ _ _ _ _ _ hZ) (size_scells _)) ⟨rfl, below_setRow hx (by omega) _⟩)
end Go.Proofs.Ytclghfnmmnnceaa
