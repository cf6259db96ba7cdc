/- The law on steps, secrets and publics: its walk. -/
import Derived.Test.YtclghfnmmnnceaaEndsR
import Derived.Test.YtclghfnmmnnceaaPubW
import Derived.Test.YtclghfnmmnnceaaSecEq
import Derived.Test.YtclghfnmmnnceaaKnown6
import Derived.Test.YtclghfnmmnnceaaStepX
import Derived.Test.YtclghfnmmnnceaaRefStep
import Derived.Test.YtclghfnmmnnceaaMakeR
namespace Go.Proofs.Ytclghfnmmnnceaa
open Go.RowKit
set_option linter.unusedVariables false
set_option linter.unusedSimpArgs false

theorem equal_node10 (w : World) (a b : Bs 16) : (Op.equalIn 10000 23 (.agg (bcells a)) (.agg (bcells b))).run Try.prog w = .ok (bsEq a b) w := equal_node w 9998 a b
theorem exec_build_N (ρ : Operand → Value) (d : Option Tmp) (ps : Array (Nat × Operand)) (t : TypeId) (p : String) (af : Array Edge) (gd : Option (Nat × Bool)) (w : World) : (execOp ρ ⟨d, .build 23 ps, t, p, af, gd⟩).run Try.prog w = buildStep Try.prog 23 (ps.map fun x => (x.1, ρ x.2)) w := exec_build 23 ρ d ps t p af gd w
theorem build_n0 (w : World) : buildStep Try.prog 23 #[] w = .ok (.value (.agg (bcells (zeros 16)))) w := buildStep_eq w _ _ _ (by kernel_rfl)
theorem exec_build_S (ρ : Operand → Value) (d : Option Tmp) (ps : Array (Nat × Operand)) (t : TypeId) (p : String) (af : Array Edge) (gd : Option (Nat × Bool)) (w : World) : (execOp ρ ⟨d, .build 25 ps, t, p, af, gd⟩).run Try.prog w = buildStep Try.prog 25 (ps.map fun x => (x.1, ρ x.2)) w := exec_build 25 ρ d ps t p af gd w
set_option maxRecDepth 100000 in
theorem build_s0 (w : World) : buildStep Try.prog 25 #[] w = .ok (.value (.agg (scells noS))) w := buildStep_eq w _ _ _ (by kernel_rfl)
theorem store_new_N16 (o : Bs 16) (w : World) (N : Nat) (hN : w.heap.size = N) (z : Array Value) (hz : z.size = 16) : storeStep Try.prog 23 (.pointer (some ⟨N, 0, none⟩)) (.agg (bcells o)) (w.alloc (.cells z 23)) = .ok .skip (w.alloc (.cells (bcells o) 23)) := store_new_N o w N hN z hz
section
attribute [local go_sem ↓] exec_store_Hash exec_store_Node exec_store_Secret zero_Secret exec_build_S build_s0
attribute [local go_sem ↓] loadCells_blk
attribute [local go_sem] node_at run_blkLoad rowAt_drew rowAt_old rowAt_new size_bcells size_scells bc_whole sc_whole half_extract
set_option maxHeartbeats 4000000 in
set_option maxRecDepth 100000 in
theorem makeNo (seed : Bs 32) (leaf : Int) (h : leaf < 0 ∨ 255 < leaf) (w : World) : Calls Try.prog 14 #[.agg (bcells seed), .int .i64 leaf] w fun r w' => r = .returned (.tuple #[.agg (scells noS), .int .i64 2]) ∧ Ext w w' := by
  have hx := ext_two w (.cells (bcells seed) 27) (.cells (scells noS) 25)
  have hZ := heap_alloc2_new w (.cells (bcells seed) 27) (.cells (scells noS) 25)
  have hst := store_self (P := Try.prog) _ (w.heap.size + 1) 25 1088 (scells noS) 25 (size_scells _) (by kernel_rfl) (one_scells _) hZ
  have hrow := rowAt_whole hZ (size_scells noS)
  replace hZ := hide hZ
  replace hx := hide hx
  by_cases h1 : leaf < 0
  · have d1 : decide (leaf < 0) = true := by simpa using h1
    go_enter Try.func14, Try.ntmps14
    go_wp2_with ((with_reducible show bodyPost _ _ _ _ _ _); refine ret_row2 (P := Try.prog) 4 5 25 1088 _ _ _ rfl rfl Try.underlying25 rfl (by kernel_rfl) _ _ rfl rfl hrow ⟨rfl, hx.out⟩)
  · have d1 : decide (leaf < 0) = false := by simpa using h1
    have d2 : decide ((255 : Int) < leaf) = true := by simp; omega
    go_enter Try.func14, Try.ntmps14
    go_wp2_with ((with_reducible show bodyPost _ _ _ _ _ _); refine ret_row2 (P := Try.prog) 4 5 25 1088 _ _ _ rfl rfl Try.underlying25 rfl (by kernel_rfl) _ _ rfl rfl hrow ⟨rfl, hx.out⟩)
end
attribute [local go_sem ↓] exec_store_Hash exec_store_Node exec_store_Secret zero_Secret exec_build_S exec_build_N
attribute [local go_sem ↓] loadCells_blk
attribute [local go_sem] node_at run_blkLoad rowAt_drew rowAt_old rowAt_new size_bcells size_scells bc_whole sc_whole half_extract
attribute [local go_sem] equal_node10 equal_secret equal_hash
set_option maxHeartbeats 8000000 in
set_option maxRecDepth 100000 in
theorem wotsSteps_walk (x : Bs 16) (i k : Int) (seed : Bs 32) (leaf : Int) (w : World) : Calls Try.prog 5 #[.agg (bcells x), .int .i64 i, .int .i64 k, .agg (bcells seed), .int .i64 leaf] w fun e w' => e = .returned (.bool true) ∧ Ext w w' := by
  have hX := heap_alloc2_old w (.cells (bcells x) 23) (.cells (bcells seed) 27)
  have hH := heap_alloc2_new w (.cells (bcells x) 23) (.cells (bcells seed) 27)
  have hx := ext_two w (.cells (bcells x) 23) (.cells (bcells seed) 27)
  have rX := rowAt_whole hX (size_bcells x)
  have rH := rowAt_whole hH (size_bcells seed)
  have hz16 : (bcells (zeros 16)).size = 16 := size_bcells _
  rw [bcells_zeros16] at hz16
  obtain ⟨B, y, e, hB, hS, hcase⟩ : ∃ (B : Bool) (y : Bs 16) (e : Int), B = decide (i < 0 ∨ 67 < i ∨ k < 0 ∨ 2 < k) ∧ (∀ w', Calls Try.prog 9 #[.agg (bcells x), .int .i64 i, .int .i64 k] w' fun r w'' => r = .returned (.tuple #[.agg (bcells y), .int .i64 e]) ∧ Ext w' w'') ∧ ((B = true ∧ y = zeros 16 ∧ e = 2) ∨ (B = false ∧ e = 0 ∧ ∀ w', Calls Try.prog 13 #[.agg (bcells x), .int .i64 i, .int .i64 k] w' fun r w'' => r = .returned (.agg (bcells y)) ∧ Ext w' w'')) := by
    by_cases h : i < 0 ∨ 67 < i ∨ k < 0 ∨ 2 < k
    · exact ⟨true, zeros 16, 2, by simp only [h, decide_true], fun w' => stepNo x i k (by omega) w', .inl ⟨rfl, rfl, rfl⟩⟩
    · obtain ⟨i, rfl⟩ := Int.eq_ofNat_of_zero_le (show 0 ≤ i by omega)
      obtain ⟨k, rfl⟩ := Int.eq_ofNat_of_zero_le (show 0 ≤ k by omega)
      exact ⟨false, stepB x i k, 0, by simp only [h, decide_false], fun w' => stepYes x i k (by omega) (by omega) w', .inr ⟨rfl, rfl, fun w' => refStep_any x i k w'⟩⟩
  obtain ⟨C, S, f, hC, hM, hcasM⟩ : ∃ (C : Bool) (S : Nat → Bs 16) (f : Int), C = decide (leaf < 0 ∨ 255 < leaf) ∧ (∀ w', Calls Try.prog 14 #[.agg (bcells seed), .int .i64 leaf] w' fun r w'' => r = .returned (.tuple #[.agg (scells S), .int .i64 f]) ∧ Ext w' w'') ∧ ((C = true ∧ S = noS ∧ f = 2) ∨ (C = false ∧ f = 0 ∧ ∀ w', Calls Try.prog 15 #[.agg (bcells seed), .int .i64 leaf] w' fun r w'' => r = .returned (.agg (scells S)) ∧ Ext w' w'')) := by
    by_cases h : leaf < 0 ∨ 255 < leaf
    · exact ⟨true, noS, 2, by simp only [h, decide_true], fun w' => makeNo seed leaf h w', .inl ⟨rfl, rfl, rfl⟩⟩
    · obtain ⟨leaf, rfl⟩ := Int.eq_ofNat_of_zero_le (show 0 ≤ leaf by omega)
      exact ⟨false, secretB seed leaf, 0, by simp only [h, decide_false], fun w' => make_any seed leaf (by omega) w', .inr ⟨rfl, rfl, fun w' => refMake_any seed leaf w'⟩⟩
  have hPu := fun w' => public_any S w'
  have hPr := fun w' => refPublic_any S w'
  generalize publicB S = Q at *
  have hQ := bsEq_self Q
  have hez := bsEq_self (zeros 16)
  have hey := bsEq_self y
  replace hB := hide hB
  replace hC := hide hC
  replace hS := hide hS
  replace hM := hide hM
  replace hcase := hide hcase
  replace hcasM := hide hcasM
  replace hPu := hide hPu
  replace hPr := hide hPr
  replace hx := hide hx
  clear hX hH
  go_enter Try.func5, Try.ntmps5
  go_upto_region 2 with (go_at_call 9; (with_reducible refine (hS.out _).mono ?_); rintro r w2 ⟨rfl, hx2⟩; have hst2 := store_new_N y w2 _ rfl _ hz16; have hY2 := heap_alloc_new w2 (.cells (bcells y) 23); have rY2 := rowAt_whole hY2 (size_bcells _); have hx3 := hx2.then (ext_alloc w2 (.cells (bcells y) 23)); have rX3 := rowAt_ext hx3 rX; have rH3 := rowAt_ext hx3 rH)
  replace hx3 := hx.out.then hx3
  clear hst2 hY2 hx2 rX rH hx
  generalize w2.alloc (.cells (bcells y) 23) = W at *
  generalize w2.heap.size = G at *
  go_cut [36] from 23 to 36 (fun s36 wx => s36 = .bool B ∧ wx = W)
  case first =>
    by_cases h1 : i < 0
    · have d1 : decide (i < 0) = true := by simpa using h1
      have hBt : B = true := by rw [hB.out]; simp; omega
      replace hBt := hide hBt
      go_wp2_with fail
      go_meet
      exact ⟨by rw [hBt.out], rfl⟩
    · have d1 : decide (i < 0) = false := by simpa using h1
      by_cases h2 : 67 < i
      · have d2 : decide (67 < i) = true := by simpa using h2
        have hBt : B = true := by rw [hB.out]; simp; omega
        replace hBt := hide hBt
        go_wp2_with fail
        go_meet
        exact ⟨by rw [hBt.out], rfl⟩
      · have d2 : decide (67 < i) = false := by simpa using h2
        by_cases h3 : k < 0
        · have d3 : decide (k < 0) = true := by simpa using h3
          have hBt : B = true := by rw [hB.out]; simp; omega
          replace hBt := hide hBt
          go_wp2_with fail
          go_meet
          exact ⟨by rw [hBt.out], rfl⟩
        · have d3 : decide (k < 0) = false := by simpa using h3
          by_cases h4 : 2 < k
          · have d4 : decide (2 < k) = true := by simpa using h4
            have hBt : B = true := by rw [hB.out]; simp; omega
            replace hBt := hide hBt
            go_wp2_with fail
            go_meet
            exact ⟨by rw [hBt.out], rfl⟩
          · have d4 : decide (2 < k) = false := by simpa using h4
            have hBt : B = false := by rw [hB.out]; simp; omega
            replace hBt := hide hBt
            go_wp2_with fail
            go_meet
            exact ⟨by rw [hBt.out], rfl⟩
  case rest =>
    obtain ⟨rfl, hwc⟩ := hcut
    subst hwc
    obtain ⟨w3, rfl⟩ : ∃ v, v = wc := ⟨_, rfl⟩
    go_upto_if 36 with fail
    go_cut [] from 37 to 53 (fun wx => rowAt wx (w.heap.size + 1) 0 32 = some (bcells seed) ∧ Ext w wx)
    case first =>
      rcases hcase.out with ⟨rfl, hy0, rfl⟩ | ⟨rfl, rfl, hV⟩
      · have hb0 : ∀ w, buildStep Try.prog 23 #[] w = .ok (.value (.agg (bcells y))) w := fun w => by rw [hy0]; exact build_n0 w
        replace hy0 := hide hy0
        go_wp2_with fail
        go_meet
        exact ⟨rH3, hx3⟩
      · replace hV := hide hV
        go_wp2_with fail
        go_region_with (go_at_call 13; (with_reducible refine (hV.out _).mono ?_); rintro r w4 ⟨rfl, hx4⟩; replace hx4 : Ext w3 w4 := Ext.then (b := w3.drew) ((Below.refl _ _).drew) hx4; have rY4 := rowAt_ext hx4 rY2)
        all_goals
          go_wp2_with fail
          go_meet
          exact ⟨rowAt_ext hx4 rH3, hx3.then hx4⟩
    case rest =>
      obtain ⟨rH4, hx4⟩ := hcut
      clear rX3 rH3 hx3 rY2 hcase hS hey hez hB
      obtain ⟨w4, rfl⟩ : ∃ v, v = wc := ⟨_, rfl⟩
      go_upto_region 8 with (go_at_call 14; (with_reducible refine (hM.out _).mono ?_); rintro r w5 ⟨rfl, hx5⟩; have hst5 := store_new_S S noS w5 _ rfl; have hS5 := heap_alloc_new w5 (.cells (scells S) 25); have rS5 := rowAt_whole hS5 (size_scells _); have hx6 := hx5.then (ext_alloc w5 (.cells (scells S) 25)); have rH6 := rowAt_ext hx6 rH4)
      replace hx6 := hx4.then hx6
      clear hst5 hS5 hx5 rH4 hx4
      generalize w5.alloc (.cells (scells S) 25) = W5 at *
      generalize w5.heap.size = G5 at *
      go_cut [65] from 60 to 65 (fun s65 wx => s65 = .bool C ∧ wx = W5)
      case first =>
        by_cases h1 : leaf < 0
        · have d1 : decide (leaf < 0) = true := by simpa using h1
          have hCt : C = true := by rw [hC.out]; simp; omega
          replace hCt := hide hCt
          go_wp2_with fail
          go_meet
          exact ⟨by rw [hCt.out], rfl⟩
        · have d1 : decide (leaf < 0) = false := by simpa using h1
          by_cases h2 : 255 < leaf
          · have d2 : decide (255 < leaf) = true := by simpa using h2
            have hCt : C = true := by rw [hC.out]; simp; omega
            replace hCt := hide hCt
            go_wp2_with fail
            go_meet
            exact ⟨by rw [hCt.out], rfl⟩
          · have d2 : decide (255 < leaf) = false := by simpa using h2
            have hCt : C = false := by rw [hC.out]; simp; omega
            replace hCt := hide hCt
            go_wp2_with fail
            go_meet
            exact ⟨by rw [hCt.out], rfl⟩
      case rest =>
        obtain ⟨rfl, hwc⟩ := hcut
        subst hwc
        obtain ⟨w6, rfl⟩ : ∃ v, v = wc := ⟨_, rfl⟩
        rcases hcasM.out with ⟨rfl, hS0, rfl⟩ | ⟨rfl, rfl, hV⟩
        · have hb0 : ∀ w, buildStep Try.prog 25 #[] w = .ok (.value (.agg (scells S))) w := fun w => by rw [hS0]; exact build_s0 w
          replace hS0 := hide hS0
          go_wp2_with (go_at_call 10; (with_reducible refine (known06 _).mono ?_); rintro r w7 ⟨rfl, hx7⟩)
          go_ret
          exact ⟨rfl, hx6.then hx7⟩
        · replace hV := hide hV
          go_wp2_with (go_at_call 15; (with_reducible refine (hV.out _).mono ?_); rintro r w7 ⟨rfl, hx7⟩; have hst7 := store_new_S S noS w7 _ rfl; have hS7 := heap_alloc_new w7 (.cells (scells S) 25); have rT7 := rowAt_whole hS7 (size_scells _); have hx8 := hx7.then (ext_alloc w7 (.cells (scells S) 25)); have rS7 := rowAt_ext hx8 rS5)
          replace hx8 := hx6.then hx8
          clear hst7 hS7 hx7 rS5 hx6 rH6 hM hcasM
          generalize w7.alloc (.cells (scells S) 25) = W7 at *
          generalize w7.heap.size = G7 at *
          go_region_with (first
            | (go_at_call 16; (with_reducible refine (hPu.out _).mono ?_); rintro r w8 ⟨rfl, hx9⟩; replace hx9 : Ext W7 w8 := Ext.then (b := W7.drew) ((Below.refl _ _).drew) hx9; have rS8 := rowAt_ext hx9 rS7; have rT8 := rowAt_ext hx9 rT7)
            | (go_at_call 17; (with_reducible refine (hPr.out _).mono ?_); rintro r w9 ⟨rfl, hx10⟩; have rS9 := rowAt_ext hx10 rS8; have rT9 := rowAt_ext hx10 rT8)
            | (go_at_call 10; (with_reducible refine (known06 _).mono ?_); rintro r w10 ⟨rfl, hx11⟩))
          all_goals
            go_wp2_with fail
            go_ret
            exact ⟨rfl, hx8.then (hx9.then (hx10.then hx11))⟩
end Go.Proofs.Ytclghfnmmnnceaa
