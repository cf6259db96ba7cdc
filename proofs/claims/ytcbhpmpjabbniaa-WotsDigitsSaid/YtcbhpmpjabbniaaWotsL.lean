/- The law on digits: its walk. -/
import Derived.Test.YtcbhpmpjabbniaaWotsR
import Derived.Test.YtcbhpmpjabbniaaWotsP
import Derived.Deep.RegionWith
import Derived.Deep.DeepCutAuto
import Derived.BigQuiet
import Derived.Deep.QuietTactic
namespace Go.Proofs.Ytcbhpmpjabbniaa
open Go.RowKit
set_option linter.unusedVariables false
set_option linter.unusedSimpArgs false

theorem exec_build_Hash (ρ : Operand → Value) (d : Option Tmp) (ps : Array (Nat × Operand)) (t : TypeId) (p : String) (af : Array Edge) (gd : Option (Nat × Bool)) (w : World) : (execOp ρ ⟨d, .build 24 ps, t, p, af, gd⟩).run Try.prog w = buildStep Try.prog 24 (ps.map fun x => (x.1, ρ x.2)) w := exec_build 24 ρ d ps t p af gd w
theorem exec_load_Hash (ρ : Operand → Value) (d : Option Tmp) (x : Operand) (t : TypeId) (p : String) (af : Array Edge) (gd : Option (Nat × Bool)) (w : World) : (execOp ρ ⟨d, .load 24 x, t, p, af, gd⟩).run Try.prog w = loadStep Try.prog 24 (ρ x) w := exec_load 24 ρ d x t p af gd w
theorem step_load_Hash (w : World) (g o : Nat) : loadStep Try.prog 24 (.pointer (some ⟨g, o, none⟩)) w = match rowAt w g o 32 with | some cs => .ok (.value (.agg cs)) w | none => ((loadVar 24 ⟨g, o, none⟩).run Try.prog w).andThen fun a w' => .ok (.value a) w' := loadStep_row w g o 24 32 _ Try.underlying24 rfl (by kernel_rfl)
def hash27 : Bs 32 := ⟨27 :: List.replicate 31 0, by decide⟩
theorem build_27 (w : World) : buildStep Try.prog 24 #[(0, .int .u8 27)] w = .ok (.value (.agg (bcells hash27))) w :=
  buildStep_eq w _ _ _ (by kernel_rfl)
theorem digits27 : digL hash27 = [0, 1, 2, 3] ++ List.replicate 60 0 ++ [2, 3, 2, 2] := by decide +kernel

attribute [local go_sem ↓] exec_build_Hash build_27 loadCells_blk
attribute [local go_sem] run_blkLoad rowAt_drew
attribute [local go_sem] rowAt_drew
set_option maxHeartbeats 1000000 in
theorem known06 (w : World) : Calls Try.prog 17 #[] w fun e w' => e = .returned (.bool true) ∧ Ext w w' := by
  go_enter Try.func17, Try.ntmps17
  go_wp2_with (go_at_call 15; refine (digits_any hash27 _).mono ?_; rintro e w' ⟨g, cap, rfl, hown, hext⟩; rw [digits27] at hown; have c0 := hown.cellAt 0 (by omega); have c1 := hown.cellAt 1 (by omega); have c2 := hown.cellAt 2 (by omega); have c3 := hown.cellAt 3 (by omega); have c4 := hown.cellAt 4 (by omega); have c64 := hown.cellAt 64 (by omega); have c65 := hown.cellAt 65 (by omega); have c66 := hown.cellAt 66 (by omega); have c67 := hown.cellAt 67 (by omega); simp at c0 c1 c2 c3 c4 c64 c65 c66 c67)
  go_ret
  exact ⟨rfl, hext⟩

/-- A slice that is known to hold numbers. -/
def HasInts (w : World) (g : Nat) (D : List Int) : Prop := ∀ i, i < 68 → w.cell? ⟨g, i, none⟩ = some (.int .i64 (D.getD i 0))
theorem HasInts.of_own {w : World} {base g cap : Nat} {D : List Int} (hl : D.length = 68) (h : w.ownsRow base 3 1 (.slice (some ⟨g, 0, none⟩) 68 cap) 68 (D.map (Value.int .i64))) : HasInts w g D := by
  intro i hi
  rw [h.cellAt i (by omega), List.getElem?_map, List.getElem?_eq_getElem (by omega)]
  simp [List.getD, List.getElem?_eq_getElem (show i < D.length by omega)]
theorem HasInts.ext {w w' : World} (h : Ext w w') {g : Nat} {D : List Int} (hi : HasInts w g D) : HasInts w' g D := by
  intro i hlt
  have := hi i hlt
  exact (h.cell (p := ⟨g, i, none⟩) (block_lt_of_cell this)).trans this

theorem digits_ints (h : Bs 32) (w : World) :
    Calls Try.prog 15 #[.agg (bcells h)] w fun e w' => ∃ g cap, e = .returned (.slice (some ⟨g, 0, none⟩) 68 cap) ∧ HasInts w' g (digL h) ∧ Ext w w' :=
  (digits_any h w).mono fun e w' ⟨g, cap, he, ho, hx⟩ => ⟨g, cap, he, HasInts.of_own (length_digL h) ho, hx⟩
theorem cell_of_rowAt {n : Nat} {w : World} {g : Nat} {h : Bs n} (hr : rowAt w g 0 n = some (bcells h)) (j : Nat) (hj : j < n) : w.cell? ⟨g, j, none⟩ = some (.int .u8 ((h.1.getD j 0).toNat : Int)) := by
  unfold rowAt at hr
  split at hr
  · rename_i row t fr hg
    split at hr
    · simp only [Option.some.injEq] at hr
      have e := congrArg (fun x => x[j]?) hr
      simp only [Array.getElem?_extract] at e
      rw [if_pos (by omega), Nat.zero_add] at e
      rw [cell_of_row w g j row t fr hg, e]
      simp [bcells, Extern.Stop.cell, List.getD, List.getElem?_eq_getElem (show j < h.1.length by rw [h.2]; omega)]
    · simp at hr
  · simp at hr
set_option maxHeartbeats 8000000 in
set_option maxRecDepth 100000 in
theorem wotsDigits_walk (a b : Bs 32) (w : World) :
    Calls Try.prog 5 #[.agg (bcells a), .agg (bcells b)] w fun e w' => e = .returned (.bool true) ∧ Ext w w' := by
  have hw : Ext w ((w.alloc (.cells (bcells a) 24)).alloc (.cells (bcells b) 24)) := by go_grown
  have q1 : rowAt ((w.alloc (.cells (bcells a) 24)).alloc (.cells (bcells b) 24)) w.heap.size 0 32 = some (bcells a) := by
    rw [rowAt_old _ _ _ _ _ (by simp), rowAt_new _ _ _ _ _ _ _ rfl, size_bcells]; simp; exact .inr (by rw [size_bcells]; exact Nat.le_refl _)
  have q2 : rowAt ((w.alloc (.cells (bcells a) 24)).alloc (.cells (bcells b) 24)) (w.heap.size + 1) 0 32 = some (bcells b) := by
    rw [rowAt_new _ _ _ _ _ _ _ (by simp), size_bcells]; simp; exact .inr (by rw [size_bcells]; exact Nat.le_refl _)
  generalize hW : (w.alloc (.cells (bcells a) 24)).alloc (.cells (bcells b) 24) = W at q1 q2 hw
  go_enter Try.func5, Try.ntmps5
  go_upto_region 1 with fail
  go_cut [5, 6] (fun s5 s6 wx => ∃ g1 c1 g2 c2, s5 = .slice (some ⟨g1, 0, none⟩) 68 c1 ∧ s6 = .slice (some ⟨g2, 0, none⟩) 68 c2 ∧ HasInts wx g1 (digL a) ∧ HasInts wx g2 (digL b) ∧ Ext W wx)
  case first =>
    go_region_with (first | (go_at_call 15; (with_reducible refine (digits_ints a _).mono ?_); rintro e w1 ⟨g1, cap1, rfl, hi1, hx1⟩; have q3 := rowAt_ext hx1 q1; have q4 := rowAt_ext hx1 q2) | (go_at_call 15; (with_reducible refine (digits_ints b _).mono ?_); rintro e w2 ⟨g2, cap2, rfl, hi2, hx2⟩))
    all_goals (go_wp2_with fail; go_meet; exact ⟨g1, cap1, g2, cap2, rfl, rfl, hi1.ext hx2, hi2, Ext.then (b := W.drew) ((Below.refl _ _).drew) (Ext.then hx1 hx2)⟩)
  case rest =>
    obtain ⟨g1, c1, g2, c2, rfl, rfl, hi1, hi2, hx⟩ := hcut
    have r1 := rowAt_ext hx q1
    have r2 := rowAt_ext hx q2
    clear q1 q2
    have hW := hide hW
    go_wp2_with (go_at_call 16; refine (refDigits_any a _).mono ?_; rintro e w3 ⟨g3, c3, rfl, ho3, hx3⟩)
    have hi3 := HasInts.of_own (length_digL a) ho3
    have hi1 := hi1.ext hx3
    have hi2 := hi2.ext hx3
    have r1 := rowAt_ext hx3 r1
    have r2 := rowAt_ext hx3 r2
    have hall : Ext w w3 := hw.then (hx.then hx3)
    have hlaw := hide (digits_law a b)
    clear ho3 hx hx3 hw
    generalize digL a = D at hi1 hi3 hlaw
    generalize digL b = E at hi2 hlaw
    go_loopw [9, 10, 11] (fun s9 s10 s11 wr => ∃ k : Nat, k ≤ 68 ∧ s11 = .int .i64 k ∧ s9 = .bool (lessB D E k) ∧ s10 = .bool (lessB E D k) ∧ Ext w3 wr) (fun _ _ i _ => 68 - (intOf i).toNat)
    case atStart => exact ⟨0, by omega, rfl, rfl, rfl, Below.refl _ _⟩
    case round =>
      obtain ⟨k, hk, rfl, rfl, rfl, hr⟩ := hrel
      by_cases hlt : k < 68
      · have d1 := hi1.ext hr k hlt
        have d2 := hi2.ext hr k hlt
        have d3 := hi3.ext hr k hlt
        have hs1 : lessB D E (k + 1) = (lessB D E k || decide (D.getD k 0 < E.getD k 0)) := rfl
        have hs2 : lessB E D (k + 1) = (lessB E D k || decide (E.getD k 0 < D.getD k 0)) := rfl
        generalize D.getD k 0 = x at d1 d3 hs1 hs2
        generalize E.getD k 0 = y at d2 hs1 hs2
        have hb : (k : Int) < 68 := by omega
        have hb0 : (0 : Int) ≤ k := by omega
        cases hl1 : lessB D E k <;> cases hl2 : lessB E D k
        all_goals
          rw [hl1] at hs1
          rw [hl2] at hs2
          have hs1 := hide hs1
          have hs2 := hide hs2
          clear hl1 hl2
          go_wp2_with fail
          go_quiet (fail)
          go_wp2_with fail
          go_quiet (fail)
          go_wp2_with fail
          go_quiet (fail)
          go_wp2_with fail
          go_roundw
          case rel => exact ⟨k + 1, by omega, by go_num, by rw [hs1.out]; rfl, by rw [hs2.out]; rfl, hr.trans ⟨rfl, rfl, rfl, Nat.le_refl _, fun _ _ => rfl⟩⟩
          case measure => simp [intOf]; omega
      · obtain rfl : k = 68 := by omega
        have q1 := rowAt_ext hr r1
        have q2 := rowAt_ext hr r2
        have hall := hall.then hr
        obtain ⟨A, hA⟩ : ∃ A, A = a.1 := ⟨_, rfl⟩
        obtain ⟨B, hB⟩ : ∃ B, B = b.1 := ⟨_, rfl⟩
        have ca : ∀ j, j < 16 → wr.cell? ⟨w.heap.size, j, none⟩ = some (.int .u8 ((A.getD j 0).toNat : Int)) := fun j hj => by rw [hA]; exact cell_of_rowAt q1 j (by omega)
        have cb : ∀ j, j < 16 → wr.cell? ⟨w.heap.size + 1, j, none⟩ = some (.int .u8 ((B.getD j 0).toNat : Int)) := fun j hj => by rw [hB]; exact cell_of_rowAt q2 j (by omega)
        have ca := hide ca
        have cb := hide cb
        have hl := hlaw.out
        rw [← hA, ← hB] at hl
        clear hA hB
        have hlen : ∃ s : Bool, sameB A B 16 = s ∧ ((s = true ∧ lessB D E 68 = false ∧ lessB E D 68 = false) ∨ (s = false ∧ lessB D E 68 = true ∧ lessB E D 68 = true)) := ⟨_, rfl, hl⟩
        obtain ⟨s, hs, hcase⟩ := hlen
        have hs := hide hs
        clear hl hlaw q1 q2 r1 r2 hi1 hi2 hi3
        rcases hcase with ⟨rfl, l2, l3⟩ | ⟨rfl, l2, l3⟩
        all_goals
          rw [l2, l3]
          clear l2 l3
          go_wp2_with fail
          obtain ⟨wo, hwo⟩ : ∃ wo : World, wo = wr := ⟨_, rfl⟩
          have hwo := hide hwo
          go_loopw [8, 12] (fun s8 s12 wz => ∃ j : Nat, j ≤ 16 ∧ s12 = .int .i64 j ∧ s8 = .bool (sameB A B j) ∧ Ext wr wz) (fun _ i _ => 16 - (intOf i).toNat)
          case atStart => exact ⟨0, by omega, rfl, rfl, Below.refl _ _⟩
          case round =>
            obtain ⟨j, hj, rfl, rfl, hz⟩ := hrel
            by_cases hlt2 : j < 16
            · have d1 := (hz.cell (p := ⟨w.heap.size, j, none⟩) (block_lt_of_cell (ca.out j hlt2))).trans (ca.out j hlt2)
              have d2 := (hz.cell (p := ⟨w.heap.size + 1, j, none⟩) (block_lt_of_cell (cb.out j hlt2))).trans (cb.out j hlt2)
              have hs1 : sameB A B (j + 1) = (sameB A B j && (A.getD j 0 == B.getD j 0)) := rfl
              have hxy : (A.getD j 0 == B.getD j 0) = (((A.getD j 0).toNat : Int) == ((B.getD j 0).toNat : Int)) := by
                rw [Bool.eq_iff_iff]; simp only [beq_iff_eq]; rw [← UInt8.toNat_inj]; omega
              rw [hxy] at hs1
              clear hxy
              generalize ((A.getD j 0).toNat : Int) = x at d1 hs1
              generalize ((B.getD j 0).toNat : Int) = y at d2 hs1
              have hb : (j : Int) < 16 := by omega
              have hb2 : (j : Int) < 32 := by omega
              have hb0 : (0 : Int) ≤ j := by omega
              cases hl1 : sameB A B j
              all_goals
                rw [hl1] at hs1
                have hs1 := hide hs1
                clear hl1
                go_wp2_with fail
                go_quiet (fail)
                go_wp2_with fail
                go_roundw
                case rel => exact ⟨j + 1, by omega, by go_num, by rw [hs1.out]; rfl, hz.trans ⟨rfl, rfl, rfl, Nat.le_refl _, fun _ _ => rfl⟩⟩
                case measure => simp [intOf]; omega
            · obtain rfl : j = 16 := by omega
              rw [hs.out]
              go_wp2_with (go_at_call 17; refine (known06 _).mono ?_; rintro e w9 ⟨rfl, hk⟩)
              go_ret
              exact ⟨rfl, hall.then (hz.then hk)⟩
end Go.Proofs.Ytcbhpmpjabbniaa
