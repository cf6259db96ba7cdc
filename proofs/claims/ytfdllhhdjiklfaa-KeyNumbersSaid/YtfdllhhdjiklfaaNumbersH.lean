/- The law on numbers: its walk. -/
import Derived.Test.YtfdllhhdjiklfaaRefK
import Derived.Test.YtfdllhhdjiklfaaKnown8
import Derived.Deep.RegionHeld3
import Derived.Deep.AppendLies
namespace Go.Proofs.Ytfdllhhdjiklfaa
open Go.RowKit
set_option linter.unusedVariables false
set_option maxRecDepth 100000
set_option linter.unusedSimpArgs false

theorem chkE_zero (b : Bool) : (chkE b == 0) = b := by cases b <;> rfl
attribute [local go_sem ↓] loadCells_blk
attribute [local go_sem] run_blkLoad rowAt_drew rowAt_old rowAt_new size_bcells bc_whole
set_option maxHeartbeats 16000000 in
theorem keyNumbers_walk (s : ByteArray) (h : Bs 32) (j : Int) (w : World) :
    Calls Try.prog 7 #[.string s, .agg (bcells h), .int .i64 j] w fun r w' => r = .returned (.bool true) ∧ Ext w w' := by
  have hHh := heap_alloc_new w (.cells (bcells h) 23)
  have hx := ext_alloc w (.cells (bcells h) 23)
  have rH := rowAt_whole hHh (size_bcells h)
  clear hHh
  replace hx := hide hx
  by_cases h1 : 100 < s.size
  · have d0 : decide ((100 : Int) < s.size) = true := by simp; omega
    have d0' : decide (100 < s.size) = true := by simpa using h1
    go_enter Try.func7, Try.ntmps7
    go_wp2_with (go_at_call 9; (with_reducible refine (known08 _).mono ?_); rintro r w6 ⟨rfl, hx6⟩)
    go_ret
    exact ⟨rfl, hx.out.then hx6⟩
  · have d0 : decide ((100 : Int) < s.size) = false := by simp; omega
    have d0' : decide (100 < s.size) = false := by simpa using h1
    by_cases h2 : j < 0
    · have d1 : decide (j < 0) = true := by simpa using h2
      go_enter Try.func7, Try.ntmps7
      go_wp2_with (go_at_call 9; (with_reducible refine (known08 _).mono ?_); rintro r w6 ⟨rfl, hx6⟩)
      go_ret
      exact ⟨rfl, hx.out.then hx6⟩
    · have d1 : decide (j < 0) = false := by simpa using h2
      by_cases h3 : 15 < j
      · have d2 : decide ((15 : Int) < j) = true := by simpa using h3
        go_enter Try.func7, Try.ntmps7
        go_wp2_with (go_at_call 9; (with_reducible refine (known08 _).mono ?_); rintro r w6 ⟨rfl, hx6⟩)
        go_ret
        exact ⟨rfl, hx.out.then hx6⟩
      · obtain ⟨j, rfl⟩ := Int.eq_ofNat_of_zero_le (show 0 ≤ j by omega)
        have d2 : decide ((15 : Int) < j) = false := by simpa using h3
        have d3 : decide (15 < j) = false := by simp; omega
        have hj : j < 16 := by omega
        have hs : s.size ≤ maxLen := by unfold maxLen; omega
        have hSd := fun w' => seed_any s w' hs
        generalize hashB s.data.toList = seed at *
        have hMk := fun w' => keyMake_any seed w'
        have hRt := fun b w' hk => root_any' b seed w' hk
        replace hSd := hide hSd
        replace hMk := hide hMk
        replace hRt := hide hRt
        replace hs := hide hs
        clear h1 h2 h3
        go_enter Try.func7, Try.ntmps7
        go_wp2_with (first
          | (go_at_call 10; (with_reducible refine (hSd.out _).mono ?_); rintro r w1 ⟨rfl, hx1⟩; have rH1 := rowAt_ext hx1 rH)
          | (go_at_call 12; (with_reducible refine (hMk.out _).mono ?_); rintro r w2 ⟨rfl, hk2, hx2⟩; have rH2 := rowAt_ext hx2 rH1; have hg1 := lt_of_row rH1; have hN : w.heap.size ≤ w1.heap.size + 1 := Nat.le_succ_of_le (Nat.le_trans hx.out.size hx1.size); have hx2 := hide (hx.out.then (hx1.then hx2))))
        have hx2 := hx2.out
        obtain ⟨N, eN⟩ : ∃ N, N = w1.heap.size + 1 := ⟨_, rfl⟩
        have hNne : w.heap.size ≠ N := by omega
        rw [← eN] at hk2 hN ⊢
        clear rH rH1 hx hg1 hx1 hSd hMk
        replace eN := hide eN
        go_loopw [8] (fun s8 wr => ∃ i : Nat, i ≤ 16 ∧ s8 = .int .i64 i ∧ KeyIs wr N seed ∧ rowAt wr w.heap.size 0 32 = some (bcells h) ∧ Ext w wr) (fun i _ => 16 - (intOf i).toNat)
        case atStart => exact ⟨0, by omega, rfl, hk2, rH2, hx2⟩
        case round =>
          clear hk2 rH2 hx2
          obtain ⟨i, hi, rfl, hk, rH, hx⟩ := hrel
          obtain ⟨w3, rfl⟩ : ∃ v, v = wr := ⟨_, rfl⟩
          by_cases hlt : i < 16
          · have hlt' : (i : Int) < 16 := by omega
            have hi0 : (0 : Int) ≤ i := by omega
            have hSg := keySign_any N seed i hlt h w3 hk
            have hCk := fun a cap w' h1 h2 h3 => check_any (keyB seed) h i hlt a cap (sigB seed i h) w' h1 h2 h3
            rw [chk_sig seed i hlt h] at hCk
            have hCj := fun a cap w' h1 h2 h3 => check_any (keyB seed) h j hj a cap (sigB seed i h) w' h1 h2 h3
            have hVj := fun a cap w' h1 h3 => refCheck_any (keyB seed) h j hj a cap (sigB seed i h) w' h1 h3
            generalize bsEq (rootC (sigB seed i h) j h) (keyB seed) = B at *
            generalize sigB seed i h = c at *
            generalize keyB seed = R at *
            have hNs := hk.lt
            have hB0 := chkE_zero B
            obtain ⟨E, hE⟩ : ∃ E, chkE B = E := ⟨_, rfl⟩
            rw [hE] at hB0 hCj
            replace hE := hide hE
            replace hSg := hide hSg
            replace hCk := hide hCk
            replace hCj := hide hCj
            replace hVj := hide hVj
            replace hx := hide hx
            clear hk
            go_wp2_with (go_at_call 16; (with_reducible refine hSg.out.mono ?_); rintro r w4 ⟨⟨v, rfl, hown⟩, hR4, hB4⟩; obtain ⟨g, cap, rfl, hc1, hc2, hb4, hg⟩ := own_sig hown; have rH4 := hB4.row rH hNne; have hx4 := hide (But.top hx.out hB4 hN); clear hown)
            have hkD : KeyIs w4.drew N seed := .inr hR4.drew
            have hbD := hb4.ext (ext_drew w4)
            have hxD := hide (hx4.out.then (ext_drew w4))
            have hgN : g ≠ N := by omega
            clear hR4 hb4 hx4 hx rH hSg hB4
            replace hkD := hide hkD
            replace hbD := hide hbD
            have hu := Try.underlying23
            have hiH := info_hash h
            have hS : ∀ w' : World, rowAt w' w.heap.size 0 32 = some (bcells h) → w'.rangeAt w.heap.size 0 (bcells h).toList := fun w' h => range_of_row h
            replace hS := hide hS
            refine wp_region_held_drew (S := (fun w' => w'.rangeAt w.heap.size 0 (bcells h).toList)) (by kernel_rfl) (hS.out _ rH4) (fun hHeld => ?_)
            (refine wpAnyH_take (i := 0) (v := ?_) (by simp only [List.getElem?_toArray, List.getElem?_cons_succ, List.getElem?_cons_zero]; exact rfl) (by kernel_rfl) (by kernel_rfl) (by kernel_rfl) (by exact fun _ _ _ h => h) (Or.inl ⟨by rfl, ?_⟩) (by assumption) ?_; rotate_left; (intro wz hSz; go_simp; try (with_reducible rfl)); simp only [Act.put, List.setIfInBounds_toArray, List.set_cons_zero, List.set_cons_succ])
            (refine wpAnyH_take (i := 1) (v := ?_) (by simp only [List.getElem?_toArray, List.getElem?_cons_succ, List.getElem?_cons_zero]; exact rfl) (by kernel_rfl) (by kernel_rfl) (by kernel_rfl) (by exact fun _ _ _ h => h) (Or.inl ⟨by rfl, ?_⟩) (by assumption) ?_; rotate_left; (intro wz hSz; go_simp; try (with_reducible rfl)); simp only [Act.put, List.setIfInBounds_toArray, List.set_cons_zero, List.set_cons_succ])
            (refine wpAnyH_take (i := 2) (v := ?_) (by simp only [List.getElem?_toArray, List.getElem?_cons_succ, List.getElem?_cons_zero]; exact rfl) (by kernel_rfl) (by kernel_rfl) (by kernel_rfl) (by exact fun _ _ _ h => h) (Or.inl ⟨by rfl, ?_⟩) (by assumption) ?_; rotate_left; (intro wz hSz; go_simp; try (with_reducible rfl)); simp only [Act.put, List.setIfInBounds_toArray, List.set_cons_zero, List.set_cons_succ])
            (refine wpAnyH_take (i := 3) (v := ?_) (by simp only [List.getElem?_toArray, List.getElem?_cons_succ, List.getElem?_cons_zero]; exact rfl) (by kernel_rfl) (by kernel_rfl) (by kernel_rfl) (by exact fun _ _ _ h => h) (Or.inl ⟨by rfl, ?_⟩) (by assumption) ?_; rotate_left; (intro wz hSz; go_simp; try (with_reducible rfl)); simp only [Act.put, List.setIfInBounds_toArray, List.set_cons_zero, List.set_cons_succ])
            (refine wpAnyH_take (i := 5) (v := ?_) (by simp only [List.getElem?_toArray, List.getElem?_cons_succ, List.getElem?_cons_zero]; exact rfl) (by kernel_rfl) (by kernel_rfl) (by kernel_rfl) (by exact fun _ _ _ h => h) (Or.inl ⟨by rfl, ?_⟩) (by assumption) ?_; rotate_left; (intro wz hSz; go_simp; try (with_reducible rfl)); simp only [Act.put, List.setIfInBounds_toArray, List.set_cons_zero, List.set_cons_succ])
            (refine wpAnyH_take (i := 6) (v := _) (by simp only [List.getElem?_toArray, List.getElem?_cons_succ, List.getElem?_cons_zero]; exact rfl) (by kernel_rfl) (by kernel_rfl) (by kernel_rfl) (by exact fun _ _ _ h => h) (yieldsIf_load_mid (by rfl) _ _ rfl _ _ rfl _ _ (by (intro wz hSz; (try dsimp only at hSz); go_split_ands; assumption)) hu rfl hiH) (by assumption) ?_; simp only [Act.put, List.setIfInBounds_toArray, List.set_cons_zero, List.set_cons_succ, Array.toArray_toList])
            (refine wpAnyH_take (i := 7) (v := ?_) (by simp only [List.getElem?_toArray, List.getElem?_cons_succ, List.getElem?_cons_zero]; exact rfl) (by kernel_rfl) (by kernel_rfl) (by kernel_rfl) (by exact fun _ _ _ h => h) (Or.inl ⟨by rfl, ?_⟩) (by assumption) ?_; rotate_left; (intro wz hSz; go_simp; try (with_reducible rfl)); simp only [Act.put, List.setIfInBounds_toArray, List.set_cons_zero, List.set_cons_succ])
            refine wpAnyH_ready (rs := [4]) (by kernel_rfl) (by simp) (AllReadyH.cons (o := _) (by simp only [List.getElem?_toArray, List.getElem?_cons_succ, List.getElem?_cons_zero]; exact rfl) (fun K' hK' => ?_) AllReadyH.nil)
            go_simp
            go_at_call 14
            (with_reducible refine (hRt.out N _ hkD.out).mono ?_)
            rintro r w5 ⟨rfl, hR5, hB5⟩
            have rH5 := hB5.row (show rowAt w4.drew _ _ _ = _ from rH4) hNne
            have hb5 := hide (hB5.bytes hbD.out (fun ad e => by obtain rfl := Option.some.inj e; show g ≠ N; omega))
            have hx5 := hide (But.top hxD.out hB5 hN)
            replace hR5 := hide hR5
            go_wp2_with fail
            refine hK'.out _ _ (hS.out _ rH5) (fun hHeld => ?_)
            clear hK' K'
            try simp only [Act.put, List.setIfInBounds_toArray, List.set_cons_zero, List.set_cons_succ]
            refine wpAnyH_ready (rs := [8]) (by kernel_rfl) (by simp) (AllReadyH.cons (o := _) (by simp only [List.getElem?_toArray, List.getElem?_cons_succ, List.getElem?_cons_zero]; exact rfl) (fun K' hK' => ?_) AllReadyH.nil)
            go_simp
            go_at_call 18
            (with_reducible refine (hCk.out _ cap _ hc1 hc2 hb5.out).mono ?_)
            rintro r w6 ⟨rfl, hx6⟩
            have rH6 := rowAt_ext hx6 rH5
            have hb6 := hide (hb5.out.ext hx6)
            have hk6 := hide (show KeyIs w6 N seed from .inr (hR5.out.ext hx6))
            have hx6 := hide (hx5.out.then hx6)
            go_wp2_with fail
            refine hK'.out _ _ (hS.out _ rH6) (fun hHeld => ?_)
            clear hK' K'
            try simp only [Act.put, List.setIfInBounds_toArray, List.set_cons_zero, List.set_cons_succ]
            (refine wpAnyH_take (i := 9) (v := ?_) (by simp only [List.getElem?_toArray, List.getElem?_cons_succ, List.getElem?_cons_zero]; exact rfl) (by kernel_rfl) (by kernel_rfl) (by kernel_rfl) (by exact fun _ _ _ h => h) (Or.inl ⟨by rfl, ?_⟩) (by assumption) ?_; rotate_left; (intro wz hSz; go_simp; try (with_reducible rfl)); simp only [Act.put, List.setIfInBounds_toArray, List.set_cons_zero, List.set_cons_succ])
            (refine wpAnyH_take (i := 10) (v := ?_) (by simp only [List.getElem?_toArray, List.getElem?_cons_succ, List.getElem?_cons_zero]; exact rfl) (by kernel_rfl) (by kernel_rfl) (by kernel_rfl) (by exact fun _ _ _ h => h) (Or.inl ⟨by rfl, ?_⟩) (by assumption) ?_; rotate_left; (intro wz hSz; go_simp; try (with_reducible rfl)); simp only [Act.put, List.setIfInBounds_toArray, List.set_cons_zero, List.set_cons_succ])
            (refine wpAnyH_take (i := 11) (v := ?_) (by simp only [List.getElem?_toArray, List.getElem?_cons_succ, List.getElem?_cons_zero]; exact rfl) (by kernel_rfl) (by kernel_rfl) (by kernel_rfl) (by exact fun _ _ _ h => h) (Or.inl ⟨by rfl, ?_⟩) (by assumption) ?_; rotate_left; (intro wz hSz; go_simp; try (with_reducible rfl)); simp only [Act.put, List.setIfInBounds_toArray, List.set_cons_zero, List.set_cons_succ])
            (refine wpAnyH_take (i := 12) (v := ?_) (by simp only [List.getElem?_toArray, List.getElem?_cons_succ, List.getElem?_cons_zero]; exact rfl) (by kernel_rfl) (by kernel_rfl) (by kernel_rfl) (by exact fun _ _ _ h => h) (Or.inl ⟨by rfl, ?_⟩) (by assumption) ?_; rotate_left; (intro wz hSz; go_simp; try (with_reducible rfl)); simp only [Act.put, List.setIfInBounds_toArray, List.set_cons_zero, List.set_cons_succ])
            (refine wpAnyH_take (i := 14) (v := ?_) (by simp only [List.getElem?_toArray, List.getElem?_cons_succ, List.getElem?_cons_zero]; exact rfl) (by kernel_rfl) (by kernel_rfl) (by kernel_rfl) (by exact fun _ _ _ h => h) (Or.inl ⟨by rfl, ?_⟩) (by assumption) ?_; rotate_left; (intro wz hSz; go_simp; try (with_reducible rfl)); simp only [Act.put, List.setIfInBounds_toArray, List.set_cons_zero, List.set_cons_succ])
            (refine wpAnyH_take (i := 15) (v := _) (by simp only [List.getElem?_toArray, List.getElem?_cons_succ, List.getElem?_cons_zero]; exact rfl) (by kernel_rfl) (by kernel_rfl) (by kernel_rfl) (by exact fun _ _ _ h => h) (yieldsIf_load_mid (by rfl) _ _ rfl _ _ rfl _ _ (by (intro wz hSz; (try dsimp only at hSz); go_split_ands; assumption)) hu rfl hiH) (by assumption) ?_; simp only [Act.put, List.setIfInBounds_toArray, List.set_cons_zero, List.set_cons_succ, Array.toArray_toList])
            (refine wpAnyH_take (i := 16) (v := ?_) (by simp only [List.getElem?_toArray, List.getElem?_cons_succ, List.getElem?_cons_zero]; exact rfl) (by kernel_rfl) (by kernel_rfl) (by kernel_rfl) (by exact fun _ _ _ h => h) (Or.inl ⟨by rfl, ?_⟩) (by assumption) ?_; rotate_left; (intro wz hSz; go_simp; try (with_reducible rfl)); simp only [Act.put, List.setIfInBounds_toArray, List.set_cons_zero, List.set_cons_succ])
            (refine wpAnyH_take (i := 19) (v := ?_) (by simp only [List.getElem?_toArray, List.getElem?_cons_succ, List.getElem?_cons_zero]; exact rfl) (by kernel_rfl) (by kernel_rfl) (by kernel_rfl) (by exact fun _ _ _ h => h) (Or.inl ⟨by rfl, ?_⟩) (by assumption) ?_; rotate_left; (intro wz hSz; go_simp; try (with_reducible rfl)); simp only [Act.put, List.setIfInBounds_toArray, List.set_cons_zero, List.set_cons_succ])
            (refine wpAnyH_take (i := 21) (v := ?_) (by simp only [List.getElem?_toArray, List.getElem?_cons_succ, List.getElem?_cons_zero]; exact rfl) (by kernel_rfl) (by kernel_rfl) (by kernel_rfl) (by exact fun _ _ _ h => h) (Or.inl ⟨by rfl, ?_⟩) (by assumption) ?_; rotate_left; (intro wz hSz; go_simp; try (with_reducible rfl)); simp only [Act.put, List.setIfInBounds_toArray, List.set_cons_zero, List.set_cons_succ])
            (refine wpAnyH_take (i := 22) (v := _) (by simp only [List.getElem?_toArray, List.getElem?_cons_succ, List.getElem?_cons_zero]; exact rfl) (by kernel_rfl) (by kernel_rfl) (by kernel_rfl) (by exact fun _ _ _ h => h) (yieldsIf_load_mid (by rfl) _ _ rfl _ _ rfl _ _ (by (intro wz hSz; (try dsimp only at hSz); go_split_ands; assumption)) hu rfl hiH) (by assumption) ?_; simp only [Act.put, List.setIfInBounds_toArray, List.set_cons_zero, List.set_cons_succ, Array.toArray_toList])
            (refine wpAnyH_take (i := 23) (v := ?_) (by simp only [List.getElem?_toArray, List.getElem?_cons_succ, List.getElem?_cons_zero]; exact rfl) (by kernel_rfl) (by kernel_rfl) (by kernel_rfl) (by exact fun _ _ _ h => h) (Or.inl ⟨by rfl, ?_⟩) (by assumption) ?_; rotate_left; (intro wz hSz; go_simp; try (with_reducible rfl)); simp only [Act.put, List.setIfInBounds_toArray, List.set_cons_zero, List.set_cons_succ])
            refine wpAnyH_ready (rs := [13]) (by kernel_rfl) (by simp) (AllReadyH.cons (o := _) (by simp only [List.getElem?_toArray, List.getElem?_cons_succ, List.getElem?_cons_zero]; exact rfl) (fun K' hK' => ?_) AllReadyH.nil)
            go_simp
            go_at_call 14
            (with_reducible refine (hRt.out N _ hk6.out).mono ?_)
            rintro r w7 ⟨rfl, hR7, hB7⟩
            have rH7 := hB7.row rH6 hNne
            have hb7 := hide (hB7.bytes hb6.out (fun ad e => by obtain rfl := Option.some.inj e; show g ≠ N; omega))
            have hx7 := hide (But.top hx6.out hB7 hN)
            replace hR7 := hide hR7
            go_wp2_with fail
            refine hK'.out _ _ (hS.out _ rH7) (fun hHeld => ?_)
            clear hK' K'
            try simp only [Act.put, List.setIfInBounds_toArray, List.set_cons_zero, List.set_cons_succ]
            refine wpAnyH_ready (rs := [17]) (by kernel_rfl) (by simp) (AllReadyH.cons (o := _) (by simp only [List.getElem?_toArray, List.getElem?_cons_succ, List.getElem?_cons_zero]; exact rfl) (fun K' hK' => ?_) AllReadyH.nil)
            go_simp
            go_at_call 18
            (with_reducible refine (hCj.out _ cap _ hc1 hc2 hb7.out).mono ?_)
            rintro r w8 ⟨rfl, hx8⟩
            have rH8 := rowAt_ext hx8 rH7
            have hb8 := hide (hb7.out.ext hx8)
            have hk8 := hide (show KeyIs w8 N seed from .inr (hR7.out.ext hx8))
            have hx8 := hide (hx7.out.then hx8)
            go_wp2_with fail
            refine hK'.out _ _ (hS.out _ rH8) (fun hHeld => ?_)
            clear hK' K'
            try simp only [Act.put, List.setIfInBounds_toArray, List.set_cons_zero, List.set_cons_succ]
            (refine wpAnyH_take (i := 18) (v := ?_) (by simp only [List.getElem?_toArray, List.getElem?_cons_succ, List.getElem?_cons_zero]; exact rfl) (by kernel_rfl) (by kernel_rfl) (by kernel_rfl) (by exact fun _ _ _ h => h) (Or.inl ⟨by rfl, ?_⟩) (by assumption) ?_; rotate_left; (intro wz hSz; go_simp; try (with_reducible rfl)); simp only [Act.put, List.setIfInBounds_toArray, List.set_cons_zero, List.set_cons_succ])
            refine wpAnyH_ready (rs := [20]) (by kernel_rfl) (by simp) (AllReadyH.cons (o := _) (by simp only [List.getElem?_toArray, List.getElem?_cons_succ, List.getElem?_cons_zero]; exact rfl) (fun K' hK' => ?_) AllReadyH.nil)
            go_simp
            go_at_call 14
            (with_reducible refine (hRt.out N _ hk8.out).mono ?_)
            rintro r w9 ⟨rfl, hR9, hB9⟩
            have rH9 := hB9.row rH8 hNne
            have hb9 := hide (hB9.bytes hb8.out (fun ad e => by obtain rfl := Option.some.inj e; show g ≠ N; omega))
            have hx9 := hide (But.top hx8.out hB9 hN)
            replace hR9 := hide hR9
            go_wp2_with fail
            refine hK'.out _ _ (hS.out _ rH9) (fun hHeld => ?_)
            clear hK' K'
            try simp only [Act.put, List.setIfInBounds_toArray, List.set_cons_zero, List.set_cons_succ]
            refine wpAnyH_ready (rs := [24]) (by kernel_rfl) (by simp) (AllReadyH.cons (o := _) (by simp only [List.getElem?_toArray, List.getElem?_cons_succ, List.getElem?_cons_zero]; exact rfl) (fun K' hK' => ?_) AllReadyH.nil)
            go_simp
            go_at_call 19
            (with_reducible refine (hVj.out _ cap _ hc1 hb9.out).mono ?_)
            rintro r w10 ⟨rfl, hx10⟩
            have rH10 := rowAt_ext hx10 rH9
            have hk10 := hide (show KeyIs w10 N seed from .inr (hR9.out.ext hx10))
            have hx10 := hide (hx9.out.then hx10)
            go_wp2_with fail
            refine hK'.out _ _ (hS.out _ rH10) (fun hHeld => ?_)
            clear hK' K'
            try simp only [Act.put, List.setIfInBounds_toArray, List.set_cons_zero, List.set_cons_succ]
            (refine wpAnyH_take (i := 25) (v := ?_) (by simp only [List.getElem?_toArray, List.getElem?_cons_succ, List.getElem?_cons_zero]; exact rfl) (by kernel_rfl) (by kernel_rfl) (by kernel_rfl) (by exact fun _ _ _ h => h) (Or.inl ⟨by rfl, ?_⟩) (by assumption) ?_; rotate_left; (intro wz hSz; go_simp; try (with_reducible rfl)); simp only [Act.put, List.setIfInBounds_toArray, List.set_cons_zero, List.set_cons_succ])
            (refine wpAnyH_take (i := 26) (v := ?_) (by simp only [List.getElem?_toArray, List.getElem?_cons_succ, List.getElem?_cons_zero]; exact rfl) (by kernel_rfl) (by kernel_rfl) (by kernel_rfl) (by exact fun _ _ _ h => h) (Or.inl ⟨by rfl, ?_⟩) (by assumption) ?_; rotate_left; (intro wz hSz; go_simp; try (with_reducible rfl)); simp only [Act.put, List.setIfInBounds_toArray, List.set_cons_zero, List.set_cons_succ])
            refine wpAnyH_done (by kernel_rfl) ?_ _
            replace hB0 := hide hB0
            cases B
            all_goals
              go_wp2_with fail
              go_roundw
              case rel => exact ⟨i + 1, by omega, by go_num, hk10.out, rH10, hx10.out⟩
              case measure => simp [intOf]; omega
          · obtain rfl : i = 16 := by omega
            replace hk := hide hk
            go_wp2_with (go_at_call 9; (with_reducible refine (known08 _).mono ?_); rintro r w6 ⟨rfl, hx6⟩)
            go_ret
            exact ⟨rfl, hx.then hx6⟩
end Go.Proofs.Ytfdllhhdjiklfaa
