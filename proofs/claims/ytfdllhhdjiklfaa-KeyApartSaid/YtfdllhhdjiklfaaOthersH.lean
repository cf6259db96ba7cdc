/- The law on other roots: its walk. -/
import Derived.Test.YtfdllhhdjiklfaaKnown8
import Derived.Deep.RegionHeld3
import Derived.Deep.AppendLies
namespace Go.Proofs.Ytfdllhhdjiklfaa
open Go.RowKit
set_option linter.unusedVariables false
set_option maxRecDepth 100000
set_option linter.unusedSimpArgs false

theorem bsEq_comm {n : Nat} (a b : Bs n) : bsEq a b = bsEq b a := by
  cases h : bsEq a b
  · cases h2 : bsEq b a
    · rfl
    · rw [bsEq_iff] at h2; rw [h2, bsEq_self] at h; cases h
  · rw [bsEq_iff] at h; rw [h, bsEq_self]
theorem KeyIs.at {w : World} {b : Nat} {seed : Bs 32} (h : KeyIs w b seed) : ∃ d m lv root, KeyAt w b seed d m lv root := by
  rcases h with h | ⟨g, cp, h, _⟩
  · exact ⟨_, _, _, _, h⟩
  · exact ⟨_, _, _, _, h⟩
/-- A key is as it was when another one is reckoned. -/
theorem KeyIs.other {w w' : World} {b g : Nat} {seed s2 : Bs 32} (h : KeyIs w b seed) (hg : KeyIs w g s2) (hB : But g w w') (hne : b ≠ g) : KeyIs w' b seed := by
  obtain ⟨d, m, lv, root, hK⟩ := hg.at
  rcases h with h | ⟨q, cp, h1, h2, h3, h4, h5⟩
  · exact .inl (h.other hB hne)
  · have hq : q ≠ g := by
      intro e
      subst e
      obtain ⟨ad, e1, e2⟩ := h5 (by omega)
      obtain rfl := Option.some.inj e1
      obtain ⟨ad', e3, e4⟩ := (e2 15 (by omega)).2 (by omega)
      obtain rfl := Option.some.inj e3
      have := e4 0 (by omega)
      rw [add_flat, add_flat, cell_of_row _ _ _ _ _ _ hK, Array.getElem?_eq_none (by rw [size_kcells]; omega)] at this
      cases this
    exact .inr ⟨q, cp, h1.other hB hne, h2, h3, h4, hB.hashes h5 (fun ad e => by obtain rfl := Option.some.inj e; exact hq)⟩
/-- What stands while two keys are asked. -/
structure OthersAt (w0 : World) (N M g : Nat) (sd se h root : Bs 32) (c : List UInt8) (w : World) : Prop where
  kN : KeyIs w N sd
  kM : KeyIs w M se
  rH : rowAt w w0.heap.size 0 32 = some (bcells h)
  rR : rowAt w (w0.heap.size + 1) 0 32 = some (bcells root)
  sg : BytesIn w (some ⟨g, 0, none⟩) 1216 c
  ex : Ext w0 w
theorem OthersAt.ext {w0 w w' : World} {N M g : Nat} {sd se h root : Bs 32} {c : List UInt8} (o : OthersAt w0 N M g sd se h root c w) (hx : Ext w w') : OthersAt w0 N M g sd se h root c w' :=
  ⟨o.kN.ext hx, o.kM.ext hx, rowAt_ext hx o.rH, rowAt_ext hx o.rR, o.sg.ext hx, o.ex.then hx⟩
theorem OthersAt.askN {w0 w w' : World} {N M g : Nat} {sd se h root : Bs 32} {c : List UInt8} (o : OthersAt w0 N M g sd se h root c w) (hf : w0.heap.size + 1 < N ∧ N < M ∧ g ≠ N ∧ g ≠ M) (hR : Reckoned N sd 1 0 w') (hB : But N w w') : OthersAt w0 N M g sd se h root c w' :=
  ⟨.inr hR, o.kM.other o.kN hB (by omega), hB.row o.rH (by omega), hB.row o.rR (by omega), hB.bytes o.sg (fun ad e => by obtain rfl := Option.some.inj e; exact hf.2.2.1), But.top o.ex hB (by omega)⟩
theorem OthersAt.askM {w0 w w' : World} {N M g : Nat} {sd se h root : Bs 32} {c : List UInt8} (o : OthersAt w0 N M g sd se h root c w) (hf : w0.heap.size + 1 < N ∧ N < M ∧ g ≠ N ∧ g ≠ M) (hR : Reckoned M se 1 0 w') (hB : But M w w') : OthersAt w0 N M g sd se h root c w' :=
  ⟨o.kN.other o.kM hB (by omega), .inr hR, hB.row o.rH (by omega), hB.row o.rR (by omega), hB.bytes o.sg (fun ad e => by obtain rfl := Option.some.inj e; exact hf.2.2.2), But.top o.ex hB (by omega)⟩
attribute [local go_sem ↓] loadCells_blk
attribute [local go_sem] run_blkLoad rowAt_drew rowAt_old rowAt_new size_bcells bc_whole equal_hash
set_option maxHeartbeats 16000000 in
theorem keyOthers_walk (s s2 : ByteArray) (i : Int) (h root : Bs 32) (w : World) :
    Calls Try.prog 6 #[.string s, .int .i64 i, .agg (bcells h), .agg (bcells root), .string s2] w fun r w' => r = .returned (.bool true) ∧ Ext w w' := by
  have hH := heap_alloc2_old w (.cells (bcells h) 23) (.cells (bcells root) 23)
  have hRt := heap_alloc2_new w (.cells (bcells h) 23) (.cells (bcells root) 23)
  have hx := ext_two w (.cells (bcells h) 23) (.cells (bcells root) 23)
  have rH := rowAt_whole hH (size_bcells h)
  have rR := rowAt_whole hRt (size_bcells root)
  clear hH hRt
  replace hx := hide hx
  by_cases h1 : 100 < s.size
  · have d0 : decide ((100 : Int) < s.size) = true := by simp; omega
    have d0' : decide (100 < s.size) = true := by simpa using h1
    go_enter Try.func6, Try.ntmps6; go_wp2_with (go_at_call 9; (with_reducible refine (known08 _).mono ?_); rintro r wk ⟨rfl, hxk⟩); go_ret; exact ⟨rfl, hx.out.then hxk⟩
  · have d0 : decide ((100 : Int) < s.size) = false := by simp; omega
    have d0' : decide (100 < s.size) = false := by simpa using h1
    by_cases h2 : 100 < s2.size
    · have d1 : decide ((100 : Int) < s2.size) = true := by simp; omega
      have d1' : decide (100 < s2.size) = true := by simpa using h2
      go_enter Try.func6, Try.ntmps6; go_wp2_with (go_at_call 9; (with_reducible refine (known08 _).mono ?_); rintro r wk ⟨rfl, hxk⟩); go_ret; exact ⟨rfl, hx.out.then hxk⟩
    · have d1 : decide ((100 : Int) < s2.size) = false := by simp; omega
      have d1' : decide (100 < s2.size) = false := by simpa using h2
      by_cases h3 : i < 0
      · have d2 : decide (i < 0) = true := by simpa using h3
        go_enter Try.func6, Try.ntmps6; go_wp2_with (go_at_call 9; (with_reducible refine (known08 _).mono ?_); rintro r wk ⟨rfl, hxk⟩); go_ret; exact ⟨rfl, hx.out.then hxk⟩
      · have d2 : decide (i < 0) = false := by simpa using h3
        by_cases h4 : 15 < i
        · have d3 : decide ((15 : Int) < i) = true := by simpa using h4
          go_enter Try.func6, Try.ntmps6; go_wp2_with (go_at_call 9; (with_reducible refine (known08 _).mono ?_); rintro r wk ⟨rfl, hxk⟩); go_ret; exact ⟨rfl, hx.out.then hxk⟩
        · obtain ⟨i, rfl⟩ := Int.eq_ofNat_of_zero_le (show 0 ≤ i by omega)
          have d3 : decide ((15 : Int) < i) = false := by simpa using h4
          have d4 : decide (15 < i) = false := by simp; omega
          have hi : i < 16 := by omega
          have hs : s.size ≤ maxLen := by unfold maxLen; omega
          have hs2 : s2.size ≤ maxLen := by unfold maxLen; omega
          have hSd := fun w' => seed_any s w' hs
          have hSe := fun w' => seed_any s2 w' hs2
          generalize hashB s.data.toList = sd at *
          generalize hashB s2.data.toList = se at *
          have hMd := fun w' => keyMake_any sd w'
          have hMe := fun w' => keyMake_any se w'
          have hRd := fun b w' hk => root_any' b sd w' hk
          have hRe := fun b w' hk => root_any' b se w' hk
          have hSg := fun b w' hk => keySign_any b sd i hi h w' hk
          have hC1 := fun a cap w' h1 h2 h3 => check_any root h i hi a cap (sigB sd i h) w' h1 h2 h3
          have hC2 := fun a cap w' h1 h2 h3 => check_any (keyB se) h i hi a cap (sigB sd i h) w' h1 h2 h3
          have hC3 := fun a cap w' h1 h2 h3 => check_any (keyB sd) h i hi a cap (sigB sd i h) w' h1 h2 h3
          rw [chk_sig sd i hi h] at hC3
          rw [root_sig sd i hi h, bsEq_comm] at hC1 hC2
          generalize hB1e : bsEq root (keyB sd) = B1 at *
          generalize hB2e : bsEq (keyB se) (keyB sd) = B2 at *
          generalize sigB sd i h = c at *
          generalize keyB sd = R at *
          generalize keyB se = R2 at *
          replace hSd := hide hSd
          replace hSe := hide hSe
          replace hMd := hide hMd
          replace hMe := hide hMe
          replace hRd := hide hRd
          replace hRe := hide hRe
          replace hSg := hide hSg
          replace hs := hide hs
          replace hs2 := hide hs2
          replace hC3 := hide hC3
          clear h1 h2 h3 h4
          go_enter Try.func6, Try.ntmps6
          go_upto_region 4 with (first
            | (go_at_call 10; (with_reducible refine (hSd.out _).mono ?_); rintro r w1 ⟨rfl, hx1⟩; replace hx1 := hide hx1)
            | (go_at_call 12; (with_reducible refine (hMd.out _).mono ?_); rintro r w2 ⟨rfl, hk2, hx2⟩; replace hk2 := hide hk2; replace hx2 := hide hx2)
            | (go_at_call 10; (with_reducible refine (hSe.out _).mono ?_); rintro r w3 ⟨rfl, hx3⟩; replace hx3 := hide hx3)
            | (go_at_call 12; (with_reducible refine (hMe.out _).mono ?_); rintro r w4 ⟨rfl, hk4, hx4⟩; replace hk4 := hide hk4; replace hx4 := hide hx4))
          have hsz0 : ((w.alloc (.cells (bcells h) 23)).alloc (.cells (bcells root) 23)).heap.size = w.heap.size + 1 + 1 := by simp
          have q1 := hx1.out.size
          have q2 := hk2.out.lt
          have q3 := hx3.out.size
          rw [hsz0] at q1
          have hE4 := hx1.out.then (hx2.out.then (hx3.out.then hx4.out))
          have rH4 := rowAt_ext hE4 rH
          have rR4 := rowAt_ext hE4 rR
          have hxw4 := hx.out.then hE4
          have kN4 := hk2.out.ext (hx3.out.then hx4.out)
          have kM4 := hk4.out
          obtain ⟨N, eN⟩ : ∃ N, N = w1.heap.size + 1 := ⟨_, rfl⟩
          obtain ⟨M, eM⟩ : ∃ M, M = w3.heap.size + 1 := ⟨_, rfl⟩
          have hf1 : w.heap.size + 1 < N := by omega
          have hf2 : N < M := by omega
          have hf3 : M < w4.heap.size := by rw [eM]; exact kM4.lt
          rw [← eN] at kN4 ⊢
          rw [← eM] at kM4 ⊢
          clear hk2 hk4 hx1 hx2 hx3 hx4 hE4 q1 q2 q3 hsz0 rH rR hx hSd hSe hMd hMe
          replace eN := hide eN
          replace eM := hide eM
          have hSg4 := hSg.out N w4 kN4
          replace hSg4 := hide hSg4
          replace kN4 := hide kN4
          replace kM4 := hide kM4
          replace hxw4 := hide hxw4
          clear hSg
          have hB1c : ∀ b : Bool, (chkE b == 0) = b := fun b => by cases b <;> rfl
          have hE1 := hB1c B1
          have hE2 := hB1c B2
          obtain ⟨E1, hE1e⟩ : ∃ E, chkE B1 = E := ⟨_, rfl⟩
          obtain ⟨E2, hE2e⟩ : ∃ E, chkE B2 = E := ⟨_, rfl⟩
          rw [hE1e] at hE1 hC1
          rw [hE2e] at hE2 hC2
          replace hE1e := hide hE1e
          replace hE2e := hide hE2e
          replace hC1 := hide hC1
          replace hC2 := hide hC2
          clear hB1c
          go_wp2_with (go_at_call 16; (with_reducible refine hSg4.out.mono ?_); rintro r w5 ⟨⟨v, rfl, hown⟩, hR5, hB5⟩; obtain ⟨g, cap, rfl, hc1, hc2, hb5, hg⟩ := own_sig hown; clear hown)
          have O5 : OthersAt w N M g sd se h root c w5 := ⟨.inr hR5, kM4.out.other kN4.out hB5 (by omega), hB5.row rH4 (by omega), hB5.row rR4 (by omega), hb5, But.top hxw4.out hB5 (by omega)⟩
          have hf : w.heap.size + 1 < N ∧ N < M ∧ g ≠ N ∧ g ≠ M := by omega
          have O5 := O5.ext (ext_drew w5)
          have rH5 : rowAt w5 w.heap.size 0 32 = some (bcells h) := O5.rH
          have rR5 : rowAt w5 (w.heap.size + 1) 0 32 = some (bcells root) := O5.rR
          replace O5 := hide O5
          replace hf := hide hf
          clear hR5 hB5 hb5 rH4 rR4 kN4 kM4 hxw4 hSg4
          have hu := Try.underlying23
          have hiH := info_hash h
          have hiR := info_hash root
          have hS : ∀ w' : World, rowAt w' w.heap.size 0 32 = some (bcells h) → rowAt w' (w.heap.size + 1) 0 32 = some (bcells root) → w'.rangeAt w.heap.size 0 (bcells h).toList ∧ w'.rangeAt (w.heap.size + 1) 0 (bcells root).toList := fun w' h1 h2 => ⟨range_of_row h1, range_of_row h2⟩
          replace hS := hide hS
          refine wp_region_held_drew (S := (fun w' => w'.rangeAt w.heap.size 0 (bcells h).toList ∧ w'.rangeAt (w.heap.size + 1) 0 (bcells root).toList)) (by kernel_rfl) (hS.out _ rH5 rR5) (fun hHeld => ?_)
          (refine wpAnyH_take (i := 0) (v := _) (by simp only [List.getElem?_toArray, List.getElem?_cons_succ, List.getElem?_cons_zero]; exact rfl) (by kernel_rfl) (by kernel_rfl) (by kernel_rfl) (by exact fun _ _ _ h => h) (yieldsIf_load_mid (by rfl) _ _ rfl _ _ rfl _ _ (by (intro wz hSz; (try dsimp only at hSz); go_split_ands; assumption)) hu rfl hiR) (by assumption) ?_; simp only [Act.put, List.setIfInBounds_toArray, List.set_cons_zero, List.set_cons_succ, Array.toArray_toList])
          (refine wpAnyH_take (i := 1) (v := ?_) (by simp only [List.getElem?_toArray, List.getElem?_cons_succ, List.getElem?_cons_zero]; exact rfl) (by kernel_rfl) (by kernel_rfl) (by kernel_rfl) (by exact fun _ _ _ h => h) (Or.inl ⟨by rfl, ?_⟩) (by assumption) ?_; rotate_left; (intro wz hSz; go_simp; try (with_reducible rfl)); simp only [Act.put, List.setIfInBounds_toArray, List.set_cons_zero, List.set_cons_succ])
          (refine wpAnyH_take (i := 2) (v := _) (by simp only [List.getElem?_toArray, List.getElem?_cons_succ, List.getElem?_cons_zero]; exact rfl) (by kernel_rfl) (by kernel_rfl) (by kernel_rfl) (by exact fun _ _ _ h => h) (yieldsIf_load_mid (by rfl) _ _ rfl _ _ rfl _ _ (by (intro wz hSz; (try dsimp only at hSz); go_split_ands; assumption)) hu rfl hiH) (by assumption) ?_; simp only [Act.put, List.setIfInBounds_toArray, List.set_cons_zero, List.set_cons_succ, Array.toArray_toList])
          (refine wpAnyH_take (i := 3) (v := ?_) (by simp only [List.getElem?_toArray, List.getElem?_cons_succ, List.getElem?_cons_zero]; exact rfl) (by kernel_rfl) (by kernel_rfl) (by kernel_rfl) (by exact fun _ _ _ h => h) (Or.inl ⟨by rfl, ?_⟩) (by assumption) ?_; rotate_left; (intro wz hSz; go_simp; try (with_reducible rfl)); simp only [Act.put, List.setIfInBounds_toArray, List.set_cons_zero, List.set_cons_succ])
          (refine wpAnyH_take (i := 6) (v := _) (by simp only [List.getElem?_toArray, List.getElem?_cons_succ, List.getElem?_cons_zero]; exact rfl) (by kernel_rfl) (by kernel_rfl) (by kernel_rfl) (by exact fun _ _ _ h => h) (yieldsIf_load_mid (by rfl) _ _ rfl _ _ rfl _ _ (by (intro wz hSz; (try dsimp only at hSz); go_split_ands; assumption)) hu rfl hiR) (by assumption) ?_; simp only [Act.put, List.setIfInBounds_toArray, List.set_cons_zero, List.set_cons_succ, Array.toArray_toList])
          (refine wpAnyH_take (i := 7) (v := ?_) (by simp only [List.getElem?_toArray, List.getElem?_cons_succ, List.getElem?_cons_zero]; exact rfl) (by kernel_rfl) (by kernel_rfl) (by kernel_rfl) (by exact fun _ _ _ h => h) (Or.inl ⟨by rfl, ?_⟩) (by assumption) ?_; rotate_left; (intro wz hSz; go_simp; try (with_reducible rfl)); simp only [Act.put, List.setIfInBounds_toArray, List.set_cons_zero, List.set_cons_succ])
          refine wpAnyH_ready (rs := [4]) (by kernel_rfl) (by simp) (AllReadyH.cons (o := _) (by simp only [List.getElem?_toArray, List.getElem?_cons_succ, List.getElem?_cons_zero]; exact rfl) (fun K' hK' => ?_) AllReadyH.nil)
          go_simp
          go_at_call 18
          (with_reducible refine (hC1.out _ cap _ hc1 hc2 O5.out.sg).mono ?_)
          rintro r w6 ⟨rfl, hx6⟩
          have O6 := O5.out.ext hx6
          have rH6 := O6.rH
          have rR6 := O6.rR
          replace O6 := hide O6
          go_wp2_with fail
          refine hK'.out _ _ (hS.out _ rH6 rR6) (fun hHeld => ?_)
          clear hK' K'
          try simp only [Act.put, List.setIfInBounds_toArray, List.set_cons_zero, List.set_cons_succ]
          (refine wpAnyH_take (i := 5) (v := ?_) (by simp only [List.getElem?_toArray, List.getElem?_cons_succ, List.getElem?_cons_zero]; exact rfl) (by kernel_rfl) (by kernel_rfl) (by kernel_rfl) (by exact fun _ _ _ h => h) (Or.inl ⟨by rfl, ?_⟩) (by assumption) ?_; rotate_left; (intro wz hSz; go_simp; try (with_reducible rfl)); simp only [Act.put, List.setIfInBounds_toArray, List.set_cons_zero, List.set_cons_succ])
          refine wpAnyH_ready (rs := [8]) (by kernel_rfl) (by simp) (AllReadyH.cons (o := _) (by simp only [List.getElem?_toArray, List.getElem?_cons_succ, List.getElem?_cons_zero]; exact rfl) (fun K' hK' => ?_) AllReadyH.nil)
          go_simp
          go_at_call 14
          (with_reducible refine (hRd.out N _ O6.out.kN).mono ?_)
          rintro r w7 ⟨rfl, hR7, hB7⟩
          have O7 := O6.out.askN hf.out hR7 hB7
          have rH7 := O7.rH
          have rR7 := O7.rR
          replace O7 := hide O7
          go_wp2_with fail
          refine hK'.out _ _ (hS.out _ rH7 rR7) (fun hHeld => ?_)
          clear hK' K'
          try simp only [Act.put, List.setIfInBounds_toArray, List.set_cons_zero, List.set_cons_succ]
          (refine wpAnyH_take (i := 9) (v := ?_) (by simp only [List.getElem?_toArray, List.getElem?_cons_succ, List.getElem?_cons_zero]; exact rfl) (by kernel_rfl) (by kernel_rfl) (by kernel_rfl) (by exact fun _ _ _ h => h) (Or.inl ⟨by rfl, ?_⟩) (by assumption) ?_; rotate_left; (intro wz hSz; go_simp; try (with_reducible rfl)); simp only [Act.put, List.setIfInBounds_toArray, List.set_cons_zero, List.set_cons_succ])
          (refine wpAnyH_take (i := 10) (v := ?_) (by simp only [List.getElem?_toArray, List.getElem?_cons_succ, List.getElem?_cons_zero]; exact rfl) (by kernel_rfl) (by kernel_rfl) (by kernel_rfl) (by exact fun _ _ _ h => h) (Or.inl ⟨by rfl, ?_⟩) (by assumption) ?_; rotate_left; (intro wz hSz; go_simp; try (with_reducible rfl)); simp only [Act.put, List.setIfInBounds_toArray, List.set_cons_zero, List.set_cons_succ])
          (refine wpAnyH_take (i := 11) (v := ?_) (by simp only [List.getElem?_toArray, List.getElem?_cons_succ, List.getElem?_cons_zero]; exact rfl) (by kernel_rfl) (by kernel_rfl) (by kernel_rfl) (by exact fun _ _ _ h => h) (Or.inl ⟨by rfl, ?_⟩) (by assumption) ?_; rotate_left; (intro wz hSz; go_simp; try (with_reducible rfl)); simp only [Act.put, List.setIfInBounds_toArray, List.set_cons_zero, List.set_cons_succ])
          (refine wpAnyH_take (i := 12) (v := ?_) (by simp only [List.getElem?_toArray, List.getElem?_cons_succ, List.getElem?_cons_zero]; exact rfl) (by kernel_rfl) (by kernel_rfl) (by kernel_rfl) (by exact fun _ _ _ h => h) (Or.inl ⟨by rfl, ?_⟩) (by assumption) ?_; rotate_left; (intro wz hSz; go_simp; try (with_reducible rfl)); simp only [Act.put, List.setIfInBounds_toArray, List.set_cons_zero, List.set_cons_succ])
          (refine wpAnyH_take (i := 14) (v := ?_) (by simp only [List.getElem?_toArray, List.getElem?_cons_succ, List.getElem?_cons_zero]; exact rfl) (by kernel_rfl) (by kernel_rfl) (by kernel_rfl) (by exact fun _ _ _ h => h) (Or.inl ⟨by rfl, ?_⟩) (by assumption) ?_; rotate_left; (intro wz hSz; go_simp; try (with_reducible rfl)); simp only [Act.put, List.setIfInBounds_toArray, List.set_cons_zero, List.set_cons_succ])
          (refine wpAnyH_take (i := 15) (v := _) (by simp only [List.getElem?_toArray, List.getElem?_cons_succ, List.getElem?_cons_zero]; exact rfl) (by kernel_rfl) (by kernel_rfl) (by kernel_rfl) (by exact fun _ _ _ h => h) (yieldsIf_load_mid (by rfl) _ _ rfl _ _ rfl _ _ (by (intro wz hSz; (try dsimp only at hSz); go_split_ands; assumption)) hu rfl hiH) (by assumption) ?_; simp only [Act.put, List.setIfInBounds_toArray, List.set_cons_zero, List.set_cons_succ, Array.toArray_toList])
          (refine wpAnyH_take (i := 16) (v := ?_) (by simp only [List.getElem?_toArray, List.getElem?_cons_succ, List.getElem?_cons_zero]; exact rfl) (by kernel_rfl) (by kernel_rfl) (by kernel_rfl) (by exact fun _ _ _ h => h) (Or.inl ⟨by rfl, ?_⟩) (by assumption) ?_; rotate_left; (intro wz hSz; go_simp; try (with_reducible rfl)); simp only [Act.put, List.setIfInBounds_toArray, List.set_cons_zero, List.set_cons_succ])
          (refine wpAnyH_take (i := 19) (v := ?_) (by simp only [List.getElem?_toArray, List.getElem?_cons_succ, List.getElem?_cons_zero]; exact rfl) (by kernel_rfl) (by kernel_rfl) (by kernel_rfl) (by exact fun _ _ _ h => h) (Or.inl ⟨by rfl, ?_⟩) (by assumption) ?_; rotate_left; (intro wz hSz; go_simp; try (with_reducible rfl)); simp only [Act.put, List.setIfInBounds_toArray, List.set_cons_zero, List.set_cons_succ])
          (refine wpAnyH_take (i := 21) (v := ?_) (by simp only [List.getElem?_toArray, List.getElem?_cons_succ, List.getElem?_cons_zero]; exact rfl) (by kernel_rfl) (by kernel_rfl) (by kernel_rfl) (by exact fun _ _ _ h => h) (Or.inl ⟨by rfl, ?_⟩) (by assumption) ?_; rotate_left; (intro wz hSz; go_simp; try (with_reducible rfl)); simp only [Act.put, List.setIfInBounds_toArray, List.set_cons_zero, List.set_cons_succ])
          refine wpAnyH_ready (rs := [13]) (by kernel_rfl) (by simp) (AllReadyH.cons (o := _) (by simp only [List.getElem?_toArray, List.getElem?_cons_succ, List.getElem?_cons_zero]; exact rfl) (fun K' hK' => ?_) AllReadyH.nil)
          go_simp
          go_at_call 14
          (with_reducible refine (hRe.out M _ O7.out.kM).mono ?_)
          rintro r w8 ⟨rfl, hR8, hB8⟩
          have O8 := O7.out.askM hf.out hR8 hB8
          have rH8 := O8.rH
          have rR8 := O8.rR
          replace O8 := hide O8
          go_wp2_with fail
          refine hK'.out _ _ (hS.out _ rH8 rR8) (fun hHeld => ?_)
          clear hK' K'
          try simp only [Act.put, List.setIfInBounds_toArray, List.set_cons_zero, List.set_cons_succ]
          refine wpAnyH_ready (rs := [17]) (by kernel_rfl) (by simp) (AllReadyH.cons (o := _) (by simp only [List.getElem?_toArray, List.getElem?_cons_succ, List.getElem?_cons_zero]; exact rfl) (fun K' hK' => ?_) AllReadyH.nil)
          go_simp
          go_at_call 18
          (with_reducible refine (hC2.out _ cap _ hc1 hc2 O8.out.sg).mono ?_)
          rintro r w9 ⟨rfl, hx9⟩
          have O9 := O8.out.ext hx9
          have rH9 := O9.rH
          have rR9 := O9.rR
          replace O9 := hide O9
          go_wp2_with fail
          refine hK'.out _ _ (hS.out _ rH9 rR9) (fun hHeld => ?_)
          clear hK' K'
          try simp only [Act.put, List.setIfInBounds_toArray, List.set_cons_zero, List.set_cons_succ]
          (refine wpAnyH_take (i := 18) (v := ?_) (by simp only [List.getElem?_toArray, List.getElem?_cons_succ, List.getElem?_cons_zero]; exact rfl) (by kernel_rfl) (by kernel_rfl) (by kernel_rfl) (by exact fun _ _ _ h => h) (Or.inl ⟨by rfl, ?_⟩) (by assumption) ?_; rotate_left; (intro wz hSz; go_simp; try (with_reducible rfl)); simp only [Act.put, List.setIfInBounds_toArray, List.set_cons_zero, List.set_cons_succ])
          refine wpAnyH_ready (rs := [20]) (by kernel_rfl) (by simp) (AllReadyH.cons (o := _) (by simp only [List.getElem?_toArray, List.getElem?_cons_succ, List.getElem?_cons_zero]; exact rfl) (fun K' hK' => ?_) AllReadyH.nil)
          go_simp
          go_at_call 14
          (with_reducible refine (hRe.out M _ O9.out.kM).mono ?_)
          rintro r w10 ⟨rfl, hR10, hB10⟩
          have O10 := O9.out.askM hf.out hR10 hB10
          have rH10 := O10.rH
          have rR10 := O10.rR
          replace O10 := hide O10
          go_wp2_with fail
          refine hK'.out _ _ (hS.out _ rH10 rR10) (fun hHeld => ?_)
          clear hK' K'
          try simp only [Act.put, List.setIfInBounds_toArray, List.set_cons_zero, List.set_cons_succ]
          refine wpAnyH_ready (rs := [22]) (by kernel_rfl) (by simp) (AllReadyH.cons (o := _) (by simp only [List.getElem?_toArray, List.getElem?_cons_succ, List.getElem?_cons_zero]; exact rfl) (fun K' hK' => ?_) AllReadyH.nil)
          go_simp
          go_at_call 14
          (with_reducible refine (hRd.out N _ O10.out.kN).mono ?_)
          rintro r w11 ⟨rfl, hR11, hB11⟩
          have O11 := O10.out.askN hf.out hR11 hB11
          have rH11 := O11.rH
          have rR11 := O11.rR
          replace O11 := hide O11
          go_wp2_with fail
          refine hK'.out _ _ (hS.out _ rH11 rR11) (fun hHeld => ?_)
          clear hK' K'
          try simp only [Act.put, List.setIfInBounds_toArray, List.set_cons_zero, List.set_cons_succ]
          (refine wpAnyH_take (i := 23) (v := ?_) (by simp only [List.getElem?_toArray, List.getElem?_cons_succ, List.getElem?_cons_zero]; exact rfl) (by kernel_rfl) (by kernel_rfl) (by kernel_rfl) (by exact fun _ _ _ h => h) (Or.inl ⟨by rfl, ?_⟩) (by assumption) ?_; rotate_left; (intro wz hSz; go_simp; try (with_reducible rfl)); simp only [Act.put, List.setIfInBounds_toArray, List.set_cons_zero, List.set_cons_succ])
          (refine wpAnyH_take (i := 24) (v := ?_) (by simp only [List.getElem?_toArray, List.getElem?_cons_succ, List.getElem?_cons_zero]; exact rfl) (by kernel_rfl) (by kernel_rfl) (by kernel_rfl) (by exact fun _ _ _ h => h) (Or.inl ⟨by rfl, ?_⟩) (by assumption) ?_; rotate_left; (intro wz hSz; go_simp; try (with_reducible rfl)); simp only [Act.put, List.setIfInBounds_toArray, List.set_cons_zero, List.set_cons_succ])
          (refine wpAnyH_take (i := 25) (v := ?_) (by simp only [List.getElem?_toArray, List.getElem?_cons_succ, List.getElem?_cons_zero]; exact rfl) (by kernel_rfl) (by kernel_rfl) (by kernel_rfl) (by exact fun _ _ _ h => h) (Or.inl ⟨by rfl, ?_⟩) (by assumption) ?_; rotate_left; (intro wz hSz; go_simp; try (with_reducible rfl)); simp only [Act.put, List.setIfInBounds_toArray, List.set_cons_zero, List.set_cons_succ])
          (refine wpAnyH_take (i := 26) (v := ?_) (by simp only [List.getElem?_toArray, List.getElem?_cons_succ, List.getElem?_cons_zero]; exact rfl) (by kernel_rfl) (by kernel_rfl) (by kernel_rfl) (by exact fun _ _ _ h => h) (Or.inl ⟨by rfl, ?_⟩) (by assumption) ?_; rotate_left; (intro wz hSz; go_simp; try (with_reducible rfl)); simp only [Act.put, List.setIfInBounds_toArray, List.set_cons_zero, List.set_cons_succ])
          (refine wpAnyH_take (i := 27) (v := ?_) (by simp only [List.getElem?_toArray, List.getElem?_cons_succ, List.getElem?_cons_zero]; exact rfl) (by kernel_rfl) (by kernel_rfl) (by kernel_rfl) (by exact fun _ _ _ h => h) (Or.inl ⟨by rfl, ?_⟩) (by assumption) ?_; rotate_left; (intro wz hSz; go_simp; try (with_reducible rfl)); simp only [Act.put, List.setIfInBounds_toArray, List.set_cons_zero, List.set_cons_succ])
          (refine wpAnyH_take (i := 29) (v := ?_) (by simp only [List.getElem?_toArray, List.getElem?_cons_succ, List.getElem?_cons_zero]; exact rfl) (by kernel_rfl) (by kernel_rfl) (by kernel_rfl) (by exact fun _ _ _ h => h) (Or.inl ⟨by rfl, ?_⟩) (by assumption) ?_; rotate_left; (intro wz hSz; go_simp; try (with_reducible rfl)); simp only [Act.put, List.setIfInBounds_toArray, List.set_cons_zero, List.set_cons_succ])
          (refine wpAnyH_take (i := 30) (v := _) (by simp only [List.getElem?_toArray, List.getElem?_cons_succ, List.getElem?_cons_zero]; exact rfl) (by kernel_rfl) (by kernel_rfl) (by kernel_rfl) (by exact fun _ _ _ h => h) (yieldsIf_load_mid (by rfl) _ _ rfl _ _ rfl _ _ (by (intro wz hSz; (try dsimp only at hSz); go_split_ands; assumption)) hu rfl hiH) (by assumption) ?_; simp only [Act.put, List.setIfInBounds_toArray, List.set_cons_zero, List.set_cons_succ, Array.toArray_toList])
          (refine wpAnyH_take (i := 31) (v := ?_) (by simp only [List.getElem?_toArray, List.getElem?_cons_succ, List.getElem?_cons_zero]; exact rfl) (by kernel_rfl) (by kernel_rfl) (by kernel_rfl) (by exact fun _ _ _ h => h) (Or.inl ⟨by rfl, ?_⟩) (by assumption) ?_; rotate_left; (intro wz hSz; go_simp; try (with_reducible rfl)); simp only [Act.put, List.setIfInBounds_toArray, List.set_cons_zero, List.set_cons_succ])
          refine wpAnyH_ready (rs := [28]) (by kernel_rfl) (by simp) (AllReadyH.cons (o := _) (by simp only [List.getElem?_toArray, List.getElem?_cons_succ, List.getElem?_cons_zero]; exact rfl) (fun K' hK' => ?_) AllReadyH.nil)
          go_simp
          go_at_call 14
          (with_reducible refine (hRd.out N _ O11.out.kN).mono ?_)
          rintro r w12 ⟨rfl, hR12, hB12⟩
          have O12 := O11.out.askN hf.out hR12 hB12
          have rH12 := O12.rH
          have rR12 := O12.rR
          replace O12 := hide O12
          go_wp2_with fail
          refine hK'.out _ _ (hS.out _ rH12 rR12) (fun hHeld => ?_)
          clear hK' K'
          try simp only [Act.put, List.setIfInBounds_toArray, List.set_cons_zero, List.set_cons_succ]
          refine wpAnyH_ready (rs := [32]) (by kernel_rfl) (by simp) (AllReadyH.cons (o := _) (by simp only [List.getElem?_toArray, List.getElem?_cons_succ, List.getElem?_cons_zero]; exact rfl) (fun K' hK' => ?_) AllReadyH.nil)
          go_simp
          go_at_call 18
          (with_reducible refine (hC3.out _ cap _ hc1 hc2 O12.out.sg).mono ?_)
          rintro r w13 ⟨rfl, hx13⟩
          have O13 := O12.out.ext hx13
          have rH13 := O13.rH
          have rR13 := O13.rR
          replace O13 := hide O13
          go_wp2_with fail
          refine hK'.out _ _ (hS.out _ rH13 rR13) (fun hHeld => ?_)
          clear hK' K'
          try simp only [Act.put, List.setIfInBounds_toArray, List.set_cons_zero, List.set_cons_succ]
          (refine wpAnyH_take (i := 33) (v := ?_) (by simp only [List.getElem?_toArray, List.getElem?_cons_succ, List.getElem?_cons_zero]; exact rfl) (by kernel_rfl) (by kernel_rfl) (by kernel_rfl) (by exact fun _ _ _ h => h) (Or.inl ⟨by rfl, ?_⟩) (by assumption) ?_; rotate_left; (intro wz hSz; go_simp; try (with_reducible rfl)); simp only [Act.put, List.setIfInBounds_toArray, List.set_cons_zero, List.set_cons_succ])
          (refine wpAnyH_take (i := 34) (v := ?_) (by simp only [List.getElem?_toArray, List.getElem?_cons_succ, List.getElem?_cons_zero]; exact rfl) (by kernel_rfl) (by kernel_rfl) (by kernel_rfl) (by exact fun _ _ _ h => h) (Or.inl ⟨by rfl, ?_⟩) (by assumption) ?_; rotate_left; (intro wz hSz; go_simp; try (with_reducible rfl)); simp only [Act.put, List.setIfInBounds_toArray, List.set_cons_zero, List.set_cons_succ])
          (refine wpAnyH_take (i := 35) (v := ?_) (by simp only [List.getElem?_toArray, List.getElem?_cons_succ, List.getElem?_cons_zero]; exact rfl) (by kernel_rfl) (by kernel_rfl) (by kernel_rfl) (by exact fun _ _ _ h => h) (Or.inl ⟨by rfl, ?_⟩) (by assumption) ?_; rotate_left; (intro wz hSz; go_simp; try (with_reducible rfl)); simp only [Act.put, List.setIfInBounds_toArray, List.set_cons_zero, List.set_cons_succ])
          refine wpAnyH_ready (rs := [36]) (by kernel_rfl) (by simp) (AllReadyH.cons (o := _) (by simp only [List.getElem?_toArray, List.getElem?_cons_succ, List.getElem?_cons_zero]; exact rfl) (fun K' hK' => ?_) AllReadyH.nil)
          go_simp
          go_at_call 9
          (with_reducible refine (known08 _).mono ?_)
          rintro r wk ⟨rfl, hxk⟩
          have rHk := rowAt_ext hxk rH13
          have rRk := rowAt_ext hxk rR13
          go_wp2_with fail
          refine hK'.out _ _ (hS.out _ rHk rRk) (fun hHeld => ?_)
          clear hK' K'
          try simp only [Act.put, List.setIfInBounds_toArray, List.set_cons_zero, List.set_cons_succ]
          (refine wpAnyH_take (i := 37) (v := ?_) (by simp only [List.getElem?_toArray, List.getElem?_cons_succ, List.getElem?_cons_zero]; exact rfl) (by kernel_rfl) (by kernel_rfl) (by kernel_rfl) (by exact fun _ _ _ h => h) (Or.inl ⟨by rfl, ?_⟩) (by assumption) ?_; rotate_left; (intro wz hSz; go_simp; try (with_reducible rfl)); simp only [Act.put, List.setIfInBounds_toArray, List.set_cons_zero, List.set_cons_succ])
          (refine wpAnyH_take (i := 38) (v := ?_) (by simp only [List.getElem?_toArray, List.getElem?_cons_succ, List.getElem?_cons_zero]; exact rfl) (by kernel_rfl) (by kernel_rfl) (by kernel_rfl) (by exact fun _ _ _ h => h) (Or.inl ⟨by rfl, ?_⟩) (by assumption) ?_; rotate_left; (intro wz hSz; go_simp; try (with_reducible rfl)); simp only [Act.put, List.setIfInBounds_toArray, List.set_cons_zero, List.set_cons_succ])
          refine wpAnyH_done (by kernel_rfl) ?_ _
          replace hE1 := hide hE1
          replace hE2 := hide hE2
          cases B1 <;> cases B2
          all_goals
            go_wp2_with fail
            go_ret
            exact ⟨rfl, O13.out.ex.then hxk⟩
end Go.Proofs.Ytfdllhhdjiklfaa
