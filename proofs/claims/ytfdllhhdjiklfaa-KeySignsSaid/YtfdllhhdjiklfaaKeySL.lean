/- The law on what a key signs: its walk. -/
import Derived.Test.YtfdllhhdjiklfaaRefG
import Derived.Test.YtfdllhhdjiklfaaKeyN
import Derived.Test.YtfdllhhdjiklfaaRefL
import Derived.Test.YtfdllhhdjiklfaaOthersH
namespace Go.Proofs.Ytfdllhhdjiklfaa
open Go.RowKit
set_option linter.unusedVariables false
set_option maxRecDepth 100000
set_option linter.unusedSimpArgs false

/-- What stands while a key is asked. -/
structure SignsAt (w0 : World) (N gs gl g : Nat) (sd h : Bs 32) (c : List UInt8) (w : World) : Prop where
  kN : KeyIs w N sd
  rH : rowAt w w0.heap.size 0 32 = some (bcells h)
  rS : rowAt w gs 0 32 = some (bcells sd)
  hl : HashesIn w (some ⟨gl, 0, none⟩) 16 (leafB sd)
  sg : BytesIn w (some ⟨g, 0, none⟩) 1216 c
  ex : Ext w0 w
theorem SignsAt.ext {w0 w w' : World} {N gs gl g : Nat} {sd h : Bs 32} {c : List UInt8} (o : SignsAt w0 N gs gl g sd h c w) (hx : Ext w w') : SignsAt w0 N gs gl g sd h c w' :=
  ⟨o.kN.ext hx, rowAt_ext hx o.rH, rowAt_ext hx o.rS, o.hl.ext hx, o.sg.ext hx, o.ex.then hx⟩
theorem SignsAt.ask {w0 w w' : World} {N gs gl g : Nat} {sd h : Bs 32} {c : List UInt8} (o : SignsAt w0 N gs gl g sd h c w) (hf : w0.heap.size < N ∧ gs ≠ N ∧ gl ≠ N ∧ g ≠ N) (hR : Reckoned N sd 1 0 w') (hB : But N w w') : SignsAt w0 N gs gl g sd h c w' :=
  ⟨.inr hR, hB.row o.rH (by omega), hB.row o.rS hf.2.1, hB.hashes o.hl (fun ad e => by obtain rfl := Option.some.inj e; exact hf.2.2.1), hB.bytes o.sg (fun ad e => by obtain rfl := Option.some.inj e; exact hf.2.2.2), But.top o.ex hB (by omega)⟩
attribute [local go_sem ↓] exec_store_Hash
attribute [local go_sem ↓] loadCells_blk
attribute [local go_sem] run_blkLoad rowAt_drew rowAt_old rowAt_new size_bcells bc_whole equal_hash
set_option maxHeartbeats 16000000 in
theorem keySigns_walk (s : ByteArray) (i : Int) (h : Bs 32) (w : World) :
    Calls Try.prog 3 #[.string s, .int .i64 i, .agg (bcells h)] w fun r w' => r = .returned (.bool true) ∧ Ext w w' := by
  have hHh := heap_alloc_new w (.cells (bcells h) 23)
  have hx := ext_alloc w (.cells (bcells h) 23)
  have rH := rowAt_whole hHh (size_bcells h)
  clear hHh
  replace hx := hide hx
  by_cases h1 : 100 < s.size
  · have d0 : decide ((100 : Int) < s.size) = true := by simp; omega
    have d0' : decide (100 < s.size) = true := by simpa using h1
    have d1' : (100 : Int) < s.size := by omega
    go_enter Try.func3, Try.ntmps3
    go_wp2_with (go_at_call 9; (with_reducible refine (known08 _).mono ?_); rintro r wk ⟨rfl, hxk⟩)
    go_ret
    exact ⟨rfl, hx.out.then hxk⟩
  · have d0 : decide ((100 : Int) < s.size) = false := by simp; omega
    have d0' : decide (100 < s.size) = false := by simpa using h1
    have d1' : ¬ (100 : Int) < s.size := by omega
    have hs : s.size ≤ maxLen := by unfold maxLen; omega
    have hsm : s.size ≤ 1000000 := by omega
    have hSd := fun w' => seed_any s w' hs
    have hV := fun (a : Option Addr) (cap : Nat) (w' : World) (hb : BytesIn w' a s.size s.data.toList) (hn : a = none → cap = 0) => refSB_any a s.size cap s.data.toList w' hsm hb hn
    have hcv := fun w' => conv_text s w' hs
    generalize s.data.toList = ct at *
    generalize hashB ct = sd at *
    have hself := bsEq_self sd
    have hMd := fun w' => keyMake_any sd w'
    have hLv := fun w' => leaves_any sd w'
    have hRd := fun b w' hk => root_any' b sd w' hk
    have hz32 := size_bcells (zeros 32)
    rw [bcells_zeros] at hz32
    replace hSd := hide hSd
    replace hV := hide hV
    replace hcv := hide hcv
    replace hMd := hide hMd
    replace hLv := hide hLv
    replace hRd := hide hRd
    replace hs := hide hs
    clear h1
    go_enter Try.func3, Try.ntmps3
    go_upto_region 4 with (go_at_call 10; (with_reducible refine (hSd.out _).mono ?_); rintro r w1 ⟨rfl, hx1⟩; have hst1 := store_new_H sd w1 _ rfl _ hz32; have rS1 := rowAt_whole (heap_alloc_new w1 (.cells (bcells sd) 23)) (size_bcells sd); have hx2 := hx1.then (ext_alloc w1 (.cells (bcells sd) 23)); have rH1 := rowAt_ext hx2 rH; have gH := lt_of_row (rowAt_ext hx1 rH))
    have hx2 := hide (hx.out.then hx2)
    have gS : w1.heap.size < (w1.alloc (.cells (bcells sd) 23)).heap.size := lt_of_row rS1
    clear hst1 hx1 rH hx hSd
    generalize w1.alloc (.cells (bcells sd) 23) = W at *
    generalize w1.heap.size = gs at *
    obtain ⟨cv, Wc, hc0, k1, k2, k3, k4, k5⟩ := hcv.out W.drew
    have k3h : Hid (BytesIn Wc (some ⟨W.heap.size, 0, none⟩) s.size ct) := hide k3
    have rSc := rowAt_ext k4 (show rowAt W.drew _ _ _ = _ from rS1)
    have hnn : (some (⟨W.heap.size, 0, none⟩ : Addr)) = none → cv = 0 := fun e => by cases e
    replace k5 := hide k5
    replace hnn := hide hnn
    go_cut [22] from 18 to 22 (fun s22 wx => s22 = .bool false ∧ Ext W wx)
    case first =>
      go_region_with (go_at_call 11; (with_reducible refine (hV.out _ cv Wc k3h.out hnn.out).mono ?_); rintro r w3 ⟨rfl, hx3⟩; have rS3 := rowAt_ext hx3 rSc)
      all_goals (go_wp2_with fail; go_meet; exact ⟨rfl, (ext_drew W).then (k4.then hx3)⟩)
    case rest =>
      obtain ⟨rfl, hx4⟩ := hcut
      obtain ⟨w4, rfl⟩ : ∃ v, v = wc := ⟨_, rfl⟩
      have rS4 := rowAt_ext hx4 rS1
      have rH4 := rowAt_ext hx4 rH1
      have gH4 := lt_of_row rH4
      have gS4 := lt_of_row rS4
      have hx4 := hide (hx2.out.then hx4)
      clear hc0 k1 k2 k3 k3h k4 k5 rSc hnn rS1 rH1 gH gS hx2 hV hcv
      go_upto_region 8 with (first
        | (go_at_call 12; (with_reducible refine (hMd.out _).mono ?_); rintro r w5 ⟨rfl, hk5, hx5⟩; have rS5 := rowAt_ext hx5 rS4; have rH5 := rowAt_ext hx5 rH4; replace hk5 := hide hk5; replace hx5 := hide hx5)
        | (go_at_call 13; (with_reducible refine (hLv.out _).mono ?_); rintro r w6 ⟨⟨v6, rfl, hown6⟩, hx6⟩; obtain ⟨gl, cpl, rfl, _, _⟩ := hown6.form (by omega)))
      have hgl := (hown6.lt gl rfl).1
      have hcpl := own_caps hown6
      have hl6 := hashes_congr (hashes_own hown6 (by simp)) (H' := leafB sd) (fun x hx => by simp [List.getD, hx])
      have rS6 := rowAt_ext hx6 rS5
      have rH6 := rowAt_ext hx6 rH5
      have hk6 := hk5.out.ext hx6
      have hN5 := hk5.out.lt
      have hx6 := hide (hx4.out.then (hx5.out.then hx6))
      obtain ⟨N, eN⟩ : ∃ N, N = w4.heap.size + 1 := ⟨_, rfl⟩
      rw [← eN] at hk6 hN5 ⊢
      have f1 : w.heap.size < N := by omega
      have f2 : gs ≠ N := by omega
      have f3 : gl ≠ N := by omega
      have hkr : rootT 4 (leafB sd) = keyB sd := rfl
      have hRK := fun a cap w' h1 h2 h3 => refRootK_any a cap (leafB sd) w' h1 h2 h3
      rw [hkr] at hRK
      have hselfR := bsEq_self (keyB sd)
      have hCkk := fun (i : Nat) (hi : i < 16) a cap w' h1 h2 h3 => check_any (keyB sd) h i hi a cap (sigB sd i h) w' h1 h2 h3
      have hchk := fun (i : Nat) (hi : i < 16) => chk_sig sd i hi h
      generalize keyB sd = R at *
      clear rS4 rH4 gH4 gS4 hx4 rS5 rH5 hk5 hx5 hown6 hkr hMd hLv hgl
      replace eN := hide eN
      replace hk6 := hide hk6
      replace hl6 := hide hl6
      replace hRK := hide hRK
      replace hCkk := hide hCkk
      replace hchk := hide hchk
      go_upto_region 10 with (first
        | (go_at_call 14; (with_reducible refine (hRd.out N _ hk6.out).mono ?_); rintro r w7 ⟨rfl, hR7, hB7⟩; have hl7 := hide (hB7.hashes hl6.out (fun ad e => by obtain rfl := Option.some.inj e; exact f3)); have rS7 := hB7.row rS6 f2; have rH7 := hB7.row rH6 (by omega); have hx7 := hide (But.top hx6.out hB7 (by omega)); replace hR7 := hide hR7)
        | (go_at_call 15; (with_reducible refine (hRK.out _ cpl _ hcpl.1 hcpl.2 hl7.out).mono ?_); rintro r w8 ⟨rfl, hx8⟩; have rS8 := rowAt_ext hx8 rS7; have rH8 := rowAt_ext hx8 rH7; have hl8 := hide (hl7.out.ext hx8); have hk8 := hide (show KeyIs w8 N sd from .inr (hR7.out.ext hx8)); have hx8 := hide (hx7.out.then hx8)))
      clear hR7 rS7 rH7 hl7 hx7 rS6 rH6 hl6 hk6 hx6 hselfR hRK hself hB7
      by_cases h2 : i < 0 ∨ 16 ≤ i
      · have hSn := sign_range N sd i h2 h w8 hk8.out
        replace hSn := hide hSn
        by_cases h3 : i < 0
        · have d2 : decide (i < 0) = true := by simpa using h3
          go_wp2_with (first | (go_at_call 16; (with_reducible refine hSn.out.mono ?_); rintro r w9 ⟨rfl, hx9⟩) | (go_at_call 9; (with_reducible refine (known08 _).mono ?_); rintro r wk ⟨rfl, hxk⟩))
          go_ret
          exact ⟨rfl, hx8.out.then (hx9.then hxk)⟩
        · have d2 : decide (i < 0) = false := by simpa using h3
          have d3 : decide ((15 : Int) < i) = true := by simp; omega
          go_wp2_with (first | (go_at_call 16; (with_reducible refine hSn.out.mono ?_); rintro r w9 ⟨rfl, hx9⟩) | (go_at_call 9; (with_reducible refine (known08 _).mono ?_); rintro r wk ⟨rfl, hxk⟩))
          go_ret
          exact ⟨rfl, hx8.out.then (hx9.then hxk)⟩
      obtain ⟨i, rfl⟩ := Int.eq_ofNat_of_zero_le (show 0 ≤ i by omega)
      have hi : i < 16 := by omega
      have d2 : decide ((i : Int) < 0) = false := by simp
      have d3 : decide ((15 : Int) < i) = false := by simp; omega
      have d4 : decide (15 < i) = false := by simp; omega
      have hSg := keySign_any N sd i hi h w8 hk8.out
      have hC3 := hCkk.out i hi
      rw [hchk.out i hi] at hC3
      have hVs := fun (w' : World) (hh : HashesIn w' (some ⟨gl, 0, none⟩) 16 (leafB sd)) => refSignK_any sd (some ⟨gl, 0, none⟩) cpl i hi h w' hcpl.1 hcpl.2 hh
      generalize sigB sd i h = c at *
      have hNs := hk8.out.lt
      replace hSg := hide hSg
      replace hC3 := hide hC3
      replace hVs := hide hVs
      clear h2 hCkk hchk
      go_wp2_with (go_at_call 16; (with_reducible refine hSg.out.mono ?_); rintro r w9 ⟨⟨v, rfl, hown⟩, hR9, hB9⟩; obtain ⟨g, cap, rfl, hc1, hc2, hb9, hg⟩ := own_sig hown; clear hown)
      have hf : w.heap.size < N ∧ gs ≠ N ∧ gl ≠ N ∧ g ≠ N := by omega
      have O5 : SignsAt w N gs gl g sd h c w9 := ⟨.inr hR9, hB9.row rH8 (by omega), hB9.row rS8 f2, hB9.hashes hl8.out (fun ad e => by obtain rfl := Option.some.inj e; exact f3), hb9, But.top hx8.out hB9 (by omega)⟩
      have O5 := O5.ext (ext_drew w9)
      replace O5 := hide O5
      replace hf := hide hf
      clear hR9 hB9 hb9 rH8 rS8 hl8 hk8 hx8 hSg
      have hu := Try.underlying23
      have hiH := info_hash h
      have hiS := info_hash sd
      have hS : ∀ w' : World, rowAt w' w.heap.size 0 32 = some (bcells h) → rowAt w' gs 0 32 = some (bcells sd) → BytesIn w' (some ⟨g, 0, none⟩) 1216 c → w'.rangeAt w.heap.size 0 (bcells h).toList ∧ w'.rangeAt gs 0 (bcells sd).toList ∧ BytesIn w' (some ⟨g, 0, none⟩) 1216 c := fun w' h1 h2 h3 => ⟨range_of_row h1, range_of_row h2, h3⟩
      replace hS := hide hS
      refine wp_region_held_drew (S := (fun w' => w'.rangeAt w.heap.size 0 (bcells h).toList ∧ w'.rangeAt gs 0 (bcells sd).toList ∧ BytesIn w' (some ⟨g, 0, none⟩) 1216 c)) (by kernel_rfl) (hS.out w9 O5.out.rH O5.out.rS O5.out.sg) (fun hHeld => ?_)
      (refine wpAnyH_take (i := 0) (v := ?_) (by simp only [List.getElem?_toArray, List.getElem?_cons_succ, List.getElem?_cons_zero]; exact rfl) (by kernel_rfl) (by kernel_rfl) (by kernel_rfl) (by exact fun _ _ _ h => h) (Or.inl ⟨by rfl, ?_⟩) (by assumption) ?_; rotate_left; (intro wz hSz; go_simp; try (with_reducible rfl)); simp only [Act.put, List.setIfInBounds_toArray, List.set_cons_zero, List.set_cons_succ])
      (refine wpAnyH_take (i := 1) (v := ?_) (by simp only [List.getElem?_toArray, List.getElem?_cons_succ, List.getElem?_cons_zero]; exact rfl) (by kernel_rfl) (by kernel_rfl) (by kernel_rfl) (by exact fun _ _ _ h => h) (Or.inl ⟨by rfl, ?_⟩) (by assumption) ?_; rotate_left; (intro wz hSz; go_simp; try (with_reducible rfl)); simp only [Act.put, List.setIfInBounds_toArray, List.set_cons_zero, List.set_cons_succ])
      (refine wpAnyH_take (i := 2) (v := ?_) (by simp only [List.getElem?_toArray, List.getElem?_cons_succ, List.getElem?_cons_zero]; exact rfl) (by kernel_rfl) (by kernel_rfl) (by kernel_rfl) (by exact fun _ _ _ h => h) (Or.inl ⟨by rfl, ?_⟩) (by assumption) ?_; rotate_left; (intro wz hSz; go_simp; try (with_reducible rfl)); simp only [Act.put, List.setIfInBounds_toArray, List.set_cons_zero, List.set_cons_succ])
      (refine wpAnyH_take (i := 3) (v := ?_) (by simp only [List.getElem?_toArray, List.getElem?_cons_succ, List.getElem?_cons_zero]; exact rfl) (by kernel_rfl) (by kernel_rfl) (by kernel_rfl) (by exact fun _ _ _ h => h) (Or.inl ⟨by rfl, ?_⟩) (by assumption) ?_; rotate_left; (intro wz hSz; go_simp; try (with_reducible rfl)); simp only [Act.put, List.setIfInBounds_toArray, List.set_cons_zero, List.set_cons_succ])
      (refine wpAnyH_take (i := 4) (v := ?_) (by simp only [List.getElem?_toArray, List.getElem?_cons_succ, List.getElem?_cons_zero]; exact rfl) (by kernel_rfl) (by kernel_rfl) (by kernel_rfl) (by exact fun _ _ _ h => h) (Or.inl ⟨by rfl, ?_⟩) (by assumption) ?_; rotate_left; (intro wz hSz; have cvz := conv_bytes (cap := cap) hSz.2.2; go_simp; try (with_reducible rfl)); simp only [Act.put, List.setIfInBounds_toArray, List.set_cons_zero, List.set_cons_succ])
      (refine wpAnyH_take (i := 5) (v := _) (by simp only [List.getElem?_toArray, List.getElem?_cons_succ, List.getElem?_cons_zero]; exact rfl) (by kernel_rfl) (by kernel_rfl) (by kernel_rfl) (by exact fun _ _ _ h => h) (yieldsIf_load_mid (by rfl) _ _ rfl _ _ rfl _ _ (by (intro wz hSz; (try dsimp only at hSz); go_split_ands; assumption)) hu rfl hiS) (by assumption) ?_; simp only [Act.put, List.setIfInBounds_toArray, List.set_cons_zero, List.set_cons_succ, Array.toArray_toList])
      (refine wpAnyH_take (i := 6) (v := ?_) (by simp only [List.getElem?_toArray, List.getElem?_cons_succ, List.getElem?_cons_zero]; exact rfl) (by kernel_rfl) (by kernel_rfl) (by kernel_rfl) (by exact fun _ _ _ h => h) (Or.inl ⟨by rfl, ?_⟩) (by assumption) ?_; rotate_left; (intro wz hSz; go_simp; try (with_reducible rfl)); simp only [Act.put, List.setIfInBounds_toArray, List.set_cons_zero, List.set_cons_succ])
      (refine wpAnyH_take (i := 7) (v := ?_) (by simp only [List.getElem?_toArray, List.getElem?_cons_succ, List.getElem?_cons_zero]; exact rfl) (by kernel_rfl) (by kernel_rfl) (by kernel_rfl) (by exact fun _ _ _ h => h) (Or.inl ⟨by rfl, ?_⟩) (by assumption) ?_; rotate_left; (intro wz hSz; go_simp; try (with_reducible rfl)); simp only [Act.put, List.setIfInBounds_toArray, List.set_cons_zero, List.set_cons_succ])
      (refine wpAnyH_take (i := 8) (v := _) (by simp only [List.getElem?_toArray, List.getElem?_cons_succ, List.getElem?_cons_zero]; exact rfl) (by kernel_rfl) (by kernel_rfl) (by kernel_rfl) (by exact fun _ _ _ h => h) (yieldsIf_load_mid (by rfl) _ _ rfl _ _ rfl _ _ (by (intro wz hSz; (try dsimp only at hSz); go_split_ands; assumption)) hu rfl hiH) (by assumption) ?_; simp only [Act.put, List.setIfInBounds_toArray, List.set_cons_zero, List.set_cons_succ, Array.toArray_toList])
      refine wpAnyH_ready (rs := [9]) (by kernel_rfl) (by simp) (AllReadyH.cons (o := _) (by simp only [List.getElem?_toArray, List.getElem?_cons_succ, List.getElem?_cons_zero]; exact rfl) (fun K' hK' => ?_) AllReadyH.nil)
      go_simp
      go_at_call 17
      (with_reducible refine (hVs.out _ O5.out.hl).mono ?_)
      rintro r w6 ⟨⟨gr, orr, cpr, rfl, hbr⟩, hx6⟩
      have O6 := O5.out.ext hx6
      go_wp2_with fail
      refine hK'.out _ _ (hS.out _ O6.rH O6.rS O6.sg) (fun hHeld => ?_)
      clear hK' K'
      try simp only [Act.put, List.setIfInBounds_toArray, List.set_cons_zero, List.set_cons_succ]
      have cvr := conv_bytes (cap := cpr) hbr
      refine wpAnyH_ready (rs := [10]) (by kernel_rfl) (by simp) (AllReadyH.cons (o := _) (by simp only [List.getElem?_toArray, List.getElem?_cons_succ, List.getElem?_cons_zero]; exact rfl) (fun K' hK' => ?_) AllReadyH.nil)
      go_simp
      refine hK'.out _ _ (hS.out _ O6.rH O6.rS O6.sg) (fun hHeld => ?_)
      clear hK' K'
      try simp only [Act.put, List.setIfInBounds_toArray, List.set_cons_zero, List.set_cons_succ]
      (refine wpAnyH_take (i := 11) (v := ?_) (by simp only [List.getElem?_toArray, List.getElem?_cons_succ, List.getElem?_cons_zero]; exact rfl) (by kernel_rfl) (by kernel_rfl) (by kernel_rfl) (by exact fun _ _ _ h => h) (Or.inl ⟨by rfl, ?_⟩) (by assumption) ?_; rotate_left; (intro wz hSz; go_simp; try (with_reducible rfl)); simp only [Act.put, List.setIfInBounds_toArray, List.set_cons_zero, List.set_cons_succ])
      (refine wpAnyH_take (i := 12) (v := ?_) (by simp only [List.getElem?_toArray, List.getElem?_cons_succ, List.getElem?_cons_zero]; exact rfl) (by kernel_rfl) (by kernel_rfl) (by kernel_rfl) (by exact fun _ _ _ h => h) (Or.inl ⟨by rfl, ?_⟩) (by assumption) ?_; rotate_left; (intro wz hSz; go_simp; try (with_reducible rfl)); simp only [Act.put, List.setIfInBounds_toArray, List.set_cons_zero, List.set_cons_succ])
      (refine wpAnyH_take (i := 13) (v := ?_) (by simp only [List.getElem?_toArray, List.getElem?_cons_succ, List.getElem?_cons_zero]; exact rfl) (by kernel_rfl) (by kernel_rfl) (by kernel_rfl) (by exact fun _ _ _ h => h) (Or.inl ⟨by rfl, ?_⟩) (by assumption) ?_; rotate_left; (intro wz hSz; go_simp; try (with_reducible rfl)); simp only [Act.put, List.setIfInBounds_toArray, List.set_cons_zero, List.set_cons_succ])
      (refine wpAnyH_take (i := 14) (v := ?_) (by simp only [List.getElem?_toArray, List.getElem?_cons_succ, List.getElem?_cons_zero]; exact rfl) (by kernel_rfl) (by kernel_rfl) (by kernel_rfl) (by exact fun _ _ _ h => h) (Or.inl ⟨by rfl, ?_⟩) (by assumption) ?_; rotate_left; (intro wz hSz; go_simp; try (with_reducible rfl)); simp only [Act.put, List.setIfInBounds_toArray, List.set_cons_zero, List.set_cons_succ])
      (refine wpAnyH_take (i := 16) (v := ?_) (by simp only [List.getElem?_toArray, List.getElem?_cons_succ, List.getElem?_cons_zero]; exact rfl) (by kernel_rfl) (by kernel_rfl) (by kernel_rfl) (by exact fun _ _ _ h => h) (Or.inl ⟨by rfl, ?_⟩) (by assumption) ?_; rotate_left; (intro wz hSz; go_simp; try (with_reducible rfl)); simp only [Act.put, List.setIfInBounds_toArray, List.set_cons_zero, List.set_cons_succ])
      (refine wpAnyH_take (i := 17) (v := _) (by simp only [List.getElem?_toArray, List.getElem?_cons_succ, List.getElem?_cons_zero]; exact rfl) (by kernel_rfl) (by kernel_rfl) (by kernel_rfl) (by exact fun _ _ _ h => h) (yieldsIf_load_mid (by rfl) _ _ rfl _ _ rfl _ _ (by (intro wz hSz; (try dsimp only at hSz); go_split_ands; assumption)) hu rfl hiH) (by assumption) ?_; simp only [Act.put, List.setIfInBounds_toArray, List.set_cons_zero, List.set_cons_succ, Array.toArray_toList])
      (refine wpAnyH_take (i := 18) (v := ?_) (by simp only [List.getElem?_toArray, List.getElem?_cons_succ, List.getElem?_cons_zero]; exact rfl) (by kernel_rfl) (by kernel_rfl) (by kernel_rfl) (by exact fun _ _ _ h => h) (Or.inl ⟨by rfl, ?_⟩) (by assumption) ?_; rotate_left; (intro wz hSz; go_simp; try (with_reducible rfl)); simp only [Act.put, List.setIfInBounds_toArray, List.set_cons_zero, List.set_cons_succ])
      refine wpAnyH_ready (rs := [15]) (by kernel_rfl) (by simp) (AllReadyH.cons (o := _) (by simp only [List.getElem?_toArray, List.getElem?_cons_succ, List.getElem?_cons_zero]; exact rfl) (fun K' hK' => ?_) AllReadyH.nil)
      go_simp
      go_at_call 14
      (with_reducible refine (hRd.out N _ O6.kN).mono ?_)
      rintro r w7 ⟨rfl, hR7, hB7⟩
      have O7 := O6.ask hf.out hR7 hB7
      go_wp2_with fail
      refine hK'.out _ _ (hS.out _ O7.rH O7.rS O7.sg) (fun hHeld => ?_)
      clear hK' K'
      try simp only [Act.put, List.setIfInBounds_toArray, List.set_cons_zero, List.set_cons_succ]
      refine wpAnyH_ready (rs := [19]) (by kernel_rfl) (by simp) (AllReadyH.cons (o := _) (by simp only [List.getElem?_toArray, List.getElem?_cons_succ, List.getElem?_cons_zero]; exact rfl) (fun K' hK' => ?_) AllReadyH.nil)
      go_simp
      go_at_call 18
      (with_reducible refine (hC3.out _ cap _ hc1 hc2 O7.sg).mono ?_)
      rintro r w8 ⟨rfl, hx8⟩
      have O8 := O7.ext hx8
      go_wp2_with fail
      refine hK'.out _ _ (hS.out _ O8.rH O8.rS O8.sg) (fun hHeld => ?_)
      clear hK' K'
      try simp only [Act.put, List.setIfInBounds_toArray, List.set_cons_zero, List.set_cons_succ]
      (refine wpAnyH_take (i := 20) (v := ?_) (by simp only [List.getElem?_toArray, List.getElem?_cons_succ, List.getElem?_cons_zero]; exact rfl) (by kernel_rfl) (by kernel_rfl) (by kernel_rfl) (by exact fun _ _ _ h => h) (Or.inl ⟨by rfl, ?_⟩) (by assumption) ?_; rotate_left; (intro wz hSz; go_simp; try (with_reducible rfl)); simp only [Act.put, List.setIfInBounds_toArray, List.set_cons_zero, List.set_cons_succ])
      (refine wpAnyH_take (i := 21) (v := ?_) (by simp only [List.getElem?_toArray, List.getElem?_cons_succ, List.getElem?_cons_zero]; exact rfl) (by kernel_rfl) (by kernel_rfl) (by kernel_rfl) (by exact fun _ _ _ h => h) (Or.inl ⟨by rfl, ?_⟩) (by assumption) ?_; rotate_left; (intro wz hSz; go_simp; try (with_reducible rfl)); simp only [Act.put, List.setIfInBounds_toArray, List.set_cons_zero, List.set_cons_succ])
      (refine wpAnyH_take (i := 22) (v := ?_) (by simp only [List.getElem?_toArray, List.getElem?_cons_succ, List.getElem?_cons_zero]; exact rfl) (by kernel_rfl) (by kernel_rfl) (by kernel_rfl) (by exact fun _ _ _ h => h) (Or.inl ⟨by rfl, ?_⟩) (by assumption) ?_; rotate_left; (intro wz hSz; go_simp; try (with_reducible rfl)); simp only [Act.put, List.setIfInBounds_toArray, List.set_cons_zero, List.set_cons_succ])
      refine wpAnyH_ready (rs := [23]) (by kernel_rfl) (by simp) (AllReadyH.cons (o := _) (by simp only [List.getElem?_toArray, List.getElem?_cons_succ, List.getElem?_cons_zero]; exact rfl) (fun K' hK' => ?_) AllReadyH.nil)
      go_simp
      go_at_call 9
      (with_reducible refine (known08 _).mono ?_)
      rintro r wk ⟨rfl, hxk⟩
      have O9 := O8.ext hxk
      go_wp2_with fail
      refine hK'.out _ _ (hS.out _ O9.rH O9.rS O9.sg) (fun hHeld => ?_)
      clear hK' K'
      try simp only [Act.put, List.setIfInBounds_toArray, List.set_cons_zero, List.set_cons_succ]
      (refine wpAnyH_take (i := 24) (v := ?_) (by simp only [List.getElem?_toArray, List.getElem?_cons_succ, List.getElem?_cons_zero]; exact rfl) (by kernel_rfl) (by kernel_rfl) (by kernel_rfl) (by exact fun _ _ _ h => h) (Or.inl ⟨by rfl, ?_⟩) (by assumption) ?_; rotate_left; (intro wz hSz; go_simp; try (with_reducible rfl)); simp only [Act.put, List.setIfInBounds_toArray, List.set_cons_zero, List.set_cons_succ])
      (refine wpAnyH_take (i := 25) (v := ?_) (by simp only [List.getElem?_toArray, List.getElem?_cons_succ, List.getElem?_cons_zero]; exact rfl) (by kernel_rfl) (by kernel_rfl) (by kernel_rfl) (by exact fun _ _ _ h => h) (Or.inl ⟨by rfl, ?_⟩) (by assumption) ?_; rotate_left; (intro wz hSz; go_simp; try (with_reducible rfl)); simp only [Act.put, List.setIfInBounds_toArray, List.set_cons_zero, List.set_cons_succ])
      refine wpAnyH_done (by kernel_rfl) ?_ _
      go_wp2_with fail
      go_ret
      exact ⟨rfl, O9.ex⟩
end Go.Proofs.Ytfdllhhdjiklfaa
