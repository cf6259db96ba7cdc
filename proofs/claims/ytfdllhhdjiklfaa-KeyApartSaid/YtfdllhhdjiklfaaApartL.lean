/- The law on a path that is turned: its walk. -/
import Derived.Test.YtfdllhhdjiklfaaApartP
import Derived.Test.YtfdllhhdjiklfaaRefH
import Derived.Test.YtfdllhhdjiklfaaZE
import Derived.Test.YtfdllhhdjiklfaaOthersH
import Derived.Laws.BitsAllLaws
namespace Go.Proofs.Ytfdllhhdjiklfaa
open Go.RowKit
set_option linter.unusedVariables false
set_option maxRecDepth 100000
set_option linter.unusedSimpArgs false

/-- What stands while a key is asked for what was turned. -/
structure ApartAt (w0 : World) (N g gt : Nat) (sd h : Bs 32) (c c2 : List UInt8) (w : World) : Prop where
  kN : KeyIs w N sd
  rH : rowAt w w0.heap.size 0 32 = some (bcells h)
  sg : BytesIn w (some ⟨g, 0, none⟩) 1216 c
  st : BytesIn w (some ⟨gt, 0, none⟩) 1216 c2
  ex : Ext w0 w
theorem ApartAt.ext {w0 w w' : World} {N g gt : Nat} {sd h : Bs 32} {c c2 : List UInt8} (o : ApartAt w0 N g gt sd h c c2 w) (hx : Ext w w') : ApartAt w0 N g gt sd h c c2 w' :=
  ⟨o.kN.ext hx, rowAt_ext hx o.rH, o.sg.ext hx, o.st.ext hx, o.ex.then hx⟩
theorem ApartAt.ask {w0 w w' : World} {N g gt : Nat} {sd h : Bs 32} {c c2 : List UInt8} (o : ApartAt w0 N g gt sd h c c2 w) (hf : w0.heap.size < N ∧ g ≠ N ∧ gt ≠ N) (hR : Reckoned N sd 1 0 w') (hB : But N w w') : ApartAt w0 N g gt sd h c c2 w' :=
  ⟨.inr hR, hB.row o.rH (by omega), hB.bytes o.sg (fun ad e => by obtain rfl := Option.some.inj e; exact hf.2.1), hB.bytes o.st (fun ad e => by obtain rfl := Option.some.inj e; exact hf.2.2), But.top o.ex hB (by omega)⟩
attribute [local go_sem ↓] exec_store_Hash
attribute [local go_sem ↓] loadCells_blk
attribute [local go_sem] run_blkLoad rowAt_drew rowAt_old rowAt_new size_bcells bc_whole equal_hash
theorem zero_u8 (b : UInt8) (h : b.toNat = 0) : b = 0 := UInt8.toNat_inj.1 h
set_option maxHeartbeats 16000000 in
theorem keyApart_main (s : ByteArray) (i : Nat) (h : Bs 32) (q : Nat) (b : UInt8) (w : World) (h1 : ¬ 100 < s.size) (hi : i < 16) (hq : q < 128) (hb : b ≠ 0) :
    Calls Try.prog 5 #[.string s, .int .i64 (i : Int), .agg (bcells h), .int .i64 (q : Int), .int .u8 (b.toNat : Int)] w fun r w' => r = .returned (.bool true) ∧ Ext w w' := by
  have hHh := heap_alloc_new w (.cells (bcells h) 23)
  have hx := ext_alloc w (.cells (bcells h) 23)
  have rH := rowAt_whole hHh (size_bcells h)
  clear hHh
  replace hx := hide hx
  have d0 : decide ((100 : Int) < s.size) = false := by simp; omega
  have d0' : decide (100 < s.size) = false := by simpa using h1
  have d1 : decide ((i : Int) < 0) = false := by simp
  have d2 : decide ((15 : Int) < i) = false := by simp; omega
  have d2' : decide (15 < i) = false := by simp; omega
  have d3 : decide ((q : Int) < 0) = false := by simp
  have d4 : decide ((127 : Int) < q) = false := by simp; omega
  have d4' : decide (127 < q) = false := by simp; omega
  have hbn : b.toNat ≠ 0 := fun e => hb (zero_u8 b e)
  have d5 : ((b.toNat : Int) == 0) = false := by simp; omega
  have d5' : ¬ (b.toNat : Int) = 0 := by omega
  have d5'' : (b.toNat == 0) = false := by simpa using hbn
  have hs : s.size ≤ maxLen := by unfold maxLen; omega
  have hSd := fun w' => seed_any s w' hs
  generalize hashB s.data.toList = sd at *
  have hMd := fun w' => keyMake_any sd w'
  have hRd := fun b w' hk => root_any' b sd w' hk
  have hSg := fun b w' hk => keySign_any b sd i hi h w' hk
  have hcl := length_sigB sd i h
  have hCk := fun a cap w' h1 h2 h3 => check_any (keyB sd) h i hi a cap (turnL (sigB sd i h) (1088 + q) b) w' h1 h2 h3
  have hroot := root_sig sd i hi h
  have hpt := path_turn (sigB sd i h) hcl q hq b hb
  have hlt := leaf_turn (sigB sd i h) (1088 + q) b h (by omega)
  have hlc : (turnL (sigB sd i h) (1088 + q) b).length = 1216 := by rw [length_turnL, hcl]
  generalize sigB sd i h = c at *
  generalize keyB sd = R at *
  replace hSd := hide hSd
  replace hMd := hide hMd
  replace hRd := hide hRd
  replace hSg := hide hSg
  replace hs := hide hs
  replace hcl := hide hcl
  replace hlc := hide hlc
  replace hroot := hide hroot
  replace hpt := hide hpt
  replace hlt := hide hlt
  replace hCk := hide hCk
  clear h1
  go_enter Try.func5, Try.ntmps5
  go_upto_region 7 with (first
    | (go_at_call 10; (with_reducible refine (hSd.out _).mono ?_); rintro r w1 ⟨rfl, hx1⟩; have rH1 := rowAt_ext hx1 rH; have gH1 := lt_of_row rH1; replace hx1 := hide (hx.out.then hx1))
    | (go_at_call 12; (with_reducible refine (hMd.out _).mono ?_); rintro r w2 ⟨rfl, hk2, hx2⟩; have rH2 := rowAt_ext hx2 rH1; have gN2 := hk2.lt; replace hk2 := hide hk2; replace hx2 := hide (hx1.out.then hx2))
    | (go_at_call 16; (with_reducible refine (hSg.out (w1.heap.size + 1) _ hk2.out).mono ?_); rintro r w5 ⟨⟨v, rfl, hown⟩, hR5, hB5⟩; obtain ⟨g, cap, rfl, hc1, hc2, hb5, hg⟩ := own_sig hown; have rH5 := hB5.row rH2 (by omega); have hx5 := hide (But.top hx2.out hB5 (by omega)); replace hR5 := hide hR5; replace hb5 := hide hb5; clear hown hB5))
  obtain ⟨N, eN⟩ : ∃ N, N = w1.heap.size + 1 := ⟨_, rfl⟩
  have f1 : w.heap.size < N := by omega
  have f2 : g ≠ N := by omega
  have f3 : N < w5.heap.size := by have := lt_of_block (hR5.out.choose_spec.choose_spec.1); omega
  rw [← eN] at hR5 ⊢
  clear rH rH1 rH2 gH1 hk2 hx1 hx2 gN2 hx hg
  replace eN := hide eN
  have hnil0 := World.ownsRow_nil w5 w5.heap.size 5 1
  go_upto_region 8 with (at_builtin; (refine wpList_app _ rfl _ _ rfl w5.heap.size 0 (.slice none 0 0) [] rfl hnil0 (some ⟨g, 0, none⟩) 1216 cap c rfl hb5.out (by omega) (Nat.le_refl _) ?_); intro v1 w6 hown6 hgrow6 hnil6; rw [Nat.zero_add, List.nil_append] at hown6; obtain ⟨gt, capt, rfl, _, _⟩ := hown6.form (by omega); clear hnil6)
  have hE6 : Ext w5 w6 := ext_grown (Below.refl _ _) hgrow6 (fun k hk => by cases hk)
  have hgt := (hown6.lt gt rfl).1
  have hct := own_caps hown6
  obtain ⟨m, em⟩ : ∃ m, m = 1088 + q := ⟨_, rfl⟩
  have m1 : IntKind.i64.wrap (1088 + (q : Int)) = m := by rw [IntKind.wrap_i64]; omega
  have m2 : 1088 + (q : Int) = m := by omega
  have m3 : (0 : Int) ≤ m := by omega
  have m4 : (m : Int) < 1216 := by omega
  have cm := hown6.cellAt m (by omega)
  rw [List.getElem?_map, List.getElem?_eq_getElem (by rw [hcl.out]; omega)] at cm
  have hxe : c[m]'(by rw [hcl.out]; omega) = c.getD m 0 := by simp [List.getD, List.getElem?_eq_getElem (show m < c.length by rw [hcl.out]; omega)]
  have fm := hown6.frozenAt m
  have hxor : bits .xor .u8 ((c.getD m 0).toNat : Int) (b.toNat : Int) = ((c.getD m 0 ^^^ b).toNat : Int) := by rw [u8_xor_nat _ _ (UInt8.toNat_lt _) (UInt8.toNat_lt _), UInt8.toNat_xor]
  have hst := hown6.stored m (.int .u8 ((c.getD m 0 ^^^ b).toNat : Int))
  have hset : (c.map cb).set m (.int .u8 ((c.getD m 0 ^^^ b).toNat : Int)) = (turnL c (1088 + q) b).map cb := by rw [← em, turnL, List.map_set]; rfl
  rw [hset] at hst
  replace cm : w6.cell? ⟨gt, m, none⟩ = some (.int .u8 ((c.getD m 0).toNat : Int)) := by rw [cm, hxe]; rfl
  have hq0 : (0 : Int) ≤ q := by omega
  have hqi : (q : Int) ≤ 127 := by omega
  generalize c.getD m 0 = x0 at *
  generalize hy : x0 ^^^ b = y0 at *
  replace hst := hide hst
  replace hset := hide hset
  replace hE6 := hide hE6
  replace hct := hide hct
  replace hxe := hide trivial
  replace em := hide em
  clear hown6 hgrow6 hnil0
  replace hy := hide hy
  go_wp2_with fail
  obtain ⟨w7, hw7⟩ : ∃ v, v = w6.setCell ⟨gt, m, none⟩ (.int .u8 (y0.toNat : Int)) := ⟨_, rfl⟩
  rw [← hw7] at hst ⊢
  have hE7 : Ext w5 w7 := But.ext hE6.out hst.out.2 hgt
  obtain ⟨a7, cap7, e7, _, _, _, st7, _⟩ := own_in hst.out.1
  obtain ⟨rfl, rfl⟩ : (some ⟨gt, 0, none⟩ = a7) ∧ capt = cap7 := by simpa using e7
  have f4 : gt ≠ N := by omega
  have hf := hide (And.intro f1 (And.intro f2 f4))
  have O7 : ApartAt w N g gt sd h c (turnL c (1088 + q) b) w7.drew := (⟨.inr (hR5.out.ext hE7), rowAt_ext hE7 rH5, hb5.out.ext hE7, st7, hx5.out.then hE7⟩ : ApartAt w N g gt sd h c (turnL c (1088 + q) b) w7).ext (ext_drew w7)
  have hct1 := hct.out.1
  have hct2 := hct.out.2
  have O70 : rowAt w7 w.heap.size 0 32 = some (bcells h) := rowAt_ext hE7 rH5
  clear hst hw7 hE7 st7 e7 hE6 hR5 hb5 rH5 hx5 hgt f1 f2 f3 f4 hct cm fm
  replace O7 := hide O7
  have hu := Try.underlying23
  have hiH := info_hash h
  have hS : ∀ w' : World, rowAt w' w.heap.size 0 32 = some (bcells h) → w'.rangeAt w.heap.size 0 (bcells h).toList := fun w' h => range_of_row h
  replace hS := hide hS
  generalize hB : bsEq (rootC (turnL c (1088 + q) b) i h) R = B at *
  replace hB := hide hB
  obtain ⟨E, hE, hEB⟩ : ∃ E, E = chkE B ∧ (E == 0) = B := ⟨_, rfl, by cases B <;> rfl⟩
  rw [← hE] at hCk
  refine wp_region_held_drew (S := (fun w' => w'.rangeAt w.heap.size 0 (bcells h).toList)) (by kernel_rfl) (hS.out _ O70) (fun hHeld => ?_)
  (refine wpAnyH_take (i := 0) (v := ?_) (by simp only [List.getElem?_toArray, List.getElem?_cons_succ, List.getElem?_cons_zero]; exact rfl) (by kernel_rfl) (by kernel_rfl) (by kernel_rfl) (by exact fun _ _ _ h => h) (Or.inl ⟨by rfl, ?_⟩) (by assumption) ?_; rotate_left; (intro wz hSz; go_simp; try (with_reducible rfl)); simp only [Act.put, List.setIfInBounds_toArray, List.set_cons_zero, List.set_cons_succ])
  (refine wpAnyH_take (i := 2) (v := ?_) (by simp only [List.getElem?_toArray, List.getElem?_cons_succ, List.getElem?_cons_zero]; exact rfl) (by kernel_rfl) (by kernel_rfl) (by kernel_rfl) (by exact fun _ _ _ h => h) (Or.inl ⟨by rfl, ?_⟩) (by assumption) ?_; rotate_left; (intro wz hSz; go_simp; try (with_reducible rfl)); simp only [Act.put, List.setIfInBounds_toArray, List.set_cons_zero, List.set_cons_succ])
  (refine wpAnyH_take (i := 3) (v := _) (by simp only [List.getElem?_toArray, List.getElem?_cons_succ, List.getElem?_cons_zero]; exact rfl) (by kernel_rfl) (by kernel_rfl) (by kernel_rfl) (by exact fun _ _ _ h => h) (yieldsIf_load_mid (by rfl) _ _ rfl _ _ rfl _ _ (by (intro wz hSz; (try dsimp only at hSz); go_split_ands; assumption)) hu rfl hiH) (by assumption) ?_; simp only [Act.put, List.setIfInBounds_toArray, List.set_cons_zero, List.set_cons_succ, Array.toArray_toList])
  (refine wpAnyH_take (i := 4) (v := ?_) (by simp only [List.getElem?_toArray, List.getElem?_cons_succ, List.getElem?_cons_zero]; exact rfl) (by kernel_rfl) (by kernel_rfl) (by kernel_rfl) (by exact fun _ _ _ h => h) (Or.inl ⟨by rfl, ?_⟩) (by assumption) ?_; rotate_left; (intro wz hSz; go_simp; try (with_reducible rfl)); simp only [Act.put, List.setIfInBounds_toArray, List.set_cons_zero, List.set_cons_succ])
  refine wpAnyH_ready (rs := [1]) (by kernel_rfl) (by simp) (AllReadyH.cons (o := _) (by simp only [List.getElem?_toArray, List.getElem?_cons_succ, List.getElem?_cons_zero]; exact rfl) (fun K' hK' => ?_) AllReadyH.nil)
  go_simp
  go_at_call 14
  (with_reducible refine (hRd.out N _ O7.out.kN).mono ?_)
  rintro r w8 ⟨rfl, hR8, hB8⟩
  have O8 := O7.out.ask hf.out hR8 hB8
  go_wp2_with fail
  refine hK'.out _ _ (hS.out _ O8.rH) (fun hHeld => ?_)
  clear hK' K'
  try simp only [Act.put, List.setIfInBounds_toArray, List.set_cons_zero, List.set_cons_succ]
  refine wpAnyH_ready (rs := [5]) (by kernel_rfl) (by simp) (AllReadyH.cons (o := _) (by simp only [List.getElem?_toArray, List.getElem?_cons_succ, List.getElem?_cons_zero]; exact rfl) (fun K' hK' => ?_) AllReadyH.nil)
  go_simp
  go_at_call 18
  (with_reducible refine (hCk.out _ capt _ hct1 hct2 O8.st).mono ?_)
  rintro r w9 ⟨rfl, hx9⟩
  have O9 := O8.ext hx9
  go_wp2_with fail
  refine hK'.out _ _ (hS.out _ O9.rH) (fun hHeld => ?_)
  clear hK' K'
  try simp only [Act.put, List.setIfInBounds_toArray, List.set_cons_zero, List.set_cons_succ]
  (refine wpAnyH_take (i := 6) (v := ?_) (by simp only [List.getElem?_toArray, List.getElem?_cons_succ, List.getElem?_cons_zero]; exact rfl) (by kernel_rfl) (by kernel_rfl) (by kernel_rfl) (by exact fun _ _ _ h => h) (Or.inl ⟨by rfl, ?_⟩) (by assumption) ?_; rotate_left; (intro wz hSz; go_simp; try (with_reducible rfl)); simp only [Act.put, List.setIfInBounds_toArray, List.set_cons_zero, List.set_cons_succ])
  refine wpAnyH_done (by kernel_rfl) ?_ _
  replace O9 := hide O9
  cases B
  · obtain rfl : E = 15 := hE
    go_wp2_with (go_at_call 9; (with_reducible refine (known08 _).mono ?_); rintro r wk ⟨rfl, hxk⟩)
    go_ret
    exact ⟨rfl, O9.out.ex.then hxk⟩
  · obtain rfl : E = 0 := hE
    have hXX := part_clash (pathC c) (pathC (turnL c (1088 + q) b)) (leafC c h) i (q / 32) 4 (Ne.symm hpt.out) (by omega) (by
      have e : rootC (turnL c (1088 + q) b) i h = rootC c i h := ((bsEq_iff _ _).1 hB.out).trans hroot.out.symm
      rw [rootC, rootC, hlt.out] at e
      exact e.symm)
    have hlen := hide (texts_len2 (pathC c) (pathC (turnL c (1088 + q) b)) (leafC c h) i 4)
    have hl1 := hide (length_textsC (pathC c) (leafC c h) i 4)
    have hl2 := hide (length_textsC (pathC (turnL c (1088 + q) b)) (leafC c h) i 4)
    obtain ⟨i0, k0, hik, hk0, hsum, hneq⟩ := hXX
    replace hsum := hide hsum
    replace hneq := hide hneq
    have hct : (c.take 1088).length = 1088 := by rw [List.length_take, hcl.out]; rfl
    have hRc := fun w' hb' => refRecover_any (some ⟨g, 0, none⟩) cap (c.take 1088) hct h w' hb'
    rw [← leafC_eq c h hct] at hRc
    have hP1 := fun w' hb' => refPathC_any (some ⟨g, 0, none⟩) cap c w' hb'
    have hP2 := fun w' hb' => refPathC_any (some ⟨gt, 0, none⟩) capt (turnL c (1088 + q) b) w' hb'
    generalize leafC c h = leaf at *
    replace hRc := hide hRc
    replace hP1 := hide hP1
    replace hP2 := hide hP2
    have hz := size_bcells (zeros 32)
    have rH := O9.out.rH
    have hbD : BytesIn w9.drew (some ⟨g, 0, none⟩) 1088 (c.take 1088) := bytes_head (O9.out.sg.ext (ext_drew w9)) (by omega)
    have hxZ := ext_alloc w9 (.cells (bcells (zeros 32)) 23)
    have hZZ := heap_alloc_new w9 (.cells (bcells (zeros 32)) 23)
    rw [bcells_zeros] at hxZ hZZ hz
    have rH0 := rowAt_ext hxZ rH
    have hbZ := bytes_head ((O9.out.sg.ext hxZ).ext (ext_drew _)) (show 1088 ≤ 1216 by omega)
    replace hbD := hide hbD
    replace hbZ := hide hbZ
    replace hZZ := hide hZZ
    replace hxZ := hide hxZ
    go_upto_region 10 with fail
    go_cut [15] from 77 to 81 (fun s15 wx => ∃ X, s15 = .pointer (some ⟨X, 0, none⟩) ∧ wx.heap[X]? = some (.cells (bcells leaf) 23 (0, 0)) ∧ Ext w9 wx)
    case first =>
      go_region_with (go_at_call 20; first
        | ((with_reducible refine (hRc.out w9.drew hbD.out).mono ?_); rintro r w1 ⟨rfl, hx1⟩; have hxW : Ext w9 w1 := Ext.then (b := w9.drew) ((Below.refl _ _).drew) hx1; have hst2 := store_cells_hash (w1.alloc _) w1.heap.size _ _ hz leaf (heap_alloc_new w1 (.cells _ 23)); rw [setRow_new] at hst2)
        | ((with_reducible refine (hRc.out _ hbZ.out).mono ?_); rintro r w1 ⟨rfl, hx1⟩; have hxW := hxZ.out.then ((ext_drew _).then hx1); have hZ1 := (((ext_drew _).then hx1).block _ (lt_of_block hZZ.out)).trans hZZ.out; have hst3 := store_cells_hash w1 w9.heap.size _ _ hz leaf hZ1))
      all_goals
        go_wp2_with fail
        go_meet
        first
          | exact ⟨_, rfl, heap_alloc_new w1 _, hxW.then (ext_alloc _ _)⟩
          | exact ⟨_, rfl, setRow_heap _ _ _ _ _ _ hZ1, below_setRow hxW (Nat.le_refl _) _⟩
    case rest =>
      obtain ⟨X, rfl, hX, hx12⟩ := hcut
      obtain ⟨w12, rfl⟩ : ∃ v, v = wc := ⟨_, rfl⟩
      have rX := rowAt_whole hX (size_bcells leaf)
      have rX12 := rowAt_ext (ext_drew w12) rX
      have O12 := hide ((O9.out.ext hx12).ext (ext_drew w12))
      have exw := hide (O9.out.ex.then hx12)
      clear rH rH0 hbD hbZ hZZ hxZ hX hRc O9 hx12
      have hu := Try.underlying23
      have hiX := info_hash leaf
      have hSX : ∀ w' : World, rowAt w' X 0 32 = some (bcells leaf) → w'.rangeAt X 0 (bcells leaf).toList := fun w' h => range_of_row h
      replace hSX := hide hSX
      obtain ⟨i1, hi1, hz0, hz1, hz2⟩ := info_parts info_bytes
      have h63 : 4 + 4 ≤ maxLen := by unfold maxLen; omega
      have hby : (4 + 4) * 24 ≤ 140737488355328 := by omega
      have hxD := ext_drew w12
      go_wp2_with fail
      refine wp_region_held_drew (S := (fun w' => w'.rangeAt X 0 (bcells leaf).toList)) (by kernel_rfl) (hSX.out _ rX) (fun hHeld => ?_)
      (refine wpAnyH_take (i := 0) (v := _) (by simp only [List.getElem?_toArray, List.getElem?_cons_succ, List.getElem?_cons_zero]; exact rfl) (by kernel_rfl) (by kernel_rfl) (by kernel_rfl) (by exact fun _ _ _ h => h) (yieldsIf_load_mid (by rfl) _ _ rfl _ _ rfl _ _ (by (intro wz hSz; (try dsimp only at hSz); go_split_ands; assumption)) hu rfl hiX) (by assumption) ?_; simp only [Act.put, List.setIfInBounds_toArray, List.set_cons_zero, List.set_cons_succ, Array.toArray_toList])
      (refine wpAnyH_take (i := 1) (v := ?_) (by simp only [List.getElem?_toArray, List.getElem?_cons_succ, List.getElem?_cons_zero]; exact rfl) (by kernel_rfl) (by kernel_rfl) (by kernel_rfl) (by exact fun _ _ _ h => h) (Or.inl ⟨by rfl, ?_⟩) (by assumption) ?_; rotate_left; (intro wz hSz; go_simp; try (with_reducible rfl)); simp only [Act.put, List.setIfInBounds_toArray, List.set_cons_zero, List.set_cons_succ])
      (refine wpAnyH_take (i := 2) (v := ?_) (by simp only [List.getElem?_toArray, List.getElem?_cons_succ, List.getElem?_cons_zero]; exact rfl) (by kernel_rfl) (by kernel_rfl) (by kernel_rfl) (by exact fun _ _ _ h => h) (Or.inl ⟨by rfl, ?_⟩) (by assumption) ?_; rotate_left; (intro wz hSz; go_simp; try (with_reducible rfl)); simp only [Act.put, List.setIfInBounds_toArray, List.set_cons_zero, List.set_cons_succ])
      (refine wpAnyH_take (i := 5) (v := _) (by simp only [List.getElem?_toArray, List.getElem?_cons_succ, List.getElem?_cons_zero]; exact rfl) (by kernel_rfl) (by kernel_rfl) (by kernel_rfl) (by exact fun _ _ _ h => h) (yieldsIf_load_mid (by rfl) _ _ rfl _ _ rfl _ _ (by (intro wz hSz; (try dsimp only at hSz); go_split_ands; assumption)) hu rfl hiX) (by assumption) ?_; simp only [Act.put, List.setIfInBounds_toArray, List.set_cons_zero, List.set_cons_succ, Array.toArray_toList])
      (refine wpAnyH_take (i := 6) (v := ?_) (by simp only [List.getElem?_toArray, List.getElem?_cons_succ, List.getElem?_cons_zero]; exact rfl) (by kernel_rfl) (by kernel_rfl) (by kernel_rfl) (by exact fun _ _ _ h => h) (Or.inl ⟨by rfl, ?_⟩) (by assumption) ?_; rotate_left; (intro wz hSz; go_simp; try (with_reducible rfl)); simp only [Act.put, List.setIfInBounds_toArray, List.set_cons_zero, List.set_cons_succ])
      (refine wpAnyH_take (i := 7) (v := ?_) (by simp only [List.getElem?_toArray, List.getElem?_cons_succ, List.getElem?_cons_zero]; exact rfl) (by kernel_rfl) (by kernel_rfl) (by kernel_rfl) (by exact fun _ _ _ h => h) (Or.inl ⟨by rfl, ?_⟩) (by assumption) ?_; rotate_left; (intro wz hSz; go_simp; try (with_reducible rfl)); simp only [Act.put, List.setIfInBounds_toArray, List.set_cons_zero, List.set_cons_succ])
      refine wpAnyH_ready (rs := [3]) (by kernel_rfl) (by simp) (AllReadyH.cons (o := _) (by simp only [List.getElem?_toArray, List.getElem?_cons_succ, List.getElem?_cons_zero]; exact rfl) (fun K' hK' => ?_) AllReadyH.nil)
      go_simp
      go_at_call 23
      (with_reducible refine (hP1.out _ O12.out.sg).mono ?_)
      rintro r w13 ⟨⟨v13, rfl, hown13⟩, hx13⟩
      obtain ⟨gp, cpp, rfl, _, _⟩ := hown13.form (by omega)
      have hcpp := own_caps hown13
      have hh13 := hashes_congr (hashes_own hown13 (by simp)) (H' := pathC c) (fun x hx => by simp [List.getD, hx])
      have O13 := O12.out.ext hx13
      have rX13 := rowAt_ext hx13 rX12
      have hE13 := hxD.then hx13
      go_wp2_with fail
      refine hK'.out _ _ (hSX.out _ rX13) (fun hHeld => ?_)
      clear hK' K'
      try simp only [Act.put, List.setIfInBounds_toArray, List.set_cons_zero, List.set_cons_succ]
      refine wpAnyH_ready (rs := [4]) (by kernel_rfl) (by simp) (AllReadyH.cons (o := _) (by simp only [List.getElem?_toArray, List.getElem?_cons_succ, List.getElem?_cons_zero]; exact rfl) (fun K' hK' => ?_) AllReadyH.nil)
      go_simp
      go_at_call 22
      (with_reducible refine (texts_any leaf i (some ⟨gp, 0, none⟩) 4 cpp (pathC c) _ hcpp.1 (by omega) hcpp.2 hh13 (by omega)).mono ?_)
      rintro r w14 ⟨⟨v14, L1, rfl, hown1, hsl1⟩, hx14⟩
      obtain ⟨g1, cp1, rfl, _, _⟩ := hown1.form (by omega)
      have O14 := O13.ext hx14
      have rX14 := rowAt_ext hx14 rX13
      have hE14 := hE13.then hx14
      go_wp2_with fail
      refine hK'.out _ _ (hSX.out _ rX14) (fun hHeld => ?_)
      clear hK' K'
      try simp only [Act.put, List.setIfInBounds_toArray, List.set_cons_zero, List.set_cons_succ]
      refine wpAnyH_ready (rs := [8]) (by kernel_rfl) (by simp) (AllReadyH.cons (o := _) (by simp only [List.getElem?_toArray, List.getElem?_cons_succ, List.getElem?_cons_zero]; exact rfl) (fun K' hK' => ?_) AllReadyH.nil)
      go_simp
      go_at_call 23
      (with_reducible refine (hP2.out _ O14.st).mono ?_)
      rintro r w15 ⟨⟨v15, rfl, hown15⟩, hx15⟩
      obtain ⟨gq, cpq, rfl, _, _⟩ := hown15.form (by omega)
      have hcpq := own_caps hown15
      have hh15 := hashes_congr (hashes_own hown15 (by simp)) (H' := pathC (turnL c (1088 + q) b)) (fun x hx => by simp [List.getD, hx])
      have rX15 := rowAt_ext hx15 rX14
      have hown1a := own_ext hx15 hown1
      have hsl1a := hsl1.ext hx15
      have hE15 := hE14.then hx15
      go_wp2_with fail
      refine hK'.out _ _ (hSX.out _ rX15) (fun hHeld => ?_)
      clear hK' K'
      try simp only [Act.put, List.setIfInBounds_toArray, List.set_cons_zero, List.set_cons_succ]
      refine wpAnyH_ready (rs := [9]) (by kernel_rfl) (by simp) (AllReadyH.cons (o := _) (by simp only [List.getElem?_toArray, List.getElem?_cons_succ, List.getElem?_cons_zero]; exact rfl) (fun K' hK' => ?_) AllReadyH.nil)
      go_simp
      go_at_call 22
      (with_reducible refine (texts_any leaf i (some ⟨gq, 0, none⟩) 4 cpq (pathC (turnL c (1088 + q) b)) _ hcpq.1 (by omega) hcpq.2 hh15 (by omega)).mono ?_)
      rintro r w16 ⟨⟨v16, L2, rfl, hown2, hsl2⟩, hx16⟩
      obtain ⟨g2, cp2, rfl, _, _⟩ := hown2.form (by omega)
      have rX16 := rowAt_ext hx16 rX15
      have hown1b := own_ext hx16 hown1a
      have hsl1b := hsl1a.ext hx16
      have hg1w := (hown1.lt g1 rfl).2
      have hz15 := hx15.size
      have hsl2b := hsl2.other (row' := some g1) (fun k hk => by obtain rfl := Option.some.inj hk; omega)
      have hcl2 := hide (hown2.cells rfl)
      have hon2 := hide hsl2.one
      have hl2b := hown2.1
      have hlo : w13.heap.size ≤ w15.heap.size := Nat.le_trans hx14.size hx15.size
      have hsz6 : w13.heap.size ≤ w16.heap.size := Nat.le_trans hlo hx16.size
      have hE16 := hE15.then hx16
      go_wp2_with fail
      refine hK'.out _ _ (hSX.out _ rX16) (fun hHeld => ?_)
      clear hK' K'
      try simp only [Act.put, List.setIfInBounds_toArray, List.set_cons_zero, List.set_cons_succ]
      refine wpAnyH_ready (rs := [10]) (by kernel_rfl) (by simp) (AllReadyH.cons (o := _) (by simp only [List.getElem?_toArray, List.getElem?_cons_succ, List.getElem?_cons_zero]; exact rfl) (fun K' hK' => ?_) AllReadyH.nil)
      rw [if_pos (by rfl)]
      refine wp_append_lies _ _ _ 43 rfl w13.heap.size 27 i1 (.slice none 0 0) 1 24 Try.underlying43 hi1 hz0 hz1 hz2 rfl (by decide) (.slice (some ⟨g1, 0, none⟩) 4 cp1) 4 L1 (by simp [Act.eval, Act.put]) hown1b ⟨g2, 0, none⟩ 4 cp2 L2 (by simp [Act.eval, Act.put]) hl2b hcl2.out hon2.out (by omega) h63 hby hsz6 _ rfl ?_
      intro g17 cp17 w17 hown17 hgrow17 hat17 hlt17
      have hsA := hsl1b.grown hgrow17 hat17
      have hsB := (hsl2b.grown hgrow17 hat17).down hlo
      have hpi := pieces_own hown17 (hsA.app hsB) (by rw [List.length_append, hl1.out, hl2.out])
      have hcp17 := own_caps hown17
      have hB13 : Below w13.heap.size w16 w17 := (Below.refl _ _).grown hgrow17 hsz6 (fun k hk => (hown1b.lt k hk).1)
      have hX13 := lt_of_row rX13
      have rX17 := (rowAt_below hB13 hX13 0 32).trans rX16
      have hE17 := ext_grown hE16 hgrow17 (fun k hk => Nat.le_trans hE13.size (hown1b.lt k hk).1)
      refine hK'.out _ _ (hSX.out _ rX17) (fun hHeld => ?_)
      clear hK' K'
      try simp only [Act.put, List.setIfInBounds_toArray, List.set_cons_zero, List.set_cons_succ]
      refine wpAnyH_ready (rs := [11]) (by kernel_rfl) (by simp) (AllReadyH.cons (o := _) (by simp only [List.getElem?_toArray, List.getElem?_cons_succ, List.getElem?_cons_zero]; exact rfl) (fun K' hK' => ?_) AllReadyH.nil)
      go_simp
      go_at_call 21
      (with_reducible refine (clash_any (some ⟨g17, 0, none⟩) (4 + 4) cp17 (textsC (pathC c) leaf i 4 ++ textsC (pathC (turnL c (1088 + q) b)) leaf i 4) _ hcp17.1 hcp17.2 (by omega) hpi (fun k hk => by rw [hlen.out k hk]; omega) i0 k0 hik hk0 hsum.out hneq.out).mono ?_)
      rintro r w18 ⟨rfl, hx18⟩
      have rX18 := rowAt_ext hx18 rX17
      have hE18 := hE17.then hx18
      go_wp2_with fail
      refine hK'.out _ _ (hSX.out _ rX18) (fun hHeld => ?_)
      clear hK' K'
      try simp only [Act.put, List.setIfInBounds_toArray, List.set_cons_zero, List.set_cons_succ]
      (refine wpAnyH_take (i := 12) (v := ?_) (by simp only [List.getElem?_toArray, List.getElem?_cons_succ, List.getElem?_cons_zero]; exact rfl) (by kernel_rfl) (by kernel_rfl) (by kernel_rfl) (by exact fun _ _ _ h => h) (Or.inl ⟨by rfl, ?_⟩) (by assumption) ?_; rotate_left; (intro wz hSz; go_simp; try (with_reducible rfl)); simp only [Act.put, List.setIfInBounds_toArray, List.set_cons_zero, List.set_cons_succ])
      refine wpAnyH_done (by kernel_rfl) ?_ _
      go_wp2_with fail
      go_ret
      exact ⟨rfl, exw.out.then hE18⟩
set_option maxHeartbeats 16000000 in
theorem keyApart_walk (s : ByteArray) (i : Int) (h : Bs 32) (at_ : Int) (b : UInt8) (w : World) :
    Calls Try.prog 5 #[.string s, .int .i64 i, .agg (bcells h), .int .i64 at_, .int .u8 (b.toNat : Int)] w fun r w' => r = .returned (.bool true) ∧ Ext w w' := by
  by_cases hok : ¬ 100 < s.size ∧ (0 ≤ i ∧ i ≤ 15) ∧ (0 ≤ at_ ∧ at_ ≤ 127) ∧ b ≠ 0
  · obtain ⟨h1, ⟨h2, h3⟩, ⟨h4, h5⟩, h6⟩ := hok
    obtain ⟨i, rfl⟩ := Int.eq_ofNat_of_zero_le h2
    obtain ⟨q, rfl⟩ := Int.eq_ofNat_of_zero_le h4
    exact keyApart_main s i h q b w h1 (by omega) (by omega) h6
  · have hx := hide (ext_alloc w (.cells (bcells h) 23))
    by_cases h1 : 100 < s.size
    · have d0 : decide ((100 : Int) < s.size) = true := by simp; omega
      have d0' : decide (100 < s.size) = true := by simpa using h1
      go_enter Try.func5, Try.ntmps5; go_wp2_with (go_at_call 9; (with_reducible refine (known08 _).mono ?_); rintro r wk ⟨rfl, hxk⟩); go_ret; exact ⟨rfl, hx.out.then hxk⟩
    · have d0 : decide ((100 : Int) < s.size) = false := by simp; omega
      have d0' : decide (100 < s.size) = false := by simpa using h1
      by_cases h2 : i < 0
      · have d1 : decide (i < 0) = true := by simpa using h2
        go_enter Try.func5, Try.ntmps5; go_wp2_with (go_at_call 9; (with_reducible refine (known08 _).mono ?_); rintro r wk ⟨rfl, hxk⟩); go_ret; exact ⟨rfl, hx.out.then hxk⟩
      · have d1 : decide (i < 0) = false := by simpa using h2
        by_cases h3 : 15 < i
        · have d2 : decide ((15 : Int) < i) = true := by simpa using h3
          go_enter Try.func5, Try.ntmps5; go_wp2_with (go_at_call 9; (with_reducible refine (known08 _).mono ?_); rintro r wk ⟨rfl, hxk⟩); go_ret; exact ⟨rfl, hx.out.then hxk⟩
        · have d2 : decide ((15 : Int) < i) = false := by simpa using h3
          by_cases h4 : at_ < 0
          · have d3 : decide (at_ < 0) = true := by simpa using h4
            go_enter Try.func5, Try.ntmps5; go_wp2_with (go_at_call 9; (with_reducible refine (known08 _).mono ?_); rintro r wk ⟨rfl, hxk⟩); go_ret; exact ⟨rfl, hx.out.then hxk⟩
          · have d3 : decide (at_ < 0) = false := by simpa using h4
            by_cases h5 : 127 < at_
            · have d4 : decide ((127 : Int) < at_) = true := by simpa using h5
              go_enter Try.func5, Try.ntmps5; go_wp2_with (go_at_call 9; (with_reducible refine (known08 _).mono ?_); rintro r wk ⟨rfl, hxk⟩); go_ret; exact ⟨rfl, hx.out.then hxk⟩
            · have d4 : decide ((127 : Int) < at_) = false := by simpa using h5
              have hb : b = 0 := Decidable.byContradiction fun hb => hok ⟨h1, ⟨by omega, by omega⟩, ⟨by omega, by omega⟩, hb⟩
              subst hb
              go_enter Try.func5, Try.ntmps5; go_wp2_with (go_at_call 9; (with_reducible refine (known08 _).mono ?_); rintro r wk ⟨rfl, hxk⟩); go_ret; exact ⟨rfl, hx.out.then hxk⟩
end Go.Proofs.Ytfdllhhdjiklfaa
