/- The walk of the law on blobs and joining. -/
import Derived.Test.YtoiiapjmmjmeoaaKnown1
import Derived.Test.YtoiiapjmmjmeoaaWjoin
import Derived.Test.YtoiiapjmmjmeoaaMuch
import Derived.Deep.RegionHeld3
namespace Go.Proofs.Ytoiiapjmmjmeoaa
open Go.RowKit
set_option linter.unusedVariables false
set_option linter.unusedSimpArgs false

/-- One piece, in a slice that is made for it. -/
theorem one_piece {w : World} {a : Option Addr} {p p' : Nat} {x : List UInt8} (hx : BytesIn w a p x) (hp : p ≤ p') (mp : p' ≤ maxLen) :
    PiecesIn (w.alloc (.cells #[.slice a p p'] 22)) (some ⟨w.heap.size, 0, none⟩) 1 [x] := by
  have hE := ext_alloc w (.cells #[.slice a p p'] 22)
  have hn := heap_alloc_new w (.cells #[.slice a p p'] 22)
  refine ⟨rfl, fun _ => ⟨_, rfl, fun i hi => ?_⟩⟩
  obtain rfl : i = 0 := by omega
  have hadd : (⟨w.heap.size, 0, none⟩ : Addr).add 0 = ⟨w.heap.size, 0, none⟩ := rfl
  rw [hadd, cell_of_row _ _ 0 _ _ _ hn]
  exact ⟨a, p, p', rfl, hp, mp, hx.ext hE⟩
/-- A part of bytes that a slice holds. -/
theorem bytes_sub {w : World} {ad : Addr} {n : Nat} {c : List UInt8} (h : BytesIn w (some ad) n c) (i q : Nat) (hi : i + q ≤ n) : BytesIn w (some (ad.add i)) q ((c.drop i).take q) := by
  have hl := h.1
  refine ⟨by rw [List.length_take, List.length_drop]; omega, fun h0 => ⟨_, rfl, fun j hj => ?_⟩⟩
  obtain ⟨ad', e, h2⟩ := h.2 (by omega)
  obtain rfl := Option.some.inj e
  rw [addr_add, h2 (i + j) (by omega)]
  simp [List.getD, List.getElem?_take_of_lt hj]
theorem flat_sub (ps : List (List UInt8)) : ∀ i, i < ps.length → (ps.flatten.drop (ps.take i).flatten.length).take (ps.getD i []).length = ps.getD i []
  | i, h => by
    conv => lhs; rw [← List.take_append_drop i ps]
    have e1 : (List.take i (List.take i ps ++ List.drop i ps)) = List.take i ps := by rw [List.take_append_drop]
    have e2 : (List.take i ps ++ List.drop i ps).getD i [] = ps.getD i [] := by rw [List.take_append_drop]
    rw [e1, e2, List.flatten_append, List.drop_left, List.drop_eq_getElem_cons h, List.flatten_cons]
    have e3 : ps.getD i [] = ps[i] := by simp [List.getD, h]
    rw [e3, List.take_left]
theorem run_slice_tail (ad : Addr) (n cap i : Nat) (hi : i ≤ n) (hn : n ≤ cap) : ∃ A2, (∀ W, (Instr.slice 22 (.slice (some ad) n cap) (some (.int .i64 (i : Int))) none none).run Try.prog W = .ok (.slice (some A2) (n - i) (cap - i)) W) ∧ (i < cap → A2 = ad.add i) := by
  obtain ⟨i0, hi0, hz0, hz1, hz2⟩ := info_parts info_u8
  have hz : ∀ w, (Go.sizeOf 5).run Try.prog w = .ok 1 w := fun w => by simp [Go.sizeOf, typeInfo, hi0, hz1]
  have ht' : Try.prog.underlying 22 = some (.slice (Try.prog.elem 22)) := by simp [Program.elem, Try.underlying22]
  have he : Try.prog.elem 22 = 5 := by simp [Program.elem, Try.underlying22]
  refine ⟨if cap = i then ad else ad.add i, fun W => ?_, fun h => if_neg (by omega)⟩
  rw [run_slice_l W 22 _ _ _ ht' .i64 _ (by omega) (by omega), he, hz]
  by_cases h0 : cap = i
  · simp [Result.andThen, sliced, h0]
  · simp [Result.andThen, sliced, h0]
/-- A part of a slice of bytes, by one name. -/
theorem run_slice_part {w : World} {aj : Option Addr} {n cap t q : Nat} {c : List UInt8} (h : BytesIn w aj n c) (hn : n ≤ cap) (hnil : aj = none → n = 0 ∧ cap = 0) (ht : t + q ≤ n) : ∃ A2, (∀ W, (Instr.slice 22 (.slice aj n cap) (some (.int .i64 (t : Int))) (some (.int .i64 ((t : Int) + q))) none).run Try.prog W = .ok (.slice A2 q (cap - t)) W) ∧ BytesIn w A2 q ((c.drop t).take q) := by
  obtain ⟨i0, hi0, hz0, hz1, hz2⟩ := info_parts info_u8
  have hz : ∀ w, (Go.sizeOf 5).run Try.prog w = .ok 1 w := fun w => by simp [Go.sizeOf, typeInfo, hi0, hz1]
  have ht' : Try.prog.underlying 22 = some (.slice (Try.prog.elem 22)) := by simp [Program.elem, Try.underlying22]
  have he : Try.prog.elem 22 = 5 := by simp [Program.elem, Try.underlying22]
  have hq : ((t : Int) + q).toNat - t = q := by omega
  refine ⟨if cap = t then aj else aj.map fun x => x.add t, fun W => ?_, ?_⟩
  · rw [run_slice_lh W 22 _ _ _ ht' .i64 .i64 _ _ (by omega) (by omega) (by omega), he, hz]
    by_cases h0 : cap = t
    · subst h0
      simp [Result.andThen, sliced, hq]
    · cases aj with
      | none => have := (hnil rfl).2; simp [Result.andThen, sliced, h0, hq]
      | some ad => simp [Result.andThen, sliced, h0, hq]
  · have hl := h.1
    rcases Nat.eq_zero_or_pos q with h0 | h0
    · rw [h0, List.take_zero]; exact bytes_none _ _
    · rw [if_neg (by omega)]
      cases aj with
      | none => have := (hnil rfl).1; omega
      | some ad => exact bytes_sub h t q ht
/-- A blob's field, told apart. -/
theorem blob_cells {w : World} {g p cf : Nat} {x : List UInt8} (hxl : x.length = p) (hp : p ≤ 65535) (h : BytesIn w (some ⟨g, 0, none⟩) (2 + p) (blobL x)) (hcf : 2 + p ≤ cf) :
    ∃ (H L : Nat) (A2 : Addr), H < 256 ∧ L < 256 ∧ H * 256 + L = p ∧ w.cell? ⟨g, 0, none⟩ = some (.int .u8 (H : Int)) ∧ w.cell? ⟨g, 1, none⟩ = some (.int .u8 (L : Int)) ∧ (∀ W, (Instr.slice 22 (.slice (some ⟨g, 0, none⟩) (2 + p) cf) (some (.int .i64 2)) none none).run Try.prog W = .ok (.slice (some A2) p (cf - 2)) W) ∧ BytesIn w (some A2) p x := by
  obtain ⟨A2, hs, hA⟩ := run_slice_tail ⟨g, 0, none⟩ (2 + p) cf 2 (by omega) hcf
  rw [Nat.add_sub_cancel_left] at hs
  have hb : BytesIn w (some A2) p x := by
    rcases Nat.eq_zero_or_pos p with h0 | h0
    · rw [h0, List.eq_nil_of_length_eq_zero (by omega : x.length = 0)]; exact bytes_none _ _
    · have hd := bytes_drop h 2 (by omega)
      rw [Nat.add_sub_cancel_left, show (blobL x).drop 2 = x from List.drop_left' (length_putL _ 2)] at hd
      rw [hA (by omega), add_flat]; exact hd
  obtain ⟨ad, e, hc⟩ := h.2 (by omega)
  obtain rfl := Option.some.inj e
  have h0 := hc 0 (by omega)
  have h1 := hc 1 (by omega)
  rw [add_flat] at h0 h1
  have g0 : (blobL x).getD 0 0 = UInt8.ofNat (p / 256) := by unfold blobL; rw [hxl]; rfl
  have g1 : (blobL x).getD 1 0 = UInt8.ofNat p := by unfold blobL; rw [hxl]; simp [putL, p256]
  rw [g0] at h0
  rw [g1] at h1
  refine ⟨p / 256, p % 256, A2, by omega, by omega, by omega, ?_, ?_, hs, hb⟩
  · rw [h0]; simp [cb]; omega
  · rw [h1]; simp [cb]
theorem blob_nums {H L p : Nat} (hH : H < 256) (hL : L < 256) (h : H * 256 + L = p) : IntKind.i64.wrap ((p : Int) + 2) = 2 + (p : Int) ∧ IntKind.i64.wrap ((H : Int) * 256) = (H : Int) * 256 ∧ IntKind.i64.wrap ((H : Int) * 256 + L) = p ∧ (H : Int) * 256 + L = p ∧ IntKind.i64.wrap (H : Int) = H ∧ IntKind.i64.wrap (L : Int) = L ∧ 0 < 2 + p ∧ 1 < 2 + p := by
  simp only [IntKind.wrap_i64]
  omega
set_option maxHeartbeats 8000000 in
set_option maxRecDepth 100000 in
theorem fieldBlobs_walk (a ad : Option Addr) (p cp n cap : Nat) (x : List UInt8) (ps : List (List UInt8)) (w : World) (hpc : p ≤ cp) (hcp : cp ≤ maxLen) (hn : n ≤ cap) (hcap : cap ≤ maxLen) (hnil : a = none → p = 0 ∧ cp = 0) (hx : BytesIn w a p x) (hps : PiecesIn w ad n ps) :
    Calls Try.prog 6 #[.slice a p cp, .slice ad n cap] w fun r w' => r = .returned (.bool true) ∧ Ext w w' := by
  have hmu : Calls Try.prog 27 #[.slice ad n cap, .int .i64 3000] w fun r w' => MuchIs n 3000 ps r ∧ w' = w := much_any ad n cap 3000 ps w hn hcap (by omega) hps
  have hxl := hide hx.1
  have hx' := hide hx
  have hps' := hide hps
  clear hx hps
  by_cases h7 : 70000 < p
  · have hd : decide ((70000 : Int) < p) = true := decide_eq_true (by omega)
    go_enter Try.func6, Try.ntmps6
    go_wp2_with (first | (go_at_call 9; (with_reducible refine (known1_any _).mono ?_); rintro r wk ⟨rfl, hxk⟩))
    go_ret
    exact ⟨rfl, hxk⟩
  · have hd : decide ((70000 : Int) < p) = false := decide_eq_false (by omega)
    obtain ⟨F, hF⟩ : ∃ F, F = ps.flatten := ⟨_, rfl⟩
    have hjn : n + F.length ≤ 3000 → ∀ w0, Ext w w0 → Calls Try.prog 25 #[.slice ad n cap] w0 fun r w' => ∃ aj cj, r = .returned (.slice aj F.length cj) ∧ F.length ≤ cj ∧ cj ≤ maxLen ∧ (aj = none → F.length = 0 ∧ cj = 0) ∧ BytesIn w' aj F.length F ∧ Ext w0 w' := fun hmm w0 h0 => by
      refine (wjoin_any ad n cap ps w0 hn hcap (hps'.out.ext h0) (by rw [← hF]; omega)).mono fun r w' hp => ?_
      obtain ⟨v, hr, ⟨aj, cj, h1, h2, h3, h4, h5⟩, hx⟩ := hp
      rw [← hF] at h1 h2 h4 h5
      exact ⟨aj, cj, by rw [hr, h1], h2, h3, h4, h5, hx⟩
    unfold MuchIs at hmu
    rw [← hF] at hmu
    have hF' := hide hF
    clear hF
    replace hjn := hide hjn
    by_cases h6 : 65535 < p
    all_goals
      (first | have hd2 : decide ((65535 : Int) < p) = true := decide_eq_true (by omega) | have hd2 : decide ((65535 : Int) < p) = false := decide_eq_false (by omega))
      go_enter Try.func6, Try.ntmps6
      go_wp2_with (first
        | (go_at_call 9; (with_reducible refine (known1_any _).mono ?_); rintro r wk ⟨rfl, hxk⟩)
        | (go_at_call 27; (with_reducible refine hmu.mono ?_); rintro r w1 ⟨⟨mb, rfl, hmb⟩, rfl⟩; replace hmb := hide hmb; cases mb)
        | (go_at_call 20; (with_reducible refine (code_any _ _).mono ?_); rintro r wc ⟨rfl, rfl⟩)
        | (go_at_call 28; (with_reducible refine (blob_bad a p cp x _ hx'.out (by rw [hxl.out]; omega)).mono ?_); rintro r w2 ⟨rfl, hx2⟩)
        | (go_at_call 28; (with_reducible refine (blob_ok a p cp x _ hx'.out (by rw [hxl.out]; omega)).mono ?_); rintro r w2 ⟨v, rfl, hown, hx2⟩; rw [hxl.out] at hown; obtain ⟨gf, cf, rfl, hf1, hf2⟩ := hown.form (by omega); have hfin := own_bytes hown (by rw [length_blobL, hxl.out]); have hcf := own_caps hown; clear hown; obtain ⟨H, L, A2, hH, hL, hHL, d0, d1, hsl, hb2⟩ := blob_cells hxl.out (by omega) hfin hcf.1; have cv1 := fun m => conv_bytes (cap := cf - 2) (hb2.drewN m); have cv2 := fun m => conv_bytes (cap := cp) ((hx'.out.ext hx2).drewN m); obtain ⟨j0, j1, j2, j3, j4, j5, j6, j7⟩ := blob_nums hH hL hHL; clear hfin hb2)
        | (go_at_call 25; (with_reducible refine (hjn.out (hmb.out (by trivial)) _ hx2).mono ?_); rintro r w3 ⟨aj, cj, rfl, hj1, hj2, hj3, hj4, hx3⟩; have hx3 := hx2.then hx3))
      all_goals first | (go_ret; exact ⟨rfl, hxk⟩) | skip
      all_goals try (go_quiet (first | (go_at_call 20; exact Calls.quiet_of_same (code_any _ _))); clear cv1 cv2 hsl d0 d1 j0 j1 j2 j3 j4 j5; go_wp2_with (go_at_call 25; (with_reducible refine (hjn.out (hmb.out (by trivial)) _ (hx2.then (ext_drewN _ nq))).mono ?_); rintro r w3 ⟨aj, cj, rfl, hj1, hj2, hj3, hj4, hx3⟩; have hx3 := (hx2.then (ext_drewN _ nq)).then hx3))
      have hpF := hide (hps'.out.ext hx3)
      have hFF := hide hj4
      have hmm := hmb.out (by trivial)
      clear hj4
      obtain ⟨w4, rfl⟩ : ∃ w4, w4 = w3 := ⟨_, rfl⟩
      go_loopw [8, 9] (fun s8 s9 wr => ∃ k m : Nat, k ≤ n ∧ s9 = .int .i64 k ∧ s8 = .int .i64 (((ps.take k).flatten.length : Nat) : Int) ∧ wr = w4.drewN m) (fun _ s _ => (n - intOf s).toNat)
      case atStart => exact ⟨0, 0, Nat.zero_le _, rfl, rfl, rfl⟩
      case round =>
        obtain ⟨k, m, hk, rfl, rfl, rfl⟩ := hrel
        by_cases hlt : k < n
        · obtain ⟨ad0, rfl, hpc0⟩ := hpF.out.2 (by omega)
          obtain ⟨a', q, c', d1, q1, q2, hb⟩ := hpc0 k hlt
          have hpl := hpF.out.1
          have hlt' : (k : Int) < n := by omega
          have hs1 := flat_take ps k (by omega)
          have hs2 := flat_take_le ps (k + 1)
          have hsub := flat_sub ps k (by omega)
          rw [← hF'.out] at hs2 hsub
          rw [hb.1] at hs1 hsub
          have cvq := fun m => conv_bytes (cap := c') (hb.drewN m)
          generalize (ps.take k).flatten.length = t at *
          have ht : t + q ≤ F.length := by omega
          obtain ⟨A2, hsl, hb2⟩ := run_slice_part hFF.out hj1 hj3 ht
          rw [hsub] at hb2
          have cv2 := fun m => conv_bytes (cap := cj - t) (hb2.drewN m)
          have i1 : IntKind.i64.wrap ((t : Int) + q) = (t : Int) + q := by rw [IntKind.wrap_i64]; omega
          have i2 : ¬ (F.length : Int) < (t : Int) + q := by omega
          have i3 : (0 : Int) ≤ t := by omega
          have i4 : (t : Int) ≤ (t : Int) + q := by omega
          have i5 : (t : Int) + q ≤ cj := by omega
          have hd3 : decide ((F.length : Int) < (t : Int) + q) = false := decide_eq_false i2
          have hs1' := hide hs1
          clear hs1 hs2 hsub hpc0
          replace hb := hide hb
          replace hb2 := hide hb2
          generalize ps.getD k [] = c1 at *
          go_wp2_with fail
          go_quiet (fail)
          go_wp2_with fail
          exact ⟨⟨k + 1, m + nq, by omega, by go_num, by rw [hs1'.out, Int.natCast_add], rfl⟩, by simp [intOf]; omega⟩
        · obtain rfl : n = k := by omega
          have hlt' : ¬ (n : Int) < (n : Int) := by omega
          have hall : (ps.take n).flatten.length = F.length := by rw [← hpF.out.1, List.take_length, hF'.out]
          rw [hall]
          go_wp2_with fail
          have hWx : Ext w1 (w4.drewN m) := hx3.then (ext_drewN w4 m)
          have hFW : Hid (BytesIn (w4.drewN m) aj F.length F) := hide (hFF.out.drewN m)
          have hj1' : F.length ≤ 140737488355328 := by omega
          generalize w4.drewN m = W at *
          have hxp : Ext W (W.alloc (.cells #[.slice aj F.length cj] 22)).drew := (ext_alloc W _).then (ext_drew _)
          have hjo : Calls Try.prog 25 #[.slice (some ⟨W.heap.size, 0, none⟩) 1 1] (W.alloc (.cells #[.slice aj F.length cj] 22)).drew fun r w'' => ∃ a2 c2, r = .returned (.slice a2 F.length c2) ∧ Ext W w'' ∧ BytesIn w'' a2 F.length F ∧ BytesIn w'' aj F.length F := by
            have h1 := (one_piece hFW.out hj1 hj2).ext (ext_drew _)
            refine (wjoin_any _ 1 1 [F] _ (Nat.le_refl _) (by decide) h1 (by simpa using hj1')).mono fun r w'' hp => ?_
            obtain ⟨v, hr, ⟨a2, c2, e1, _, _, _, e5⟩, hx⟩ := hp
            rw [show [F].flatten = F by simp] at e1 e5
            have hx' := hxp.then hx
            exact ⟨a2, c2, by rw [hr, e1], hx', e5, hFW.out.ext hx'⟩
          replace hjo := hide hjo
          clear hFF hx3 hpF hjn
          refine wp_region_held_drew (S := (fun w' => BytesIn w' aj F.length F)) (by kernel_rfl) hFW.out (fun hHeld => ?_)
          (refine wpAnyH_take (i := 0) (v := ?_) (by simp only [List.getElem?_toArray, List.getElem?_cons_succ, List.getElem?_cons_zero]; exact rfl) (by kernel_rfl) (by kernel_rfl) (by kernel_rfl) (by exact fun _ _ _ h => h) (Or.inl ⟨by rfl, ?_⟩) (by assumption) ?_; rotate_left; (intro wz hSz; go_simp; try (with_reducible rfl)); simp only [Act.put, List.setIfInBounds_toArray, List.set_cons_zero, List.set_cons_succ])
          (refine wpAnyH_take (i := 1) (v := ?_) (by simp only [List.getElem?_toArray, List.getElem?_cons_succ, List.getElem?_cons_zero]; exact rfl) (by kernel_rfl) (by kernel_rfl) (by kernel_rfl) (by exact fun _ _ _ h => h) (Or.inl ⟨by rfl, ?_⟩) (by assumption) ?_; rotate_left; (intro wz hSz; go_simp; try (with_reducible rfl)); simp only [Act.put, List.setIfInBounds_toArray, List.set_cons_zero, List.set_cons_succ])
          (refine wpAnyH_take (i := 2) (v := ?_) (by simp only [List.getElem?_toArray, List.getElem?_cons_succ, List.getElem?_cons_zero]; exact rfl) (by kernel_rfl) (by kernel_rfl) (by kernel_rfl) (by exact fun _ _ _ h => h) (Or.inl ⟨by rfl, ?_⟩) (by assumption) ?_; rotate_left; (intro wz hSz; go_simp; try (with_reducible rfl)); simp only [Act.put, List.setIfInBounds_toArray, List.set_cons_zero, List.set_cons_succ])
          (refine wpAnyH_take (i := 3) (v := ?_) (by simp only [List.getElem?_toArray, List.getElem?_cons_succ, List.getElem?_cons_zero]; exact rfl) (by kernel_rfl) (by kernel_rfl) (by kernel_rfl) (by exact fun _ _ _ h => h) (Or.inl ⟨by rfl, ?_⟩) (by assumption) ?_; rotate_left; (intro wz hSz; go_simp; try (with_reducible rfl)); simp only [Act.put, List.setIfInBounds_toArray, List.set_cons_zero, List.set_cons_succ])
          (refine wpAnyH_take (i := 4) (v := ?_) (by simp only [List.getElem?_toArray, List.getElem?_cons_succ, List.getElem?_cons_zero]; exact rfl) (by kernel_rfl) (by kernel_rfl) (by kernel_rfl) (by exact fun _ _ _ h => h) (Or.inl ⟨by rfl, ?_⟩) (by assumption) ?_; rotate_left; (intro wz hSz; go_simp; try (with_reducible rfl)); simp only [Act.put, List.setIfInBounds_toArray, List.set_cons_zero, List.set_cons_succ])
          (refine wpAnyH_take (i := 5) (v := ?_) (by simp only [List.getElem?_toArray, List.getElem?_cons_succ, List.getElem?_cons_zero]; exact rfl) (by kernel_rfl) (by kernel_rfl) (by kernel_rfl) (by exact fun _ _ _ h => h) (Or.inl ⟨by rfl, ?_⟩) (by assumption) ?_; rotate_left; (intro wz hSz; go_simp; try (with_reducible rfl)); simp only [Act.put, List.setIfInBounds_toArray, List.set_cons_zero, List.set_cons_succ])
          (refine wpAnyH_take (i := 9) (v := ?_) (by simp only [List.getElem?_toArray, List.getElem?_cons_succ, List.getElem?_cons_zero]; exact rfl) (by kernel_rfl) (by kernel_rfl) (by kernel_rfl) (by exact fun _ _ _ h => h) (Or.inl ⟨by rfl, ?_⟩) (by assumption) ?_; rotate_left; (intro wz hSz; go_simp; try (with_reducible rfl)); simp only [Act.put, List.setIfInBounds_toArray, List.set_cons_zero, List.set_cons_succ])
          (refine wpAnyH_take (i := 10) (v := ?_) (by simp only [List.getElem?_toArray, List.getElem?_cons_succ, List.getElem?_cons_zero]; exact rfl) (by kernel_rfl) (by kernel_rfl) (by kernel_rfl) (by exact fun _ _ _ h => h) (Or.inl ⟨by rfl, ?_⟩) (by assumption) ?_; rotate_left; (intro wz hSz; have cvz := conv_bytes (w := wz) (cap := cj) hSz; go_simp; try (with_reducible rfl)); simp only [Act.put, List.setIfInBounds_toArray, List.set_cons_zero, List.set_cons_succ])
          refine wpAnyH_ready (rs := [6]) (by kernel_rfl) (by simp) (AllReadyH.cons (o := _) (by simp only [List.getElem?_toArray, List.getElem?_cons_succ, List.getElem?_cons_zero]; exact rfl) (fun K' hK' => ?_) AllReadyH.nil); go_simp
          refine hK'.out _ _ (hFW.out.ext hxp) (fun hHeld => ?_); clear hK' K'; try simp only [Act.put, List.setIfInBounds_toArray, List.set_cons_zero, List.set_cons_succ]
          refine wpAnyH_ready (rs := [7]) (by kernel_rfl) (by simp) (AllReadyH.cons (o := _) (by simp only [List.getElem?_toArray, List.getElem?_cons_succ, List.getElem?_cons_zero]; exact rfl) (fun K' hK' => ?_) AllReadyH.nil); go_simp
          go_at_call 25
          (with_reducible refine hjo.out.mono ?_)
          rintro r w5 ⟨a2, c2, rfl, hx5, hb5, hb6⟩
          have cv5 := conv_bytes (cap := c2) hb5
          replace hb5 := hide hb5
          replace hb6 := hide hb6
          go_wp2_with fail
          refine hK'.out _ _ hb6.out (fun hHeld => ?_); clear hK' K'; try simp only [Act.put, List.setIfInBounds_toArray, List.set_cons_zero, List.set_cons_succ]
          refine wpAnyH_ready (rs := [8]) (by kernel_rfl) (by simp) (AllReadyH.cons (o := _) (by simp only [List.getElem?_toArray, List.getElem?_cons_succ, List.getElem?_cons_zero]; exact rfl) (fun K' hK' => ?_) AllReadyH.nil); go_simp
          refine hK'.out _ _ hb6.out (fun hHeld => ?_); clear hK' K'; try simp only [Act.put, List.setIfInBounds_toArray, List.set_cons_zero, List.set_cons_succ]
          (refine wpAnyH_take (i := 11) (v := ?_) (by simp only [List.getElem?_toArray, List.getElem?_cons_succ, List.getElem?_cons_zero]; exact rfl) (by kernel_rfl) (by kernel_rfl) (by kernel_rfl) (by exact fun _ _ _ h => h) (Or.inl ⟨by rfl, ?_⟩) (by assumption) ?_; rotate_left; (intro wz hSz; go_simp; try (with_reducible rfl)); simp only [Act.put, List.setIfInBounds_toArray, List.set_cons_zero, List.set_cons_succ])
          (refine wpAnyH_take (i := 12) (v := ?_) (by simp only [List.getElem?_toArray, List.getElem?_cons_succ, List.getElem?_cons_zero]; exact rfl) (by kernel_rfl) (by kernel_rfl) (by kernel_rfl) (by exact fun _ _ _ h => h) (Or.inl ⟨by rfl, ?_⟩) (by assumption) ?_; rotate_left; (intro wz hSz; go_simp; try (with_reducible rfl)); simp only [Act.put, List.setIfInBounds_toArray, List.set_cons_zero, List.set_cons_succ])
          (refine wpAnyH_take (i := 13) (v := ?_) (by simp only [List.getElem?_toArray, List.getElem?_cons_succ, List.getElem?_cons_zero]; exact rfl) (by kernel_rfl) (by kernel_rfl) (by kernel_rfl) (by exact fun _ _ _ h => h) (Or.inl ⟨by rfl, ?_⟩) (by assumption) ?_; rotate_left; (intro wz hSz; go_simp; try (with_reducible rfl)); simp only [Act.put, List.setIfInBounds_toArray, List.set_cons_zero, List.set_cons_succ])
          refine wpAnyH_ready (rs := [14]) (by kernel_rfl) (by simp) (AllReadyH.cons (o := _) (by simp only [List.getElem?_toArray, List.getElem?_cons_succ, List.getElem?_cons_zero]; exact rfl) (fun K' hK' => ?_) AllReadyH.nil); go_simp
          go_at_call 9
          (with_reducible refine (known1_any _).mono ?_)
          rintro r wk ⟨rfl, hxk⟩
          go_wp2_with fail
          refine hK'.out _ _ (hb6.out.ext hxk) (fun hHeld => ?_); clear hK' K'; try simp only [Act.put, List.setIfInBounds_toArray, List.set_cons_zero, List.set_cons_succ]
          (refine wpAnyH_take (i := 15) (v := ?_) (by simp only [List.getElem?_toArray, List.getElem?_cons_succ, List.getElem?_cons_zero]; exact rfl) (by kernel_rfl) (by kernel_rfl) (by kernel_rfl) (by exact fun _ _ _ h => h) (Or.inl ⟨by rfl, ?_⟩) (by assumption) ?_; rotate_left; (intro wz hSz; go_simp; try (with_reducible rfl)); simp only [Act.put, List.setIfInBounds_toArray, List.set_cons_zero, List.set_cons_succ])
          (refine wpAnyH_take (i := 16) (v := ?_) (by simp only [List.getElem?_toArray, List.getElem?_cons_succ, List.getElem?_cons_zero]; exact rfl) (by kernel_rfl) (by kernel_rfl) (by kernel_rfl) (by exact fun _ _ _ h => h) (Or.inl ⟨by rfl, ?_⟩) (by assumption) ?_; rotate_left; (intro wz hSz; go_simp; try (with_reducible rfl)); simp only [Act.put, List.setIfInBounds_toArray, List.set_cons_zero, List.set_cons_succ])
          refine wpAnyH_done (by kernel_rfl) ?_ _
          go_wp2_with fail
          go_ret
          exact ⟨rfl, (hWx.then hx5).then hxk⟩
end Go.Proofs.Ytoiiapjmmjmeoaa
