/- slash.Signed and the reference's: a vote that may be. -/
import Derived.Test.YtegicioofbhifaaSckU
import Derived.Test.YtegicioofbhifaaKeyC
import Derived.Test.YtegicioofbhifaaRefK
namespace Go.Proofs.Ytegicioofbhifaa
open Go.RowKit
set_option linter.unusedVariables false
set_option linter.unusedSimpArgs false
set_option maxRecDepth 100000
/-- Is a vote signed by a root? -/
def signedB (v : Vt) (c : List UInt8) (root : Bs 32) : Bool := decide (v.sl = 1216) && bsEq (rootC c (v.te.toNat % 16) (hashB (voteL v))) root
theorem number16 (t : Nat) (ht : t ≤ 4611686018427387904) (w : World) : Calls Try.prog 89 #[.int .u64 (t : Int)] w fun r w' => r = .returned (.int .i64 ((t % 16 : Nat) : Int)) ∧ Ext w w' := by
  have h1 : IntKind.u64.wrap ((t : Int).tmod 16) = ((t % 16 : Nat) : Int) := by rw [show (t : Int).tmod 16 = ((t % 16 : Nat) : Int) from (Int.ofNat_tmod t 16).symm, IntKind.wrap_u64]; omega
  have h2 : (t : Int).tmod 16 = ((t % 16 : Nat) : Int) := (Int.ofNat_tmod t 16).symm
  have h3 : IntKind.i64.wrap ((t % 16 : Nat) : Int) = ((t % 16 : Nat) : Int) := by rw [IntKind.wrap_i64]; omega
  go_enter Try.func89, Try.ntmps89
  go_wp2_with fail
  go_ret
  exact ⟨by first | rfl | (rw [h1]; rfl) | (congr 2; omega), Below.refl _ _⟩
theorem one_text {w : World} {a : Option Addr} {p p' : Nat} {x : List UInt8} (hx : BytesIn w a p x) (hp : p ≤ p') (mp : p' ≤ maxLen) (N : Nat) (hN : w.heap.size = N) :
    PiecesIn (w.alloc (.cells #[.slice a p p'] 27)) (some ⟨N, 0, none⟩) 1 [x] := by
  subst hN
  have hE := ext_alloc w (.cells #[.slice a p p'] 27)
  have hn := heap_alloc_new w (.cells #[.slice a p p'] 27)
  refine ⟨rfl, fun _ => ⟨_, rfl, fun i hi => ?_⟩⟩
  obtain rfl : i = 0 := by omega
  have hadd : (⟨w.heap.size, 0, none⟩ : Addr).add 0 = ⟨w.heap.size, 0, none⟩ := rfl
  rw [hadd, cell_of_row _ _ 0 _ _ _ hn]
  exact ⟨a, p, p', rfl, hp, mp, hx.ext hE⟩
/-- What key.Check says of a vote's signature. -/
theorem checkV (v : Vt) (c : List UInt8) (root : Bs 32) (t : Nat) (ht : v.te = t) (W : World) (hc : SigIn W v c) : ∃ e : Int, (∀ w', Ext W w' → Calls Try.prog 15 #[.agg (bcells root), .int .i64 ((t % 16 : Nat) : Int), .agg (bcells (hashB (voteL v))), .slice v.sa v.sl v.sc] w' fun r w'' => r = .returned (.int .i64 e) ∧ Ext w' w'') ∧ (signedB v c root = true → e = 0) ∧ (signedB v c root = false → ¬ e = 0) := by
  have h16 : t % 16 < 16 := Nat.mod_lt _ (by omega)
  have htt : v.te.toNat = t := by omega
  unfold signedB
  rw [htt]
  by_cases h : v.sl = 1216
  · refine ⟨chkE (bsEq (rootC c (t % 16) (hashB (voteL v))) root), fun w' hx => ?_, fun h1 => ?_, fun h1 => ?_⟩
    · have hb := hc.1.ext hx
      rw [h] at hb
      rw [h]
      exact check_any root (hashB (voteL v)) (t % 16) h16 v.sa v.sc c w' (by have := hc.2.1; omega) hc.2.2.1 hb
    · simp [h] at h1; rw [h1]; rfl
    · simp [h] at h1; rw [h1]; decide
  · refine ⟨4, fun w' hx => check_bytes root (hashB (voteL v)) _ v.sa v.sl v.sc w' ⟨by omega, by omega⟩ h (by have := hc.2.1; have := hc.2.2.1; omega), fun h1 => ?_, fun _ => by decide⟩
    simp [h] at h1
theorem refCheckV (v : Vt) (c : List UInt8) (root : Bs 32) (t : Nat) (ht : v.te = t) (W : World) (hc : SigIn W v c) (h : v.sl = 1216) : ∀ w', Ext W w' → Calls Try.prog 51 #[.agg (bcells root), .int .i64 ((t % 16 : Nat) : Int), .agg (bcells (hashB (voteL v))), .slice v.sa 1216 v.sc] w' fun r w'' => r = .returned (.bool (signedB v c root)) ∧ Ext w' w'' := fun w' hx => by
  have h16 : t % 16 < 16 := Nat.mod_lt _ (by omega)
  have htt : v.te.toNat = t := by omega
  have e : signedB v c root = bsEq (rootC c (t % 16) (hashB (voteL v))) root := by unfold signedB; rw [htt]; simp [h]
  rw [e]
  have hb := hc.1.ext hx
  rw [h] at hb
  exact refCheck_any root (hashB (voteL v)) (t % 16) h16 v.sa v.sc c w' (by have := hc.2.1; omega) hb
attribute [local go_sem ↓] exec_Vote exec_Point step_Vote step_Point
attribute [local go_sem ↓] loadCells_blk
attribute [local go_sem] run_blkLoad rowAt_new rowAt_old rowAt_drew size_vtCells vt_whole size_bcells bc_whole
set_option maxHeartbeats 16000000 in
theorem signed_any (v : Vt) (c : List UInt8) (m s t : Nat) (hv : MayIs v m s t) (hmay : mayB v = true) (root : Bs 32) (w : World) (hc : SigIn w v c) :
    Calls Try.prog 48 #[.agg (vtCells v), .agg (bcells root)] w fun r w' => r = .returned (.int .i64 (chkE (signedB v c root))) ∧ Ext w w' := by
  have hxA := ext_alloc w (.cells (vtCells v) 50)
  have hxB := ext_alloc (w.alloc (.cells (vtCells v) 50)) (.cells (bcells root) 23)
  have hV := (vtAt_new w v).ext hxB
  have hR : rowAt ((w.alloc (.cells (vtCells v) 50)).alloc (.cells (bcells root) 23)) (w.heap.size + 1) 0 32 = some (bcells root) := by
    have := rowAt_blk (heap_alloc_new (w.alloc (.cells (vtCells v) 50)) (.cells (bcells root) 23)) (size_bcells root)
    simpa using this
  have hx := hxA.then hxB
  have hVr := hV.row
  have hT := fun w' => text_any v m s t hv hmay w'
  have hM := fun w' => mayVote_any v w'
  rw [hmay] at hM
  have hN := fun w' => number16 t (by have := hv.t62; omega) w'
  obtain ⟨e, hK, he1, he2⟩ := checkV v c root t hv.te w hc
  have hte := hv.te
  have hcase : Hid ((signedB v c root = true ∧ e = 0) ∨ (signedB v c root = false ∧ ¬ e = 0)) := hide (by
    cases h : signedB v c root
    · exact .inr ⟨rfl, he2 h⟩
    · exact .inl ⟨rfl, he1 h⟩)
  clear he1 he2
  clear hxA hxB
  generalize t % 16 = q at hN hK
  obtain ⟨W, hW⟩ : ∃ W, W = (w.alloc (.cells (vtCells v) 50)).alloc (.cells (bcells root) 23) := ⟨_, rfl⟩
  rw [← hW] at hV hR hx hVr
  have hWe : (w.alloc (.cells (vtCells v) 50)).alloc (.cells (bcells root) 23) = W := hW.symm
  clear hW
  replace hT := hide hT
  replace hM := hide hM
  replace hN := hide hN
  replace hK := hide hK
  replace hV := hide hV
  replace hx := hide hx
  have hlv := length_voteL v
  replace hlv := hide hlv
  replace hte := hide hte
  go_enter Try.func48, Try.ntmps48
  go_wp2_with (first
    | (go_at_call 88; (with_reducible refine (hT.out _).mono ?_); rintro r w1 ⟨⟨x, rfl, ax, kx, rfl, hkx, hmx, _, hh⟩, hx1⟩; have hV1 := hide (hV.out.ext hx1); have hVr1 := hV1.out.row; have hR1 := rowAt_ext hx1 hR; replace hh := hide hh)
    | (go_at_call 47; (with_reducible refine (hM.out _).mono ?_); rintro r w2 ⟨rfl, hx2⟩))
  have hxW2 := hx1.then hx2
  have hS : Hid (∀ w' : World, Ext W w' → (VtAt w' w.heap.size v ∧ rowAt w' (w.heap.size + 1) 0 32 = some (bcells root))) := hide fun w' h => ⟨hV.out.ext h, rowAt_ext h hR⟩
  have hSr : Hid (∀ w' : World, (VtAt w' w.heap.size v ∧ rowAt w' (w.heap.size + 1) 0 32 = some (bcells root)) → CellsIn w' ⟨w.heap.size + 1, 0, none⟩ (bcells root)) := hide fun w' h => cells_row h.2 (size_bcells _)
  have hSt : Hid (∀ w' : World, (VtAt w' w.heap.size v ∧ rowAt w' (w.heap.size + 1) 0 32 = some (bcells root)) → w'.cell? ⟨w.heap.size, 34, none⟩ = some (.int .u64 (t : Int))) := hide fun w' h => by rw [h.1.te, hte.out]
  have hSg : Hid (∀ w' : World, (VtAt w' w.heap.size v ∧ rowAt w' (w.heap.size + 1) 0 32 = some (bcells root)) → w'.cell? ⟨w.heap.size, 67, none⟩ = some (.slice v.sa v.sl v.sc)) := hide fun w' h => h.1.sig
  have huH := Try.underlying23
  have hiR : (Try.prog.info? 23).map (·.size) = some (bcells root).size := by rw [size_bcells]; kernel_rfl
  have hxd := hxW2.then (ext_drew w2)
  have hh2 := hide (hh.out.ext (hx2.then (ext_drew w2)))
  have hfl : [voteL v].flatten = voteL v := by simp
  replace hfl := hide hfl
  clear hV1 hVr hVr1 hR1 hR hh hx1 hx2 hxW2
  rcases hcase.out with ⟨hsb, he⟩ | ⟨hsb, he⟩
  all_goals
    try subst he
    replace hsb := hide hsb
    refine wp_region_held_drew (S := fun w' => VtAt w' w.heap.size v ∧ rowAt w' (w.heap.size + 1) 0 32 = some (bcells root)) (by kernel_rfl) (hS.out _ hxd) (fun hHeld => ?_)
    generalize w2.drew = wc at *
    (refine wpAnyH_take (i := 0) (v := _) (by simp only [List.getElem?_toArray, List.getElem?_cons_succ, List.getElem?_cons_zero]; exact rfl) (by kernel_rfl) (by kernel_rfl) (by kernel_rfl) (by exact fun _ _ _ h => h) (yieldsIf_load_cells (by rfl) _ _ rfl _ rfl _ _ hSr.out huH rfl hiR) (by assumption) ?_; simp only [Act.put, List.setIfInBounds_toArray, List.set_cons_zero, List.set_cons_succ])
    (refine wpAnyH_take (i := 1) (v := ?_) (by simp only [List.getElem?_toArray, List.getElem?_cons_succ, List.getElem?_cons_zero]; exact rfl) (by kernel_rfl) (by kernel_rfl) (by kernel_rfl) (by exact fun _ _ _ h => h) (Or.inl ⟨by rfl, ?_⟩) (by assumption) ?_; rotate_left; (intro wz hSz; go_simp; try (with_reducible rfl)); simp only [Act.put, List.setIfInBounds_toArray, List.set_cons_zero, List.set_cons_succ])
    (refine wpAnyH_take (i := 2) (v := ?_) (by simp only [List.getElem?_toArray, List.getElem?_cons_succ, List.getElem?_cons_zero]; exact rfl) (by kernel_rfl) (by kernel_rfl) (by kernel_rfl) (by exact fun _ _ _ h => h) (Or.inl ⟨by rfl, ?_⟩) (by assumption) ?_; rotate_left; (intro wz hSz; go_simp; try (with_reducible rfl)); simp only [Act.put, List.setIfInBounds_toArray, List.set_cons_zero, List.set_cons_succ])
    (refine wpAnyH_take (i := 3) (v := ?_) (by simp only [List.getElem?_toArray, List.getElem?_cons_succ, List.getElem?_cons_zero]; exact rfl) (by kernel_rfl) (by kernel_rfl) (by kernel_rfl) (by exact fun _ _ _ h => h) (Or.inl ⟨by rfl, ?_⟩) (by assumption) ?_; rotate_left; (intro wz hSz; have cvz := hSt.out wz hSz; go_simp; try (with_reducible rfl)); simp only [Act.put, List.setIfInBounds_toArray, List.set_cons_zero, List.set_cons_succ])
    (refine wpAnyH_take (i := 5) (v := ?_) (by simp only [List.getElem?_toArray, List.getElem?_cons_succ, List.getElem?_cons_zero]; exact rfl) (by kernel_rfl) (by kernel_rfl) (by kernel_rfl) (by exact fun _ _ _ h => h) (Or.inl ⟨by rfl, ?_⟩) (by assumption) ?_; rotate_left; (intro wz hSz; go_simp; try (with_reducible rfl)); simp only [Act.put, List.setIfInBounds_toArray, List.set_cons_zero, List.set_cons_succ])
    (refine wpAnyH_take (i := 8) (v := ?_) (by simp only [List.getElem?_toArray, List.getElem?_cons_succ, List.getElem?_cons_zero]; exact rfl) (by kernel_rfl) (by kernel_rfl) (by kernel_rfl) (by exact fun _ _ _ h => h) (Or.inl ⟨by rfl, ?_⟩) (by assumption) ?_; rotate_left; (intro wz hSz; go_simp; try (with_reducible rfl)); simp only [Act.put, List.setIfInBounds_toArray, List.set_cons_zero, List.set_cons_succ])
    (refine wpAnyH_take (i := 9) (v := ?_) (by simp only [List.getElem?_toArray, List.getElem?_cons_succ, List.getElem?_cons_zero]; exact rfl) (by kernel_rfl) (by kernel_rfl) (by kernel_rfl) (by exact fun _ _ _ h => h) (Or.inl ⟨by rfl, ?_⟩) (by assumption) ?_; rotate_left; (intro wz hSz; have cvz := hSg.out wz hSz; go_simp; try (with_reducible rfl)); simp only [Act.put, List.setIfInBounds_toArray, List.set_cons_zero, List.set_cons_succ])
    refine wpAnyH_ready (rs := [4, 6]) (by kernel_rfl) (by simp) (AllReadyH.cons (o := _) (by simp only [List.getElem?_toArray, List.getElem?_cons_succ, List.getElem?_cons_zero]; exact rfl) (fun K' hK' => ?_) (AllReadyH.cons (o := _) (by simp only [List.getElem?_toArray, List.getElem?_cons_succ, List.getElem?_cons_zero]; exact rfl) (fun K' hK' => ?_) AllReadyH.nil))
    · go_simp
      go_at_call 89
      (with_reducible refine (hN.out _).mono ?_)
      rintro r w4 ⟨rfl, hx4⟩
      have hx4' := hxd.then hx4
      have hh4 := hh2.out.ext hx4
      have hp := hide (one_text hh4 hkx hmx w4.heap.size rfl)
      have hxX := hx4'.then (ext_alloc w4 (.cells #[.slice ax (voteL v).length kx] 27))
      go_wp2_with fail
      refine hK'.out _ _ (hS.out _ hx4') (fun hHeld => ?_); clear hK' K'; try simp only [Act.put, List.setIfInBounds_toArray, List.set_cons_zero, List.set_cons_succ]
      refine wpAnyH_ready (rs := [6]) (by kernel_rfl) (by simp) (AllReadyH.cons (o := _) (by simp only [List.getElem?_toArray, List.getElem?_cons_succ, List.getElem?_cons_zero]; exact rfl) (fun K' hK' => ?_) AllReadyH.nil); go_simp
      refine hK'.out _ _ (hS.out _ hxX) (fun hHeld => ?_); clear hK' K'; try simp only [Act.put, List.setIfInBounds_toArray, List.set_cons_zero, List.set_cons_succ]
      refine wpAnyH_ready (rs := [7]) (by kernel_rfl) (by simp) (AllReadyH.cons (o := _) (by simp only [List.getElem?_toArray, List.getElem?_cons_succ, List.getElem?_cons_zero]; exact rfl) (fun K' hK' => ?_) AllReadyH.nil); go_simp
      go_at_call 25
      (with_reducible refine (sumB_any (some ⟨w4.heap.size, 0, none⟩) 1 1 [voteL v] (voteL v) hfl.out _ (by omega) (by decide) hp.out).mono ?_)
      rintro r w7 ⟨rfl, hx7⟩
      have hxe := hxX.then hx7
      go_wp2_with fail
      refine hK'.out _ _ (hS.out _ hxe) (fun hHeld => ?_); clear hK' K'; try simp only [Act.put, List.setIfInBounds_toArray, List.set_cons_zero, List.set_cons_succ]
      refine wpAnyH_ready (rs := [10]) (by kernel_rfl) (by simp) (AllReadyH.cons (o := _) (by simp only [List.getElem?_toArray, List.getElem?_cons_succ, List.getElem?_cons_zero]; exact rfl) (fun K' hK' => ?_) AllReadyH.nil); go_simp
      go_at_call 15
      (with_reducible refine (hK.out _ (hx.out.then hxe)).mono ?_)
      rintro r w10 ⟨rfl, hx10⟩
      have hxf := hxe.then hx10
      go_wp2_with fail
      refine hK'.out _ _ (hS.out _ hxf) (fun hHeld => ?_); clear hK' K'; try simp only [Act.put, List.setIfInBounds_toArray, List.set_cons_zero, List.set_cons_succ]
      (refine wpAnyH_take (i := 11) (v := ?_) (by simp only [List.getElem?_toArray, List.getElem?_cons_succ, List.getElem?_cons_zero]; exact rfl) (by kernel_rfl) (by kernel_rfl) (by kernel_rfl) (by exact fun _ _ _ h => h) (Or.inl ⟨by rfl, ?_⟩) (by assumption) ?_; rotate_left; (intro wz hSz; go_simp; try (with_reducible rfl)); simp only [Act.put, List.setIfInBounds_toArray, List.set_cons_zero, List.set_cons_succ])
      refine wpAnyH_done (by kernel_rfl) ?_ _
      go_wp2_with fail
      go_ret
      exact ⟨by rw [hsb.out]; rfl, hx.out.then hxf⟩
    · go_simp
      have hp0 := one_text hh2.out hkx hmx wc.heap.size rfl
      have hxY := hxd.then (ext_alloc wc (.cells #[.slice ax (voteL v).length kx] 27))
      refine hK'.out _ _ (hS.out _ hxY) (fun hHeld => ?_); clear hK' K'; try simp only [Act.put, List.setIfInBounds_toArray, List.set_cons_zero, List.set_cons_succ]
      refine wpAnyH_ready (rs := [4]) (by kernel_rfl) (by simp) (AllReadyH.cons (o := _) (by simp only [List.getElem?_toArray, List.getElem?_cons_succ, List.getElem?_cons_zero]; exact rfl) (fun K' hK' => ?_) AllReadyH.nil); go_simp
      go_at_call 89
      (with_reducible refine (hN.out _).mono ?_)
      rintro r w4 ⟨rfl, hx4⟩
      have hxX := hxY.then hx4
      have hp := hide (hp0.ext hx4)
      go_wp2_with fail
      refine hK'.out _ _ (hS.out _ hxX) (fun hHeld => ?_); clear hK' K'; try simp only [Act.put, List.setIfInBounds_toArray, List.set_cons_zero, List.set_cons_succ]
      refine wpAnyH_ready (rs := [7]) (by kernel_rfl) (by simp) (AllReadyH.cons (o := _) (by simp only [List.getElem?_toArray, List.getElem?_cons_succ, List.getElem?_cons_zero]; exact rfl) (fun K' hK' => ?_) AllReadyH.nil); go_simp
      go_at_call 25
      (with_reducible refine (sumB_any (some ⟨wc.heap.size, 0, none⟩) 1 1 [voteL v] (voteL v) hfl.out _ (by omega) (by decide) hp.out).mono ?_)
      rintro r w7 ⟨rfl, hx7⟩
      have hxe := hxX.then hx7
      go_wp2_with fail
      refine hK'.out _ _ (hS.out _ hxe) (fun hHeld => ?_); clear hK' K'; try simp only [Act.put, List.setIfInBounds_toArray, List.set_cons_zero, List.set_cons_succ]
      refine wpAnyH_ready (rs := [10]) (by kernel_rfl) (by simp) (AllReadyH.cons (o := _) (by simp only [List.getElem?_toArray, List.getElem?_cons_succ, List.getElem?_cons_zero]; exact rfl) (fun K' hK' => ?_) AllReadyH.nil); go_simp
      go_at_call 15
      (with_reducible refine (hK.out _ (hx.out.then hxe)).mono ?_)
      rintro r w10 ⟨rfl, hx10⟩
      have hxf := hxe.then hx10
      go_wp2_with fail
      refine hK'.out _ _ (hS.out _ hxf) (fun hHeld => ?_); clear hK' K'; try simp only [Act.put, List.setIfInBounds_toArray, List.set_cons_zero, List.set_cons_succ]
      (refine wpAnyH_take (i := 11) (v := ?_) (by simp only [List.getElem?_toArray, List.getElem?_cons_succ, List.getElem?_cons_zero]; exact rfl) (by kernel_rfl) (by kernel_rfl) (by kernel_rfl) (by exact fun _ _ _ h => h) (Or.inl ⟨by rfl, ?_⟩) (by assumption) ?_; rotate_left; (intro wz hSz; go_simp; try (with_reducible rfl)); simp only [Act.put, List.setIfInBounds_toArray, List.set_cons_zero, List.set_cons_succ])
      refine wpAnyH_done (by kernel_rfl) ?_ _
      go_wp2_with fail
      go_ret
      exact ⟨by rw [hsb.out]; rfl, hx.out.then hxf⟩
end Go.Proofs.Ytegicioofbhifaa
