/- The walk of the law on what is found. -/
import Derived.Test.YtgeijcielakeeaaNameP
import Derived.Test.YtgeijcielakeeaaNamedW
import Derived.Test.YtgeijcielakeeaaRefF
import Derived.Test.YtgeijcielakeeaaAppE
import Derived.Test.YtgeijcielakeeaaSameV
namespace Go.Proofs.Ytgeijcielakeeaa
open Go.RowKit
set_option linter.unusedVariables false
set_option linter.unusedSimpArgs false
set_option maxRecDepth 100000
/-- All cells of a row of one's own. -/
theorem own_all {w : World} {base n cap size : Nat} {e : TypeId} {a : Option Addr} {xs : List Value} (h : w.ownsRow base e size (.slice a n cap) n xs) :
    (a = none → n = 0) ∧ ∀ ad, a = some ad → ∀ (j : Nat) (u : Value), xs[j]? = some u → w.cell? (ad.add j) = some u := by
  rcases h.2 with ⟨hv, h0⟩ | ⟨g, cap', cur, hv, _⟩
  · simp only [Value.slice.injEq] at hv
    obtain ⟨rfl, _, _⟩ := hv
    exact ⟨fun _ => h0, fun ad e => by cases e⟩
  · simp only [Value.slice.injEq] at hv
    obtain ⟨rfl, _, rfl⟩ := hv
    refine ⟨(fun e => by cases e), fun ad e j u hu => ?_⟩
    obtain rfl := Option.some.inj e
    have hj := (List.getElem?_eq_some_iff.1 hu).1
    rw [add_flat, Nat.zero_add, h.cellAt j (by have := h.1; omega)]
    exact hu
theorem one_evsL (es : List Ev) : ∀ u ∈ evsL es, u.oneCell' = true := by
  intro u hu
  obtain ⟨e, _, h⟩ := List.mem_flatMap.1 hu
  exact Array.all_eq_true_iff_forall_mem.1 (one_evCells e) u (by simpa using h)
theorem evsL_app (es fs : List Ev) : evsL (es ++ fs) = evsL es ++ evsL fs := by simp [evsL]
theorem add_1 (a : Addr) : a.add 1 = ⟨a.block, a.off + 1, none⟩ := rfl
theorem add_32 (a : Addr) : a.add 32 = ⟨a.block, a.off + 32, none⟩ := rfl
theorem add_100 (a : Addr) : a.add 100 = ⟨a.block, a.off + 100, none⟩ := rfl
theorem bsEq_self {n : Nat} (x : Bs n) : bsEq x x = true := (bsEq_iff _ _).2 rfl
theorem add_67 (a : Addr) : a.add 67 = ⟨a.block, a.off + 67, none⟩ := rfl
theorem sig_cell {w : World} {ad : Addr} {s : Sg} (h : CellsIn w ad (sgCells s)) : w.cell? ⟨ad.block, ad.off + 67, none⟩ = some (.slice s.v.sa s.v.sl s.v.sc) := by
  rw [← add_67]
  refine h 67 _ ?_
  rw [sgCells, get_head _ _ _ (by rw [size_vtCells]; omega), vt_sig]
/-- The contracts, by one length. -/
theorem find_m (a : Option Addr) (n cap m : Nat) (L : Nat → Sg) (C : Nat → List UInt8) (w : World) (P : List (Nat × Nat)) (hP : P = findP L n n) (hm : m = P.length) (hn : n ≤ 1000) (hcap : n ≤ cap) (hL : SignedIn w a n L) (hC : ∀ i, i < n → SigIn w (L i).v (C i)) (hC5 : ∀ i, i < n → (L i).v.sl ≤ 5000) :
    Calls Try.prog 6 #[.slice a n cap] w fun r w' => (∃ ag cg es, r = .returned (.slice ag m cg) ∧ es.length = m ∧ cg ≤ maxLen ∧ EvsAre w' L C P es ∧ EvIn w' ag m (fun i => es.getD i ev0) ∧ w'.ownsRow (w.heap.size + 1) 42 168 (.slice ag m cg) m (evsL es)) ∧ Ext w w' := by
  refine (find_any a n cap L C w hn hcap hL hC hC5).mono fun r w' h => ?_
  obtain ⟨⟨v, es, hr, hes, hown⟩, hx⟩ := h
  rw [← hP] at hes
  have hl := hes.1
  rw [← hm] at hl
  obtain ⟨ag, cg, rfl, h1, h2, h3⟩ := own_evs es hown
  rw [hl] at hr hown h3
  exact ⟨⟨ag, cg, es, hr, hl, h2, hes, h3, hown⟩, hx⟩
theorem ref_m (a : Option Addr) (n cap m : Nat) (L : Nat → Sg) (w : World) (P : List (Nat × Nat)) (hP : P = findP L n n) (hm : m = P.length) (hn : n ≤ 1000) (hcap : n ≤ cap) (hL : SignedIn w a n L) :
    Calls Try.prog 7 #[.slice a n cap] w fun r w' => (∃ aw cw, r = .returned (.slice aw m cw) ∧ (0 < m → ∃ ad, aw = some ad ∧ ∀ i p, P[i]? = some p → CellsIn w' (ad.add (i * 2)) (prC p))) ∧ Ext w w' := by
  refine (refFind_any a n cap L w hn hcap hL).mono fun r w' h => ?_
  obtain ⟨⟨v, hr, hown⟩, hx⟩ := h
  rw [← hP] at hown
  obtain ⟨aw, cw, rfl, h1, h2, h3⟩ := own_pairs P hown
  rw [← hm] at hr h3
  exact ⟨⟨aw, cw, hr, h3⟩, hx⟩
theorem named_m (n m : Nat) (L : Nat → Sg) (C : Nat → List UInt8) (P : List (Nat × Nat)) (hP : P = findP L n n) (hm : m = P.length) (hm5 : m ≤ 1000) (ag : Option Addr) (cg : Nat) (es : List Ev) (w0 w : World) (hl : es.length = m) (hes : EvsAre w0 L C P es) (hE : EvIn w ag m (fun i => es.getD i ev0)) :
    Calls Try.prog 8 #[.slice ag m cg] w fun r w' => (∃ an cn, r = .returned (.slice an m cn) ∧ HashIn w' an m (fun i => (L (P.getD i (0, 0)).1).k)) ∧ Ext w w' := by
  refine (named_any ag m cg (fun i => es.getD i ev0) w hm5 hE).mono fun r w' h => ?_
  obtain ⟨⟨v, hr, hown⟩, hx⟩ := h
  have hnf := names_found (n := n) (m := n) (by rw [← hP]; exact hes)
  rw [hl, ← hP] at hnf
  rw [hnf] at hown
  obtain ⟨an, cn, rfl, h1, h2, h3⟩ := own_hashes _ hown
  rw [List.length_map, ← hm] at hr h3
  refine ⟨⟨an, cn, hr, fun h0 => ?_⟩, hx⟩
  obtain ⟨ad, e, h4⟩ := h3 h0
  refine ⟨ad, e, fun i hi => ?_⟩
  have h5 := h4 i hi
  simpa [List.getD, hm ▸ hi] using h5
theorem twice_m (n m : Nat) (L : Nat → Sg) (C : Nat → List UInt8) (P : List (Nat × Nat)) (hP : P = findP L n n) (hm : m = P.length) (hm5 : m ≤ 400) (base : Nat) (v : Value) (es : List Ev) (w0 w : World) (hl : es.length = m) (hes : EvsAre w0 L C P es) (hown : w.ownsRow base 42 168 v (m + m) (evsL es ++ evsL es)) :
    Calls Try.prog 8 #[v] w fun r w' => (∃ an cn, r = .returned (.slice an m cn)) ∧ Ext w w' := by
  rw [← evsL_app, show m + m = (es ++ es).length by simp [hl]] at hown
  obtain ⟨a, cap, rfl, h1, h2, h3⟩ := own_evs _ hown
  have hl2 : (es ++ es).length = m + m := by simp [hl]
  rw [hl2] at h3 ⊢
  refine (named_any a (m + m) cap _ w (by omega) h3).mono fun r w' h => ?_
  obtain ⟨⟨v, hr, hown⟩, hx⟩ := h
  have hnf := names_twice (n := n) (m := n) (by rw [← hP]; exact hes)
  rw [hl, ← hP, ← hm] at hnf
  obtain ⟨an, cn, rfl, _⟩ := own_hashes _ hown
  rw [hnf] at hr
  exact ⟨⟨an, cn, hr⟩, hx⟩
/-- Two blocks that were made, and filled. -/
theorem two_filled {w W2 : World} {g8 g9 : Nat} {A B : Array Value} {t : TypeId} (h : Ext w W2) (h8 : w.heap.size ≤ g8) (h9 : w.heap.size ≤ g9) (hne : g8 ≠ g9) {Z8 Z9 : Array Value} (e8 : W2.heap[g8]? = some (.cells Z8 t (0, 0))) (e9 : W2.heap[g9]? = some (.cells Z9 t (0, 0))) {n : Nat} (hA : A.size = n) (hB : B.size = n) :
    Ext w ((W2.setRow g8 A).setRow g9 B) ∧ CellsIn ((W2.setRow g8 A).setRow g9 B) ⟨g8, 0, none⟩ A ∧ CellsIn ((W2.setRow g8 A).setRow g9 B) ⟨g9, 0, none⟩ B := by
  have f8 := setRow_heap W2 g8 Z8 A t (0, 0) e8
  have f9 := (setRow_other W2 g8 g9 A (Ne.symm hne)).trans e9
  refine ⟨below_setRow (below_setRow h h8 _) h9 _, ?_, ?_⟩
  · exact cells_row (rowAt_whole' ((setRow_other _ _ _ _ hne).trans f8) hA) hA
  · exact cells_row (rowAt_whole' (setRow_heap _ _ _ _ _ _ f9) hB) hB
attribute [local go_sem ↓] exec_store_SignedF
attribute [local go_sem ↓] loadCells_blk
set_option maxHeartbeats 16000000 in
theorem slashFinds_walk (a : Option Addr) (n cap : Nat) (L : Nat → Sg) (C : Nat → List UInt8) (w : World) (hcap : n ≤ cap) (hL : SignedIn w a n L) (hC : ∀ i, i < n → SigIn w (L i).v (C i)) :
    Calls Try.prog 3 #[.slice a n cap] w fun r w' => r = .returned (.bool true) ∧ Ext w w' := by
  by_cases h60 : 60 < n
  · have hd : decide ((60 : Int) < n) = true := decide_eq_true (by omega)
    have h60' : (60 : Int) < n := by omega
    go_enter Try.func3, Try.ntmps3
    go_wp2_with (go_at_call 5; (with_reducible refine (known14 _).mono ?_); rintro r wk ⟨rfl, hxk⟩)
    go_ret
    exact ⟨rfl, hxk⟩
  · have hd : decide ((60 : Int) < n) = false := decide_eq_false (by omega)
    have h60' : ¬ (60 : Int) < n := by omega
    have hn1 : n ≤ 1000 := by omega
    replace hC := hide hC
    go_enter Try.func3, Try.ntmps3
    go_wp2_with fail
    go_loopw [3] (fun s3 wr => ∃ i : Nat, i ≤ n ∧ s3 = .int .i64 i ∧ (∀ j, j < i → (L j).v.sl ≤ 5000) ∧ wr = w) (fun s _ => (n - intOf s).toNat)
    case atStart => exact ⟨0, by omega, rfl, fun j hj => absurd hj (by omega), rfl⟩
    case round =>
      obtain ⟨i, hi, rfl, hA, rfl⟩ := hrel
      by_cases hlt : i < n
      · have hlt' : (i : Int) < n := by omega
        have hi0 : (0 : Int) ≤ i := by omega
        obtain ⟨ad, rfl, hc⟩ := hL (by omega)
        have hsc := sig_cell (hc i hlt)
        by_cases h5 : 5000 < (L i).v.sl
        · have hd5 : decide ((5000 : Int) < ((L i).v.sl : Nat)) = true := decide_eq_true (by omega)
          have h5' : (5000 : Int) < ((L i).v.sl : Nat) := by omega
          go_wp2_with (go_at_call 5; (with_reducible refine (known14 _).mono ?_); rintro r wk ⟨rfl, hxk⟩)
          go_ret
          exact ⟨rfl, hxk⟩
        · have hd5 : decide ((5000 : Int) < ((L i).v.sl : Nat)) = false := decide_eq_false (by omega)
          have h5' : ¬ (5000 : Int) < ((L i).v.sl : Nat) := by omega
          go_wp2_with fail
          exact ⟨⟨i + 1, by omega, by go_num, fun j hj => by
            by_cases e : j = i
            · subst e; omega
            · exact hA j (by omega), by first | rfl | trivial⟩, by simp [intOf]; omega⟩
      · obtain rfl : i = n := by omega
        have hlt' : ¬ (i : Int) < i := by omega
        obtain ⟨P, hP⟩ : ∃ P, P = findP L i i := ⟨_, rfl⟩
        obtain ⟨m, hm⟩ : ∃ m, m = P.length := ⟨_, rfl⟩
        have hml : m ≤ i := by rw [hm, hP]; exact findP_len L i i
        have hpp := findP_pair L i i (Nat.le_refl _)
        rw [← hP] at hpp
        have hF := hide (find_m a i cap m L C wr P hP hm hn1 hcap hL hC.out hA)
        have hRf := hide fun (w1 : World) (hx1 : Ext wr w1) => ref_m a i cap m L w1 P hP hm hn1 hcap (hL.ext hx1)
        have hNm := hide fun (ag : Option Addr) (cg : Nat) (es : List Ev) (w0 w1 : World) => named_m i m L C P hP hm (by omega) ag cg es w0 w1
        have hTw := hide fun (base : Nat) (v : Value) (es : List Ev) (w0 w1 : World) => twice_m i m L C P hP hm (by omega) base v es w0 w1
        replace hP := hide hP
        replace hm := hide hm
        replace hpp := hide hpp
        replace hA := hide hA
        go_wp2_with (first
          | (go_at_call 6; (with_reducible refine hF.out.mono ?_); rintro r w1 ⟨⟨ag, cg, es, rfl, hl, hcg, hes, hE, hown1⟩, hx1⟩; replace hes := hide hes; replace hE := hide hE; replace hown1 := hide hown1; replace hl := hide hl)
          | (go_at_call 7; (with_reducible refine (hRf.out _ hx1).mono ?_); rintro r w2 ⟨⟨aw, cw, rfl, hpr⟩, hx2⟩; replace hpr := hide hpr)
          | (go_at_call 8; (with_reducible refine (hNm.out ag cg es _ _ hl.out hes.out (hE.out.ext hx2)).mono ?_); rintro r w3 ⟨⟨an, cn, rfl, hnn⟩, hx3⟩; replace hnn := hide hnn))
        have hx03 := (hx1.then hx2).then hx3
        have hE3 := hide (hE.out.ext (hx2.then hx3))
        have hes3 := hide (hes.out.ext (hx2.then hx3))
        have hpr3 : Hid (0 < m → ∃ ad, aw = some ad ∧ ∀ i p, P[i]? = some p → CellsIn w3 (ad.add (i * 2)) (prC p)) := hide fun h0 => let ⟨ad, e, h⟩ := hpr.out h0; ⟨ad, e, fun i p hp => (h i p hp).ext hx3⟩
        have hown3 := hide (own_ext (hx2.then hx3) hown1.out)
        go_loopw [7] (fun s7 wr => ∃ k : Nat, k ≤ m ∧ s7 = .int .i64 k ∧ Ext w3 wr) (fun s _ => (m - intOf s).toNat)
        case atStart => exact ⟨0, by omega, rfl, Below.refl _ _⟩
        case round =>
          obtain ⟨k, hk, rfl, hx4⟩ := hrel
          obtain ⟨w4, rfl⟩ : ∃ v, v = wr := ⟨_, rfl⟩
          by_cases hkm : k < m
          · have hkm' : (k : Int) < m := by omega
            have hk0 : (0 : Int) ≤ k := by omega
            obtain ⟨adw, rfl, hpw⟩ := hpr3.out (by omega)
            obtain ⟨adg, rfl, hEc⟩ := hE3.out (by omega)
            obtain ⟨adn, rfl, hnc⟩ := hnn.out (by omega)
            have hkP : k < P.length := by rw [← hm.out]; exact hkm
            have hkE : k < es.length := by rw [hl.out]; exact hkm
            have hPk := (hpw k _ (List.getElem?_eq_getElem hkP)).ext hx4
            have hpk := hpp.out _ (List.getElem_mem hkP)
            have hev := (hes3.out.2 k _ _ (List.getElem?_eq_getElem hkP) (List.getElem?_eq_getElem hkE)).ext hx4
            have hEk := (hEc k hkm).ext hx4
            have hnk := (hnc k hkm).ext hx4
            simp only [show es.getD k ev0 = es[k] by simp [List.getD, hkE]] at hEk
            simp only [show P.getD k (0, 0) = P[k] by simp [List.getD, hkP]] at hnk
            generalize P[k] = p at *
            generalize es[k] = e at *
            obtain ⟨p1, p2⟩ := p
            obtain ⟨ek, ea, eb⟩ := e
            obtain ⟨e1, ⟨a1, n1, c1, e2⟩, ⟨a2, n2, c2, e3⟩, hsa, hsb⟩ := hev
            simp only at e1 e2 e3 hsa hsb hpk hPk hnk
            subst e1 e2 e3
            obtain ⟨_, hp12, hp2n, _⟩ := hpk
            have hp1n : p1 < i := by omega
            obtain ⟨ad, rfl, hc⟩ := hL (by omega)
            have hb1 : (p1 : Int) < i := by omega
            have hb2 : (p2 : Int) < i := by omega
            have hb3 : (0 : Int) ≤ p1 := by omega
            have hb4 : (0 : Int) ≤ p2 := by omega
            have hwx : Ext wr w4 := hx03.then hx4
            have cA := (hc p1 hp1n).ext (hwx.then (ext_drew w4))
            have cB := (hc p2 hp2n).ext (hwx.then (ext_drew w4))
            have sA := (hC.out p1 hp1n).ext hwx
            have sB := (hC.out p2 hp2n).ext hwx
            have cP := hPk.ext (ext_drew w4)
            generalize hX : L p1 = X at *
            generalize hY : L p2 = Y at *
            have hS1 : Hid (∀ w' : World, (CellsIn w' (adw.add (k * 2)) (prC (p1, p2)) ∧ CellsIn w' (ad.add (p1 * 101)) (sgCells X) ∧ CellsIn w' (ad.add (p2 * 101)) (sgCells Y)) → w'.cell? (adw.add (k * 2)) = some (.int .i64 p1)) := hide fun w' h => by
              have h1 := h.1 0 (.int .i64 p1) rfl
              rw [addr_add, Nat.add_zero] at h1
              exact h1
            have hS2 : Hid (∀ w' : World, (CellsIn w' (adw.add (k * 2)) (prC (p1, p2)) ∧ CellsIn w' (ad.add (p1 * 101)) (sgCells X) ∧ CellsIn w' (ad.add (p2 * 101)) (sgCells Y)) → w'.cell? ⟨(adw.add (k * 2)).block, (adw.add (k * 2)).off + 1, none⟩ = some (.int .i64 p2)) := hide fun w' h => by
              have h1 := h.1 1 (.int .i64 p2) rfl
              rw [add_1] at h1
              exact h1
            have hS3 : Hid (∀ w' : World, (CellsIn w' (adw.add (k * 2)) (prC (p1, p2)) ∧ CellsIn w' (ad.add (p1 * 101)) (sgCells X) ∧ CellsIn w' (ad.add (p2 * 101)) (sgCells Y)) → CellsIn w' (ad.add (p1 * 101)) (sgCells X)) := hide fun w' h => h.2.1
            have hS4 : Hid (∀ w' : World, (CellsIn w' (adw.add (k * 2)) (prC (p1, p2)) ∧ CellsIn w' (ad.add (p1 * 101)) (sgCells X) ∧ CellsIn w' (ad.add (p2 * 101)) (sgCells Y)) → CellsIn w' (ad.add (p2 * 101)) (sgCells Y)) := hide fun w' h => h.2.2
            have huS := Try.underlying33
            have huH := Try.underlying26
            have huV := Try.underlying31
            have hiX : (Try.prog.info? 33).map (·.size) = some (sgCells X).size := by rw [size_sgCells]; kernel_rfl
            have hiY : (Try.prog.info? 33).map (·.size) = some (sgCells Y).size := by rw [size_sgCells]; kernel_rfl
            have hSS : Hid ((CellsIn w4.drew (adw.add (k * 2)) (prC (p1, p2)) ∧ CellsIn w4.drew (ad.add (p1 * 101)) (sgCells X) ∧ CellsIn w4.drew (ad.add (p2 * 101)) (sgCells Y))) := hide ⟨cP, cA, cB⟩
            clear hpw hEc hnc hc hPk cA cB cP hX hY
            replace hEk := hide hEk
            replace hnk := hide hnk
            replace sA := hide sA
            replace sB := hide sB
            replace hsa := hide hsa
            replace hsb := hide hsb
            have hxd := ext_drew w4
            go_wp2_with fail
            refine wp_region_held_drew (S := fun w' => CellsIn w' (adw.add (k * 2)) (prC (p1, p2)) ∧ CellsIn w' (ad.add (p1 * 101)) (sgCells X) ∧ CellsIn w' (ad.add (p2 * 101)) (sgCells Y)) (by kernel_rfl) hSS.out (fun hHeld => ?_)
            (refine wpAnyH_take (i := 0) (v := ?_) (by simp only [List.getElem?_toArray, List.getElem?_cons_succ, List.getElem?_cons_zero]; exact rfl) (by kernel_rfl) (by kernel_rfl) (by kernel_rfl) (by exact fun _ _ _ h => h) (Or.inl ⟨by rfl, ?_⟩) (by assumption) ?_; rotate_left; (intro wz hSz; go_simp; try (with_reducible rfl)); simp only [Act.put, List.setIfInBounds_toArray, List.set_cons_zero, List.set_cons_succ])
            (refine wpAnyH_take (i := 1) (v := ?_) (by simp only [List.getElem?_toArray, List.getElem?_cons_succ, List.getElem?_cons_zero]; exact rfl) (by kernel_rfl) (by kernel_rfl) (by kernel_rfl) (by exact fun _ _ _ h => h) (Or.inl ⟨by rfl, ?_⟩) (by assumption) ?_; rotate_left; (intro wz hSz; go_simp; try (with_reducible rfl)); simp only [Act.put, List.setIfInBounds_toArray, List.set_cons_zero, List.set_cons_succ])
            (refine wpAnyH_take (i := 2) (v := ?_) (by simp only [List.getElem?_toArray, List.getElem?_cons_succ, List.getElem?_cons_zero]; exact rfl) (by kernel_rfl) (by kernel_rfl) (by kernel_rfl) (by exact fun _ _ _ h => h) (Or.inl ⟨by rfl, ?_⟩) (by assumption) ?_; rotate_left; (intro wz hSz; go_simp; try (with_reducible rfl)); simp only [Act.put, List.setIfInBounds_toArray, List.set_cons_zero, List.set_cons_succ])
            (refine wpAnyH_take (i := 3) (v := ?_) (by simp only [List.getElem?_toArray, List.getElem?_cons_succ, List.getElem?_cons_zero]; exact rfl) (by kernel_rfl) (by kernel_rfl) (by kernel_rfl) (by exact fun _ _ _ h => h) (Or.inl ⟨by rfl, ?_⟩) (by assumption) ?_; rotate_left; (intro wz hSz; go_simp; try (with_reducible rfl)); simp only [Act.put, List.setIfInBounds_toArray, List.set_cons_zero, List.set_cons_succ])
            (refine wpAnyH_take (i := 4) (v := ?_) (by simp only [List.getElem?_toArray, List.getElem?_cons_succ, List.getElem?_cons_zero]; exact rfl) (by kernel_rfl) (by kernel_rfl) (by kernel_rfl) (by exact fun _ _ _ h => h) (Or.inl ⟨by rfl, ?_⟩) (by assumption) ?_; rotate_left; (intro wz hSz; go_simp; try (with_reducible rfl)); simp only [Act.put, List.setIfInBounds_toArray, List.set_cons_zero, List.set_cons_succ])
            (refine wpAnyH_take (i := 5) (v := ?_) (by simp only [List.getElem?_toArray, List.getElem?_cons_succ, List.getElem?_cons_zero]; exact rfl) (by kernel_rfl) (by kernel_rfl) (by kernel_rfl) (by exact fun _ _ _ h => h) (Or.inl ⟨by rfl, ?_⟩) (by assumption) ?_; rotate_left; (intro wz hSz; have cvz := hS1.out wz hSz; go_simp; try (with_reducible rfl)); simp only [Act.put, List.setIfInBounds_toArray, List.set_cons_zero, List.set_cons_succ])
            (refine wpAnyH_take (i := 6) (v := ?_) (by simp only [List.getElem?_toArray, List.getElem?_cons_succ, List.getElem?_cons_zero]; exact rfl) (by kernel_rfl) (by kernel_rfl) (by kernel_rfl) (by exact fun _ _ _ h => h) (Or.inl ⟨by rfl, ?_⟩) (by assumption) ?_; rotate_left; (intro wz hSz; go_simp; try (with_reducible rfl)); simp only [Act.put, List.setIfInBounds_toArray, List.set_cons_zero, List.set_cons_succ])
            (refine wpAnyH_take (i := 7) (v := _) (by simp only [List.getElem?_toArray, List.getElem?_cons_succ, List.getElem?_cons_zero]; exact rfl) (by kernel_rfl) (by kernel_rfl) (by kernel_rfl) (by exact fun _ _ _ h => h) (yieldsIf_load_cells (by rfl) _ _ rfl _ rfl _ _ hS3.out huS rfl hiX) (by assumption) ?_; simp only [Act.put, List.setIfInBounds_toArray, List.set_cons_zero, List.set_cons_succ])
            (refine wpAnyH_take (i := 8) (v := ?_) (by simp only [List.getElem?_toArray, List.getElem?_cons_succ, List.getElem?_cons_zero]; exact rfl) (by kernel_rfl) (by kernel_rfl) (by kernel_rfl) (by exact fun _ _ _ h => h) (Or.inl ⟨by rfl, ?_⟩) (by assumption) ?_; rotate_left; (intro wz hSz; go_simp; try (with_reducible rfl)); simp only [Act.put, List.setIfInBounds_toArray, List.set_cons_zero, List.set_cons_succ])
            (refine wpAnyH_take (i := 9) (v := ?_) (by simp only [List.getElem?_toArray, List.getElem?_cons_succ, List.getElem?_cons_zero]; exact rfl) (by kernel_rfl) (by kernel_rfl) (by kernel_rfl) (by exact fun _ _ _ h => h) (Or.inl ⟨by rfl, ?_⟩) (by assumption) ?_; rotate_left; (intro wz hSz; go_simp; try (with_reducible rfl)); simp only [Act.put, List.setIfInBounds_toArray, List.set_cons_zero, List.set_cons_succ])
            (refine wpAnyH_take (i := 10) (v := ?_) (by simp only [List.getElem?_toArray, List.getElem?_cons_succ, List.getElem?_cons_zero]; exact rfl) (by kernel_rfl) (by kernel_rfl) (by kernel_rfl) (by exact fun _ _ _ h => h) (Or.inl ⟨by rfl, ?_⟩) (by assumption) ?_; rotate_left; (intro wz hSz; go_simp; try (with_reducible rfl)); simp only [Act.put, List.setIfInBounds_toArray, List.set_cons_zero, List.set_cons_succ])
            (refine wpAnyH_take (i := 11) (v := ?_) (by simp only [List.getElem?_toArray, List.getElem?_cons_succ, List.getElem?_cons_zero]; exact rfl) (by kernel_rfl) (by kernel_rfl) (by kernel_rfl) (by exact fun _ _ _ h => h) (Or.inl ⟨by rfl, ?_⟩) (by assumption) ?_; rotate_left; (intro wz hSz; go_simp; try (with_reducible rfl)); simp only [Act.put, List.setIfInBounds_toArray, List.set_cons_zero, List.set_cons_succ])
            (refine wpAnyH_take (i := 12) (v := ?_) (by simp only [List.getElem?_toArray, List.getElem?_cons_succ, List.getElem?_cons_zero]; exact rfl) (by kernel_rfl) (by kernel_rfl) (by kernel_rfl) (by exact fun _ _ _ h => h) (Or.inl ⟨by rfl, ?_⟩) (by assumption) ?_; rotate_left; (intro wz hSz; go_simp; try (with_reducible rfl)); simp only [Act.put, List.setIfInBounds_toArray, List.set_cons_zero, List.set_cons_succ])
            (refine wpAnyH_take (i := 13) (v := ?_) (by simp only [List.getElem?_toArray, List.getElem?_cons_succ, List.getElem?_cons_zero]; exact rfl) (by kernel_rfl) (by kernel_rfl) (by kernel_rfl) (by exact fun _ _ _ h => h) (Or.inl ⟨by rfl, ?_⟩) (by assumption) ?_; rotate_left; (intro wz hSz; have cvz := hS2.out wz hSz; go_simp; try (with_reducible rfl)); simp only [Act.put, List.setIfInBounds_toArray, List.set_cons_zero, List.set_cons_succ])
            (refine wpAnyH_take (i := 14) (v := ?_) (by simp only [List.getElem?_toArray, List.getElem?_cons_succ, List.getElem?_cons_zero]; exact rfl) (by kernel_rfl) (by kernel_rfl) (by kernel_rfl) (by exact fun _ _ _ h => h) (Or.inl ⟨by rfl, ?_⟩) (by assumption) ?_; rotate_left; (intro wz hSz; go_simp; try (with_reducible rfl)); simp only [Act.put, List.setIfInBounds_toArray, List.set_cons_zero, List.set_cons_succ])
            (refine wpAnyH_take (i := 15) (v := _) (by simp only [List.getElem?_toArray, List.getElem?_cons_succ, List.getElem?_cons_zero]; exact rfl) (by kernel_rfl) (by kernel_rfl) (by kernel_rfl) (by exact fun _ _ _ h => h) (yieldsIf_load_cells (by rfl) _ _ rfl _ rfl _ _ hS4.out huS rfl hiY) (by assumption) ?_; simp only [Act.put, List.setIfInBounds_toArray, List.set_cons_zero, List.set_cons_succ])
            generalize w4.drew = W at *
            have hSx : Hid (∀ w', Ext W w' → (CellsIn w' (adw.add (k * 2)) (prC (p1, p2)) ∧ CellsIn w' (ad.add (p1 * 101)) (sgCells X) ∧ CellsIn w' (ad.add (p2 * 101)) (sgCells Y))) := hide fun w' h => ⟨hSS.out.1.ext h, hSS.out.2.1.ext h, hSS.out.2.2.ext h⟩
            obtain ⟨Z, hZ⟩ : ∃ Z : Array Value, Z = sgCells ⟨⟨0, 0, zeros 32, 0, zeros 32, none, 0, 0⟩, zeros 32, 0⟩ := ⟨_, rfl⟩
            have hZs : Z.size = 101 := by rw [hZ]; exact size_sgCells _
            have hz0 := zero_Signed
            rw [← hZ] at hz0
            have hw1 := ext_alloc W (.cells Z 33)
            have hw2 := hw1.then (ext_alloc (W.alloc (.cells Z 33)) (.cells Z 33))
            have hA2 := heap_alloc2_old W (.cells Z 33) (.cells Z 33)
            have hB2 := heap_alloc2_new W (.cells Z 33) (.cells Z 33)
            have stX := fun w g => store_overV (P := Try.prog) w g 33 101 (sgCells X) Z 33 (size_sgCells _) hZs (by kernel_rfl) (one_sgCells _)
            have stY := fun w g => store_overV (P := Try.prog) w g 33 101 (sgCells Y) Z 33 (size_sgCells _) hZs (by kernel_rfl) (one_sgCells _)
            have st1 := stX _ _ hA2
            have st2 := stX _ _ hB2
            have st3 := stY _ _ ((setRow_other _ _ _ _ (by omega)).trans hB2 : ((((W.alloc (.cells Z 33)).alloc (.cells Z 33)).setRow W.heap.size (sgCells X)).heap[W.heap.size + 1]? = _))
            have st4 := stY _ _ ((setRow_other _ _ _ _ (by omega)).trans hA2 : ((((W.alloc (.cells Z 33)).alloc (.cells Z 33)).setRow (W.heap.size + 1) (sgCells X)).heap[W.heap.size]? = _))
            obtain ⟨t1, t2, t3⟩ := two_filled hw2 (Nat.le_refl _) (Nat.le_succ _) (by omega) hA2 hB2 (size_sgCells X) (size_sgCells Y)
            obtain ⟨t4, t5, t6⟩ := two_filled hw2 (Nat.le_succ _) (Nat.le_refl _) (by omega) hB2 hA2 (size_sgCells X) (size_sgCells Y)
            clear stX stY hA2 hB2 hZ hZs
            refine wpAnyH_ready (rs := [16, 17]) (by kernel_rfl) (by simp) (AllReadyH.cons (o := _) (by simp only [List.getElem?_toArray, List.getElem?_cons_succ, List.getElem?_cons_zero]; exact rfl) (fun K' hK' => ?_) (AllReadyH.cons (o := _) (by simp only [List.getElem?_toArray, List.getElem?_cons_succ, List.getElem?_cons_zero]; exact rfl) (fun K' hK' => ?_) AllReadyH.nil))
            · go_simp
              refine hK'.out _ _ (hSx.out _ hw1) (fun hHeld => ?_); clear hK' K'; try simp only [Act.put, List.setIfInBounds_toArray, List.set_cons_zero, List.set_cons_succ]
              refine wpAnyH_ready (rs := [17]) (by kernel_rfl) (by simp) (AllReadyH.cons (o := _) (by simp only [List.getElem?_toArray, List.getElem?_cons_succ, List.getElem?_cons_zero]; exact rfl) (fun K' hK' => ?_) AllReadyH.nil); go_simp
              refine hK'.out _ _ (hSx.out _ hw2) (fun hHeld => ?_); clear hK' K'; try simp only [Act.put, List.setIfInBounds_toArray, List.set_cons_zero, List.set_cons_succ]
              refine wpAnyH_ready (rs := [18]) (by kernel_rfl) (by simp) (AllReadyH.cons (o := _) (by simp only [List.getElem?_toArray, List.getElem?_cons_succ, List.getElem?_cons_zero]; exact rfl) (fun K' hK' => ?_) AllReadyH.nil); go_simp
              refine hK'.out _ _ (hSx.out _ (below_setRow hw2 (Nat.le_refl _) _)) (fun hHeld => ?_); clear hK' K'; try simp only [Act.put, List.setIfInBounds_toArray, List.set_cons_zero, List.set_cons_succ]
              refine wpAnyH_ready (rs := [19]) (by kernel_rfl) (by simp) (AllReadyH.cons (o := _) (by simp only [List.getElem?_toArray, List.getElem?_cons_succ, List.getElem?_cons_zero]; exact rfl) (fun K' hK' => ?_) AllReadyH.nil); go_simp
              refine hK'.out _ _ (hSx.out _ t1) (fun hHeld => ?_); clear hK' K'; try simp only [Act.put, List.setIfInBounds_toArray, List.set_cons_zero, List.set_cons_succ]
              refine wpAnyH_done (by kernel_rfl) ?_ _
              have hx5 := t1
              have c8 := t2
              have c9 := t3
              clear t1 t2 t3 t4 t5 t6 st1 st2 st3 st4 hw1 hw2 hz0 hS1 hS2 hS3 hS4 hSx hSS hHeld hiX hiY
              generalize ((((W.alloc (.cells Z 33)).alloc (.cells Z 33)).setRow (W.heap.size) (sgCells X)).setRow (W.heap.size + 1) (sgCells Y)) = w5 at *
              have hx45 := hxd.then hx5
              have hx5d := ext_drew w5
              have hS : Hid (∀ w', Ext w5 w' → (CellsIn w' (adg.add (k * 168)) (evCells ⟨X.k, vtWith X.v a1 n1 c1, vtWith Y.v a2 n2 c2⟩) ∧ CellsIn w' ⟨W.heap.size, 0, none⟩ (sgCells X) ∧ CellsIn w' ⟨W.heap.size + 1, 0, none⟩ (sgCells Y) ∧ CellsIn w' (adn.add (k * 32)) (bcells X.k))) := hide fun w' h => ⟨(hEk.out.ext hx45).ext h, c8.ext h, c9.ext h, (hnk.out.ext hx45).ext h⟩
              have q4 : Hid (∀ w' : World, (CellsIn w' (adg.add (k * 168)) (evCells ⟨X.k, vtWith X.v a1 n1 c1, vtWith Y.v a2 n2 c2⟩) ∧ CellsIn w' ⟨W.heap.size, 0, none⟩ (sgCells X) ∧ CellsIn w' ⟨W.heap.size + 1, 0, none⟩ (sgCells Y) ∧ CellsIn w' (adn.add (k * 32)) (bcells X.k)) → CellsIn w' (adg.add (k * 168)) (bcells X.k)) := hide fun w' h => by
                have h1 := h.1.sub 0 32
                rw [ev_key, addr_add] at h1
                exact h1
              have q6 : Hid (∀ w' : World, (CellsIn w' (adg.add (k * 168)) (evCells ⟨X.k, vtWith X.v a1 n1 c1, vtWith Y.v a2 n2 c2⟩) ∧ CellsIn w' ⟨W.heap.size, 0, none⟩ (sgCells X) ∧ CellsIn w' ⟨W.heap.size + 1, 0, none⟩ (sgCells Y) ∧ CellsIn w' (adn.add (k * 32)) (bcells X.k)) → CellsIn w' ⟨W.heap.size, 68, none⟩ (bcells X.k)) := hide fun w' h => by
                have h1 := h.2.1.sub 68 100
                rw [sg_key, add_flat, Nat.zero_add] at h1
                exact h1
              have q13 : Hid (∀ w' : World, (CellsIn w' (adg.add (k * 168)) (evCells ⟨X.k, vtWith X.v a1 n1 c1, vtWith Y.v a2 n2 c2⟩) ∧ CellsIn w' ⟨W.heap.size, 0, none⟩ (sgCells X) ∧ CellsIn w' ⟨W.heap.size + 1, 0, none⟩ (sgCells Y) ∧ CellsIn w' (adn.add (k * 32)) (bcells X.k)) → CellsIn w' ⟨(adg.add (k * 168)).block, (adg.add (k * 168)).off + 32, none⟩ (vtCells (vtWith X.v a1 n1 c1))) := hide fun w' h => by
                have h1 := h.1.sub 32 100
                rw [ev_a, add_32] at h1
                exact h1
              have q15 : Hid (∀ w' : World, (CellsIn w' (adg.add (k * 168)) (evCells ⟨X.k, vtWith X.v a1 n1 c1, vtWith Y.v a2 n2 c2⟩) ∧ CellsIn w' ⟨W.heap.size, 0, none⟩ (sgCells X) ∧ CellsIn w' ⟨W.heap.size + 1, 0, none⟩ (sgCells Y) ∧ CellsIn w' (adn.add (k * 32)) (bcells X.k)) → CellsIn w' ⟨W.heap.size, 0, none⟩ (vtCells X.v)) := hide fun w' h => by
                have h1 := h.2.1.sub 0 68
                rw [sg_vote, add_flat] at h1
                exact h1
              have q24 : Hid (∀ w' : World, (CellsIn w' (adg.add (k * 168)) (evCells ⟨X.k, vtWith X.v a1 n1 c1, vtWith Y.v a2 n2 c2⟩) ∧ CellsIn w' ⟨W.heap.size, 0, none⟩ (sgCells X) ∧ CellsIn w' ⟨W.heap.size + 1, 0, none⟩ (sgCells Y) ∧ CellsIn w' (adn.add (k * 32)) (bcells X.k)) → CellsIn w' ⟨(adg.add (k * 168)).block, (adg.add (k * 168)).off + 100, none⟩ (vtCells (vtWith Y.v a2 n2 c2))) := hide fun w' h => by
                have h1 := h.1.sub 100 168
                rw [ev_b, add_100] at h1
                exact h1
              have q26 : Hid (∀ w' : World, (CellsIn w' (adg.add (k * 168)) (evCells ⟨X.k, vtWith X.v a1 n1 c1, vtWith Y.v a2 n2 c2⟩) ∧ CellsIn w' ⟨W.heap.size, 0, none⟩ (sgCells X) ∧ CellsIn w' ⟨W.heap.size + 1, 0, none⟩ (sgCells Y) ∧ CellsIn w' (adn.add (k * 32)) (bcells X.k)) → CellsIn w' ⟨W.heap.size + 1, 0, none⟩ (vtCells Y.v)) := hide fun w' h => by
                have h1 := h.2.2.1.sub 0 68
                rw [sg_vote, add_flat] at h1
                exact h1
              have q34 : Hid (∀ w' : World, (CellsIn w' (adg.add (k * 168)) (evCells ⟨X.k, vtWith X.v a1 n1 c1, vtWith Y.v a2 n2 c2⟩) ∧ CellsIn w' ⟨W.heap.size, 0, none⟩ (sgCells X) ∧ CellsIn w' ⟨W.heap.size + 1, 0, none⟩ (sgCells Y) ∧ CellsIn w' (adn.add (k * 32)) (bcells X.k)) → CellsIn w' (adn.add (k * 32)) (bcells X.k)) := hide fun w' h => by
                exact h.2.2.2
              have eqk : ∀ w', (Op.equalIn 10000 26 (.agg (bcells X.k)) (.agg (bcells X.k))).run Try.prog w' = .ok true w' := fun w' => by rw [← bsEq_self X.k]; exact equal_hashF w' _ _
              have hiK : (Try.prog.info? 26).map (·.size) = some (bcells X.k).size := by rw [size_bcells]; kernel_rfl
              have hcA : Hid (∀ w', Ext w5 w' → Calls Try.prog 9 #[.agg (vtCells (vtWith X.v a1 n1 c1)), .agg (vtCells X.v)] w' fun r w'' => r = .returned (.bool true) ∧ Ext w' w'') := hide fun w' h => sameV_any X.v a1 n1 c1 (C p1) w' ((hsa.out.ext hx45).ext h) ((sA.out.ext hx45).ext h)
              have hcB : Hid (∀ w', Ext w5 w' → Calls Try.prog 9 #[.agg (vtCells (vtWith Y.v a2 n2 c2)), .agg (vtCells Y.v)] w' fun r w'' => r = .returned (.bool true) ∧ Ext w' w'') := hide fun w' h => sameV_any Y.v a2 n2 c2 (C p2) w' ((hsb.out.ext hx45).ext h) ((sB.out.ext hx45).ext h)
              have hiA : (Try.prog.info? 31).map (·.size) = some (vtCells (vtWith X.v a1 n1 c1)).size := by rw [size_vtCells]; kernel_rfl
              have hiB : (Try.prog.info? 31).map (·.size) = some (vtCells X.v).size := by rw [size_vtCells]; kernel_rfl
              have hiC : (Try.prog.info? 31).map (·.size) = some (vtCells (vtWith Y.v a2 n2 c2)).size := by rw [size_vtCells]; kernel_rfl
              have hiD : (Try.prog.info? 31).map (·.size) = some (vtCells Y.v).size := by rw [size_vtCells]; kernel_rfl
              clear c8 c9
              go_wp2_with fail
              refine wp_region_held_drew (S := fun w' => (CellsIn w' (adg.add (k * 168)) (evCells ⟨X.k, vtWith X.v a1 n1 c1, vtWith Y.v a2 n2 c2⟩) ∧ CellsIn w' ⟨W.heap.size, 0, none⟩ (sgCells X) ∧ CellsIn w' ⟨W.heap.size + 1, 0, none⟩ (sgCells Y) ∧ CellsIn w' (adn.add (k * 32)) (bcells X.k))) (by kernel_rfl) (hS.out _ hx5d) (fun hHeld => ?_)
              (refine wpAnyH_take (i := 0) (v := ?_) (by simp only [List.getElem?_toArray, List.getElem?_cons_succ, List.getElem?_cons_zero]; exact rfl) (by kernel_rfl) (by kernel_rfl) (by kernel_rfl) (by exact fun _ _ _ h => h) (Or.inl ⟨by rfl, ?_⟩) (by assumption) ?_; rotate_left; (intro wz hSz; go_simp; try (with_reducible rfl)); simp only [Act.put, List.setIfInBounds_toArray, List.set_cons_zero, List.set_cons_succ])
              (refine wpAnyH_take (i := 1) (v := ?_) (by simp only [List.getElem?_toArray, List.getElem?_cons_succ, List.getElem?_cons_zero]; exact rfl) (by kernel_rfl) (by kernel_rfl) (by kernel_rfl) (by exact fun _ _ _ h => h) (Or.inl ⟨by rfl, ?_⟩) (by assumption) ?_; rotate_left; (intro wz hSz; go_simp; try (with_reducible rfl)); simp only [Act.put, List.setIfInBounds_toArray, List.set_cons_zero, List.set_cons_succ])
              (refine wpAnyH_take (i := 2) (v := ?_) (by simp only [List.getElem?_toArray, List.getElem?_cons_succ, List.getElem?_cons_zero]; exact rfl) (by kernel_rfl) (by kernel_rfl) (by kernel_rfl) (by exact fun _ _ _ h => h) (Or.inl ⟨by rfl, ?_⟩) (by assumption) ?_; rotate_left; (intro wz hSz; go_simp; try (with_reducible rfl)); simp only [Act.put, List.setIfInBounds_toArray, List.set_cons_zero, List.set_cons_succ])
              (refine wpAnyH_take (i := 3) (v := ?_) (by simp only [List.getElem?_toArray, List.getElem?_cons_succ, List.getElem?_cons_zero]; exact rfl) (by kernel_rfl) (by kernel_rfl) (by kernel_rfl) (by exact fun _ _ _ h => h) (Or.inl ⟨by rfl, ?_⟩) (by assumption) ?_; rotate_left; (intro wz hSz; go_simp; try (with_reducible rfl)); simp only [Act.put, List.setIfInBounds_toArray, List.set_cons_zero, List.set_cons_succ])
              (refine wpAnyH_take (i := 4) (v := _) (by simp only [List.getElem?_toArray, List.getElem?_cons_succ, List.getElem?_cons_zero]; exact rfl) (by kernel_rfl) (by kernel_rfl) (by kernel_rfl) (by exact fun _ _ _ h => h) (yieldsIf_load_cells (by rfl) _ _ rfl _ rfl _ _ q4.out huH rfl hiK) (by assumption) ?_; simp only [Act.put, List.setIfInBounds_toArray, List.set_cons_zero, List.set_cons_succ])
              (refine wpAnyH_take (i := 5) (v := ?_) (by simp only [List.getElem?_toArray, List.getElem?_cons_succ, List.getElem?_cons_zero]; exact rfl) (by kernel_rfl) (by kernel_rfl) (by kernel_rfl) (by exact fun _ _ _ h => h) (Or.inl ⟨by rfl, ?_⟩) (by assumption) ?_; rotate_left; (intro wz hSz; go_simp; try (with_reducible rfl)); simp only [Act.put, List.setIfInBounds_toArray, List.set_cons_zero, List.set_cons_succ])
              (refine wpAnyH_take (i := 6) (v := _) (by simp only [List.getElem?_toArray, List.getElem?_cons_succ, List.getElem?_cons_zero]; exact rfl) (by kernel_rfl) (by kernel_rfl) (by kernel_rfl) (by exact fun _ _ _ h => h) (yieldsIf_load_cells (by rfl) _ _ rfl _ rfl _ _ q6.out huH rfl hiK) (by assumption) ?_; simp only [Act.put, List.setIfInBounds_toArray, List.set_cons_zero, List.set_cons_succ])
              (refine wpAnyH_take (i := 7) (v := ?_) (by simp only [List.getElem?_toArray, List.getElem?_cons_succ, List.getElem?_cons_zero]; exact rfl) (by kernel_rfl) (by kernel_rfl) (by kernel_rfl) (by exact fun _ _ _ h => h) (Or.inl ⟨by rfl, ?_⟩) (by assumption) ?_; rotate_left; (intro wz hSz; go_simp; try (with_reducible rfl)); simp only [Act.put, List.setIfInBounds_toArray, List.set_cons_zero, List.set_cons_succ])
              (refine wpAnyH_take (i := 8) (v := ?_) (by simp only [List.getElem?_toArray, List.getElem?_cons_succ, List.getElem?_cons_zero]; exact rfl) (by kernel_rfl) (by kernel_rfl) (by kernel_rfl) (by exact fun _ _ _ h => h) (Or.inl ⟨by rfl, ?_⟩) (by assumption) ?_; rotate_left; (intro wz hSz; go_simp; try (with_reducible rfl)); simp only [Act.put, List.setIfInBounds_toArray, List.set_cons_zero, List.set_cons_succ])
              (refine wpAnyH_take (i := 9) (v := ?_) (by simp only [List.getElem?_toArray, List.getElem?_cons_succ, List.getElem?_cons_zero]; exact rfl) (by kernel_rfl) (by kernel_rfl) (by kernel_rfl) (by exact fun _ _ _ h => h) (Or.inl ⟨by rfl, ?_⟩) (by assumption) ?_; rotate_left; (intro wz hSz; go_simp; try (with_reducible rfl)); simp only [Act.put, List.setIfInBounds_toArray, List.set_cons_zero, List.set_cons_succ])
              (refine wpAnyH_take (i := 10) (v := ?_) (by simp only [List.getElem?_toArray, List.getElem?_cons_succ, List.getElem?_cons_zero]; exact rfl) (by kernel_rfl) (by kernel_rfl) (by kernel_rfl) (by exact fun _ _ _ h => h) (Or.inl ⟨by rfl, ?_⟩) (by assumption) ?_; rotate_left; (intro wz hSz; go_simp; try (with_reducible rfl)); simp only [Act.put, List.setIfInBounds_toArray, List.set_cons_zero, List.set_cons_succ])
              (refine wpAnyH_take (i := 11) (v := ?_) (by simp only [List.getElem?_toArray, List.getElem?_cons_succ, List.getElem?_cons_zero]; exact rfl) (by kernel_rfl) (by kernel_rfl) (by kernel_rfl) (by exact fun _ _ _ h => h) (Or.inl ⟨by rfl, ?_⟩) (by assumption) ?_; rotate_left; (intro wz hSz; go_simp; try (with_reducible rfl)); simp only [Act.put, List.setIfInBounds_toArray, List.set_cons_zero, List.set_cons_succ])
              (refine wpAnyH_take (i := 12) (v := ?_) (by simp only [List.getElem?_toArray, List.getElem?_cons_succ, List.getElem?_cons_zero]; exact rfl) (by kernel_rfl) (by kernel_rfl) (by kernel_rfl) (by exact fun _ _ _ h => h) (Or.inl ⟨by rfl, ?_⟩) (by assumption) ?_; rotate_left; (intro wz hSz; go_simp; try (with_reducible rfl)); simp only [Act.put, List.setIfInBounds_toArray, List.set_cons_zero, List.set_cons_succ])
              (refine wpAnyH_take (i := 13) (v := _) (by simp only [List.getElem?_toArray, List.getElem?_cons_succ, List.getElem?_cons_zero]; exact rfl) (by kernel_rfl) (by kernel_rfl) (by kernel_rfl) (by exact fun _ _ _ h => h) (yieldsIf_load_cells (by rfl) _ _ rfl _ rfl _ _ q13.out huV rfl hiA) (by assumption) ?_; simp only [Act.put, List.setIfInBounds_toArray, List.set_cons_zero, List.set_cons_succ])
              (refine wpAnyH_take (i := 14) (v := ?_) (by simp only [List.getElem?_toArray, List.getElem?_cons_succ, List.getElem?_cons_zero]; exact rfl) (by kernel_rfl) (by kernel_rfl) (by kernel_rfl) (by exact fun _ _ _ h => h) (Or.inl ⟨by rfl, ?_⟩) (by assumption) ?_; rotate_left; (intro wz hSz; go_simp; try (with_reducible rfl)); simp only [Act.put, List.setIfInBounds_toArray, List.set_cons_zero, List.set_cons_succ])
              (refine wpAnyH_take (i := 15) (v := _) (by simp only [List.getElem?_toArray, List.getElem?_cons_succ, List.getElem?_cons_zero]; exact rfl) (by kernel_rfl) (by kernel_rfl) (by kernel_rfl) (by exact fun _ _ _ h => h) (yieldsIf_load_cells (by rfl) _ _ rfl _ rfl _ _ q15.out huV rfl hiB) (by assumption) ?_; simp only [Act.put, List.setIfInBounds_toArray, List.set_cons_zero, List.set_cons_succ])
              refine wpAnyH_ready (rs := [16]) (by kernel_rfl) (by simp) (AllReadyH.cons (o := _) (by simp only [List.getElem?_toArray, List.getElem?_cons_succ, List.getElem?_cons_zero]; exact rfl) (fun K' hK' => ?_) AllReadyH.nil); go_simp
              go_at_call 9
              (with_reducible refine (hcA.out _ hx5d).mono ?_)
              rintro r w6 ⟨rfl, hx6⟩
              have hx56 := hx5d.then hx6
              go_wp2_with fail
              refine hK'.out _ _ (hS.out _ hx56) (fun hHeld => ?_); clear hK' K'; try simp only [Act.put, List.setIfInBounds_toArray, List.set_cons_zero, List.set_cons_succ]
              (refine wpAnyH_take (i := 17) (v := ?_) (by simp only [List.getElem?_toArray, List.getElem?_cons_succ, List.getElem?_cons_zero]; exact rfl) (by kernel_rfl) (by kernel_rfl) (by kernel_rfl) (by exact fun _ _ _ h => h) (Or.inl ⟨by rfl, ?_⟩) (by assumption) ?_; rotate_left; (intro wz hSz; go_simp; try (with_reducible rfl)); simp only [Act.put, List.setIfInBounds_toArray, List.set_cons_zero, List.set_cons_succ])
              (refine wpAnyH_take (i := 18) (v := ?_) (by simp only [List.getElem?_toArray, List.getElem?_cons_succ, List.getElem?_cons_zero]; exact rfl) (by kernel_rfl) (by kernel_rfl) (by kernel_rfl) (by exact fun _ _ _ h => h) (Or.inl ⟨by rfl, ?_⟩) (by assumption) ?_; rotate_left; (intro wz hSz; go_simp; try (with_reducible rfl)); simp only [Act.put, List.setIfInBounds_toArray, List.set_cons_zero, List.set_cons_succ])
              (refine wpAnyH_take (i := 19) (v := ?_) (by simp only [List.getElem?_toArray, List.getElem?_cons_succ, List.getElem?_cons_zero]; exact rfl) (by kernel_rfl) (by kernel_rfl) (by kernel_rfl) (by exact fun _ _ _ h => h) (Or.inl ⟨by rfl, ?_⟩) (by assumption) ?_; rotate_left; (intro wz hSz; go_simp; try (with_reducible rfl)); simp only [Act.put, List.setIfInBounds_toArray, List.set_cons_zero, List.set_cons_succ])
              (refine wpAnyH_take (i := 20) (v := ?_) (by simp only [List.getElem?_toArray, List.getElem?_cons_succ, List.getElem?_cons_zero]; exact rfl) (by kernel_rfl) (by kernel_rfl) (by kernel_rfl) (by exact fun _ _ _ h => h) (Or.inl ⟨by rfl, ?_⟩) (by assumption) ?_; rotate_left; (intro wz hSz; go_simp; try (with_reducible rfl)); simp only [Act.put, List.setIfInBounds_toArray, List.set_cons_zero, List.set_cons_succ])
              (refine wpAnyH_take (i := 21) (v := ?_) (by simp only [List.getElem?_toArray, List.getElem?_cons_succ, List.getElem?_cons_zero]; exact rfl) (by kernel_rfl) (by kernel_rfl) (by kernel_rfl) (by exact fun _ _ _ h => h) (Or.inl ⟨by rfl, ?_⟩) (by assumption) ?_; rotate_left; (intro wz hSz; go_simp; try (with_reducible rfl)); simp only [Act.put, List.setIfInBounds_toArray, List.set_cons_zero, List.set_cons_succ])
              (refine wpAnyH_take (i := 22) (v := ?_) (by simp only [List.getElem?_toArray, List.getElem?_cons_succ, List.getElem?_cons_zero]; exact rfl) (by kernel_rfl) (by kernel_rfl) (by kernel_rfl) (by exact fun _ _ _ h => h) (Or.inl ⟨by rfl, ?_⟩) (by assumption) ?_; rotate_left; (intro wz hSz; go_simp; try (with_reducible rfl)); simp only [Act.put, List.setIfInBounds_toArray, List.set_cons_zero, List.set_cons_succ])
              (refine wpAnyH_take (i := 23) (v := ?_) (by simp only [List.getElem?_toArray, List.getElem?_cons_succ, List.getElem?_cons_zero]; exact rfl) (by kernel_rfl) (by kernel_rfl) (by kernel_rfl) (by exact fun _ _ _ h => h) (Or.inl ⟨by rfl, ?_⟩) (by assumption) ?_; rotate_left; (intro wz hSz; go_simp; try (with_reducible rfl)); simp only [Act.put, List.setIfInBounds_toArray, List.set_cons_zero, List.set_cons_succ])
              (refine wpAnyH_take (i := 24) (v := _) (by simp only [List.getElem?_toArray, List.getElem?_cons_succ, List.getElem?_cons_zero]; exact rfl) (by kernel_rfl) (by kernel_rfl) (by kernel_rfl) (by exact fun _ _ _ h => h) (yieldsIf_load_cells (by rfl) _ _ rfl _ rfl _ _ q24.out huV rfl hiC) (by assumption) ?_; simp only [Act.put, List.setIfInBounds_toArray, List.set_cons_zero, List.set_cons_succ])
              (refine wpAnyH_take (i := 25) (v := ?_) (by simp only [List.getElem?_toArray, List.getElem?_cons_succ, List.getElem?_cons_zero]; exact rfl) (by kernel_rfl) (by kernel_rfl) (by kernel_rfl) (by exact fun _ _ _ h => h) (Or.inl ⟨by rfl, ?_⟩) (by assumption) ?_; rotate_left; (intro wz hSz; go_simp; try (with_reducible rfl)); simp only [Act.put, List.setIfInBounds_toArray, List.set_cons_zero, List.set_cons_succ])
              (refine wpAnyH_take (i := 26) (v := _) (by simp only [List.getElem?_toArray, List.getElem?_cons_succ, List.getElem?_cons_zero]; exact rfl) (by kernel_rfl) (by kernel_rfl) (by kernel_rfl) (by exact fun _ _ _ h => h) (yieldsIf_load_cells (by rfl) _ _ rfl _ rfl _ _ q26.out huV rfl hiD) (by assumption) ?_; simp only [Act.put, List.setIfInBounds_toArray, List.set_cons_zero, List.set_cons_succ])
              refine wpAnyH_ready (rs := [27]) (by kernel_rfl) (by simp) (AllReadyH.cons (o := _) (by simp only [List.getElem?_toArray, List.getElem?_cons_succ, List.getElem?_cons_zero]; exact rfl) (fun K' hK' => ?_) AllReadyH.nil); go_simp
              go_at_call 9
              (with_reducible refine (hcB.out _ hx56).mono ?_)
              rintro r w7 ⟨rfl, hx7⟩
              have hx57 := hx56.then hx7
              go_wp2_with fail
              refine hK'.out _ _ (hS.out _ hx57) (fun hHeld => ?_); clear hK' K'; try simp only [Act.put, List.setIfInBounds_toArray, List.set_cons_zero, List.set_cons_succ]
              (refine wpAnyH_take (i := 28) (v := ?_) (by simp only [List.getElem?_toArray, List.getElem?_cons_succ, List.getElem?_cons_zero]; exact rfl) (by kernel_rfl) (by kernel_rfl) (by kernel_rfl) (by exact fun _ _ _ h => h) (Or.inl ⟨by rfl, ?_⟩) (by assumption) ?_; rotate_left; (intro wz hSz; go_simp; try (with_reducible rfl)); simp only [Act.put, List.setIfInBounds_toArray, List.set_cons_zero, List.set_cons_succ])
              (refine wpAnyH_take (i := 29) (v := ?_) (by simp only [List.getElem?_toArray, List.getElem?_cons_succ, List.getElem?_cons_zero]; exact rfl) (by kernel_rfl) (by kernel_rfl) (by kernel_rfl) (by exact fun _ _ _ h => h) (Or.inl ⟨by rfl, ?_⟩) (by assumption) ?_; rotate_left; (intro wz hSz; go_simp; try (with_reducible rfl)); simp only [Act.put, List.setIfInBounds_toArray, List.set_cons_zero, List.set_cons_succ])
              (refine wpAnyH_take (i := 30) (v := ?_) (by simp only [List.getElem?_toArray, List.getElem?_cons_succ, List.getElem?_cons_zero]; exact rfl) (by kernel_rfl) (by kernel_rfl) (by kernel_rfl) (by exact fun _ _ _ h => h) (Or.inl ⟨by rfl, ?_⟩) (by assumption) ?_; rotate_left; (intro wz hSz; go_simp; try (with_reducible rfl)); simp only [Act.put, List.setIfInBounds_toArray, List.set_cons_zero, List.set_cons_succ])
              (refine wpAnyH_take (i := 31) (v := ?_) (by simp only [List.getElem?_toArray, List.getElem?_cons_succ, List.getElem?_cons_zero]; exact rfl) (by kernel_rfl) (by kernel_rfl) (by kernel_rfl) (by exact fun _ _ _ h => h) (Or.inl ⟨by rfl, ?_⟩) (by assumption) ?_; rotate_left; (intro wz hSz; go_simp; try (with_reducible rfl)); simp only [Act.put, List.setIfInBounds_toArray, List.set_cons_zero, List.set_cons_succ])
              (refine wpAnyH_take (i := 32) (v := ?_) (by simp only [List.getElem?_toArray, List.getElem?_cons_succ, List.getElem?_cons_zero]; exact rfl) (by kernel_rfl) (by kernel_rfl) (by kernel_rfl) (by exact fun _ _ _ h => h) (Or.inl ⟨by rfl, ?_⟩) (by assumption) ?_; rotate_left; (intro wz hSz; go_simp; try (with_reducible rfl)); simp only [Act.put, List.setIfInBounds_toArray, List.set_cons_zero, List.set_cons_succ])
              (refine wpAnyH_take (i := 33) (v := ?_) (by simp only [List.getElem?_toArray, List.getElem?_cons_succ, List.getElem?_cons_zero]; exact rfl) (by kernel_rfl) (by kernel_rfl) (by kernel_rfl) (by exact fun _ _ _ h => h) (Or.inl ⟨by rfl, ?_⟩) (by assumption) ?_; rotate_left; (intro wz hSz; go_simp; try (with_reducible rfl)); simp only [Act.put, List.setIfInBounds_toArray, List.set_cons_zero, List.set_cons_succ])
              (refine wpAnyH_take (i := 34) (v := _) (by simp only [List.getElem?_toArray, List.getElem?_cons_succ, List.getElem?_cons_zero]; exact rfl) (by kernel_rfl) (by kernel_rfl) (by kernel_rfl) (by exact fun _ _ _ h => h) (yieldsIf_load_cells (by rfl) _ _ rfl _ rfl _ _ q34.out huH rfl hiK) (by assumption) ?_; simp only [Act.put, List.setIfInBounds_toArray, List.set_cons_zero, List.set_cons_succ])
              (refine wpAnyH_take (i := 35) (v := ?_) (by simp only [List.getElem?_toArray, List.getElem?_cons_succ, List.getElem?_cons_zero]; exact rfl) (by kernel_rfl) (by kernel_rfl) (by kernel_rfl) (by exact fun _ _ _ h => h) (Or.inl ⟨by rfl, ?_⟩) (by assumption) ?_; rotate_left; (intro wz hSz; go_simp; try (with_reducible rfl)); simp only [Act.put, List.setIfInBounds_toArray, List.set_cons_zero, List.set_cons_succ])
              (refine wpAnyH_take (i := 36) (v := _) (by simp only [List.getElem?_toArray, List.getElem?_cons_succ, List.getElem?_cons_zero]; exact rfl) (by kernel_rfl) (by kernel_rfl) (by kernel_rfl) (by exact fun _ _ _ h => h) (yieldsIf_load_cells (by rfl) _ _ rfl _ rfl _ _ q6.out huH rfl hiK) (by assumption) ?_; simp only [Act.put, List.setIfInBounds_toArray, List.set_cons_zero, List.set_cons_succ])
              (refine wpAnyH_take (i := 37) (v := ?_) (by simp only [List.getElem?_toArray, List.getElem?_cons_succ, List.getElem?_cons_zero]; exact rfl) (by kernel_rfl) (by kernel_rfl) (by kernel_rfl) (by exact fun _ _ _ h => h) (Or.inl ⟨by rfl, ?_⟩) (by assumption) ?_; rotate_left; (intro wz hSz; go_simp; try (with_reducible rfl)); simp only [Act.put, List.setIfInBounds_toArray, List.set_cons_zero, List.set_cons_succ])
              (refine wpAnyH_take (i := 38) (v := ?_) (by simp only [List.getElem?_toArray, List.getElem?_cons_succ, List.getElem?_cons_zero]; exact rfl) (by kernel_rfl) (by kernel_rfl) (by kernel_rfl) (by exact fun _ _ _ h => h) (Or.inl ⟨by rfl, ?_⟩) (by assumption) ?_; rotate_left; (intro wz hSz; go_simp; try (with_reducible rfl)); simp only [Act.put, List.setIfInBounds_toArray, List.set_cons_zero, List.set_cons_succ])
              refine wpAnyH_done (by kernel_rfl) ?_ _
              go_wp2_with fail
              exact ⟨⟨k + 1, by omega, by go_num, hx4.then (hx45.then hx57)⟩, by simp [intOf]; omega⟩
            · go_simp
              refine hK'.out _ _ (hSx.out _ hw1) (fun hHeld => ?_); clear hK' K'; try simp only [Act.put, List.setIfInBounds_toArray, List.set_cons_zero, List.set_cons_succ]
              refine wpAnyH_ready (rs := [16]) (by kernel_rfl) (by simp) (AllReadyH.cons (o := _) (by simp only [List.getElem?_toArray, List.getElem?_cons_succ, List.getElem?_cons_zero]; exact rfl) (fun K' hK' => ?_) AllReadyH.nil); go_simp
              refine hK'.out _ _ (hSx.out _ hw2) (fun hHeld => ?_); clear hK' K'; try simp only [Act.put, List.setIfInBounds_toArray, List.set_cons_zero, List.set_cons_succ]
              refine wpAnyH_ready (rs := [18]) (by kernel_rfl) (by simp) (AllReadyH.cons (o := _) (by simp only [List.getElem?_toArray, List.getElem?_cons_succ, List.getElem?_cons_zero]; exact rfl) (fun K' hK' => ?_) AllReadyH.nil); go_simp
              refine hK'.out _ _ (hSx.out _ (below_setRow hw2 (Nat.le_succ _) _)) (fun hHeld => ?_); clear hK' K'; try simp only [Act.put, List.setIfInBounds_toArray, List.set_cons_zero, List.set_cons_succ]
              refine wpAnyH_ready (rs := [19]) (by kernel_rfl) (by simp) (AllReadyH.cons (o := _) (by simp only [List.getElem?_toArray, List.getElem?_cons_succ, List.getElem?_cons_zero]; exact rfl) (fun K' hK' => ?_) AllReadyH.nil); go_simp
              refine hK'.out _ _ (hSx.out _ t4) (fun hHeld => ?_); clear hK' K'; try simp only [Act.put, List.setIfInBounds_toArray, List.set_cons_zero, List.set_cons_succ]
              refine wpAnyH_done (by kernel_rfl) ?_ _
              have hx5 := t4
              have c8 := t5
              have c9 := t6
              clear t1 t2 t3 t4 t5 t6 st1 st2 st3 st4 hw1 hw2 hz0 hS1 hS2 hS3 hS4 hSx hSS hHeld hiX hiY
              generalize ((((W.alloc (.cells Z 33)).alloc (.cells Z 33)).setRow (W.heap.size + 1) (sgCells X)).setRow (W.heap.size) (sgCells Y)) = w5 at *
              have hx45 := hxd.then hx5
              have hx5d := ext_drew w5
              have hS : Hid (∀ w', Ext w5 w' → (CellsIn w' (adg.add (k * 168)) (evCells ⟨X.k, vtWith X.v a1 n1 c1, vtWith Y.v a2 n2 c2⟩) ∧ CellsIn w' ⟨W.heap.size + 1, 0, none⟩ (sgCells X) ∧ CellsIn w' ⟨W.heap.size, 0, none⟩ (sgCells Y) ∧ CellsIn w' (adn.add (k * 32)) (bcells X.k))) := hide fun w' h => ⟨(hEk.out.ext hx45).ext h, c8.ext h, c9.ext h, (hnk.out.ext hx45).ext h⟩
              have q4 : Hid (∀ w' : World, (CellsIn w' (adg.add (k * 168)) (evCells ⟨X.k, vtWith X.v a1 n1 c1, vtWith Y.v a2 n2 c2⟩) ∧ CellsIn w' ⟨W.heap.size + 1, 0, none⟩ (sgCells X) ∧ CellsIn w' ⟨W.heap.size, 0, none⟩ (sgCells Y) ∧ CellsIn w' (adn.add (k * 32)) (bcells X.k)) → CellsIn w' (adg.add (k * 168)) (bcells X.k)) := hide fun w' h => by
                have h1 := h.1.sub 0 32
                rw [ev_key, addr_add] at h1
                exact h1
              have q6 : Hid (∀ w' : World, (CellsIn w' (adg.add (k * 168)) (evCells ⟨X.k, vtWith X.v a1 n1 c1, vtWith Y.v a2 n2 c2⟩) ∧ CellsIn w' ⟨W.heap.size + 1, 0, none⟩ (sgCells X) ∧ CellsIn w' ⟨W.heap.size, 0, none⟩ (sgCells Y) ∧ CellsIn w' (adn.add (k * 32)) (bcells X.k)) → CellsIn w' ⟨W.heap.size + 1, 68, none⟩ (bcells X.k)) := hide fun w' h => by
                have h1 := h.2.1.sub 68 100
                rw [sg_key, add_flat, Nat.zero_add] at h1
                exact h1
              have q13 : Hid (∀ w' : World, (CellsIn w' (adg.add (k * 168)) (evCells ⟨X.k, vtWith X.v a1 n1 c1, vtWith Y.v a2 n2 c2⟩) ∧ CellsIn w' ⟨W.heap.size + 1, 0, none⟩ (sgCells X) ∧ CellsIn w' ⟨W.heap.size, 0, none⟩ (sgCells Y) ∧ CellsIn w' (adn.add (k * 32)) (bcells X.k)) → CellsIn w' ⟨(adg.add (k * 168)).block, (adg.add (k * 168)).off + 32, none⟩ (vtCells (vtWith X.v a1 n1 c1))) := hide fun w' h => by
                have h1 := h.1.sub 32 100
                rw [ev_a, add_32] at h1
                exact h1
              have q15 : Hid (∀ w' : World, (CellsIn w' (adg.add (k * 168)) (evCells ⟨X.k, vtWith X.v a1 n1 c1, vtWith Y.v a2 n2 c2⟩) ∧ CellsIn w' ⟨W.heap.size + 1, 0, none⟩ (sgCells X) ∧ CellsIn w' ⟨W.heap.size, 0, none⟩ (sgCells Y) ∧ CellsIn w' (adn.add (k * 32)) (bcells X.k)) → CellsIn w' ⟨W.heap.size + 1, 0, none⟩ (vtCells X.v)) := hide fun w' h => by
                have h1 := h.2.1.sub 0 68
                rw [sg_vote, add_flat] at h1
                exact h1
              have q24 : Hid (∀ w' : World, (CellsIn w' (adg.add (k * 168)) (evCells ⟨X.k, vtWith X.v a1 n1 c1, vtWith Y.v a2 n2 c2⟩) ∧ CellsIn w' ⟨W.heap.size + 1, 0, none⟩ (sgCells X) ∧ CellsIn w' ⟨W.heap.size, 0, none⟩ (sgCells Y) ∧ CellsIn w' (adn.add (k * 32)) (bcells X.k)) → CellsIn w' ⟨(adg.add (k * 168)).block, (adg.add (k * 168)).off + 100, none⟩ (vtCells (vtWith Y.v a2 n2 c2))) := hide fun w' h => by
                have h1 := h.1.sub 100 168
                rw [ev_b, add_100] at h1
                exact h1
              have q26 : Hid (∀ w' : World, (CellsIn w' (adg.add (k * 168)) (evCells ⟨X.k, vtWith X.v a1 n1 c1, vtWith Y.v a2 n2 c2⟩) ∧ CellsIn w' ⟨W.heap.size + 1, 0, none⟩ (sgCells X) ∧ CellsIn w' ⟨W.heap.size, 0, none⟩ (sgCells Y) ∧ CellsIn w' (adn.add (k * 32)) (bcells X.k)) → CellsIn w' ⟨W.heap.size, 0, none⟩ (vtCells Y.v)) := hide fun w' h => by
                have h1 := h.2.2.1.sub 0 68
                rw [sg_vote, add_flat] at h1
                exact h1
              have q34 : Hid (∀ w' : World, (CellsIn w' (adg.add (k * 168)) (evCells ⟨X.k, vtWith X.v a1 n1 c1, vtWith Y.v a2 n2 c2⟩) ∧ CellsIn w' ⟨W.heap.size + 1, 0, none⟩ (sgCells X) ∧ CellsIn w' ⟨W.heap.size, 0, none⟩ (sgCells Y) ∧ CellsIn w' (adn.add (k * 32)) (bcells X.k)) → CellsIn w' (adn.add (k * 32)) (bcells X.k)) := hide fun w' h => by
                exact h.2.2.2
              have eqk : ∀ w', (Op.equalIn 10000 26 (.agg (bcells X.k)) (.agg (bcells X.k))).run Try.prog w' = .ok true w' := fun w' => by rw [← bsEq_self X.k]; exact equal_hashF w' _ _
              have hiK : (Try.prog.info? 26).map (·.size) = some (bcells X.k).size := by rw [size_bcells]; kernel_rfl
              have hcA : Hid (∀ w', Ext w5 w' → Calls Try.prog 9 #[.agg (vtCells (vtWith X.v a1 n1 c1)), .agg (vtCells X.v)] w' fun r w'' => r = .returned (.bool true) ∧ Ext w' w'') := hide fun w' h => sameV_any X.v a1 n1 c1 (C p1) w' ((hsa.out.ext hx45).ext h) ((sA.out.ext hx45).ext h)
              have hcB : Hid (∀ w', Ext w5 w' → Calls Try.prog 9 #[.agg (vtCells (vtWith Y.v a2 n2 c2)), .agg (vtCells Y.v)] w' fun r w'' => r = .returned (.bool true) ∧ Ext w' w'') := hide fun w' h => sameV_any Y.v a2 n2 c2 (C p2) w' ((hsb.out.ext hx45).ext h) ((sB.out.ext hx45).ext h)
              have hiA : (Try.prog.info? 31).map (·.size) = some (vtCells (vtWith X.v a1 n1 c1)).size := by rw [size_vtCells]; kernel_rfl
              have hiB : (Try.prog.info? 31).map (·.size) = some (vtCells X.v).size := by rw [size_vtCells]; kernel_rfl
              have hiC : (Try.prog.info? 31).map (·.size) = some (vtCells (vtWith Y.v a2 n2 c2)).size := by rw [size_vtCells]; kernel_rfl
              have hiD : (Try.prog.info? 31).map (·.size) = some (vtCells Y.v).size := by rw [size_vtCells]; kernel_rfl
              clear c8 c9
              go_wp2_with fail
              refine wp_region_held_drew (S := fun w' => (CellsIn w' (adg.add (k * 168)) (evCells ⟨X.k, vtWith X.v a1 n1 c1, vtWith Y.v a2 n2 c2⟩) ∧ CellsIn w' ⟨W.heap.size + 1, 0, none⟩ (sgCells X) ∧ CellsIn w' ⟨W.heap.size, 0, none⟩ (sgCells Y) ∧ CellsIn w' (adn.add (k * 32)) (bcells X.k))) (by kernel_rfl) (hS.out _ hx5d) (fun hHeld => ?_)
              (refine wpAnyH_take (i := 0) (v := ?_) (by simp only [List.getElem?_toArray, List.getElem?_cons_succ, List.getElem?_cons_zero]; exact rfl) (by kernel_rfl) (by kernel_rfl) (by kernel_rfl) (by exact fun _ _ _ h => h) (Or.inl ⟨by rfl, ?_⟩) (by assumption) ?_; rotate_left; (intro wz hSz; go_simp; try (with_reducible rfl)); simp only [Act.put, List.setIfInBounds_toArray, List.set_cons_zero, List.set_cons_succ])
              (refine wpAnyH_take (i := 1) (v := ?_) (by simp only [List.getElem?_toArray, List.getElem?_cons_succ, List.getElem?_cons_zero]; exact rfl) (by kernel_rfl) (by kernel_rfl) (by kernel_rfl) (by exact fun _ _ _ h => h) (Or.inl ⟨by rfl, ?_⟩) (by assumption) ?_; rotate_left; (intro wz hSz; go_simp; try (with_reducible rfl)); simp only [Act.put, List.setIfInBounds_toArray, List.set_cons_zero, List.set_cons_succ])
              (refine wpAnyH_take (i := 2) (v := ?_) (by simp only [List.getElem?_toArray, List.getElem?_cons_succ, List.getElem?_cons_zero]; exact rfl) (by kernel_rfl) (by kernel_rfl) (by kernel_rfl) (by exact fun _ _ _ h => h) (Or.inl ⟨by rfl, ?_⟩) (by assumption) ?_; rotate_left; (intro wz hSz; go_simp; try (with_reducible rfl)); simp only [Act.put, List.setIfInBounds_toArray, List.set_cons_zero, List.set_cons_succ])
              (refine wpAnyH_take (i := 3) (v := ?_) (by simp only [List.getElem?_toArray, List.getElem?_cons_succ, List.getElem?_cons_zero]; exact rfl) (by kernel_rfl) (by kernel_rfl) (by kernel_rfl) (by exact fun _ _ _ h => h) (Or.inl ⟨by rfl, ?_⟩) (by assumption) ?_; rotate_left; (intro wz hSz; go_simp; try (with_reducible rfl)); simp only [Act.put, List.setIfInBounds_toArray, List.set_cons_zero, List.set_cons_succ])
              (refine wpAnyH_take (i := 4) (v := _) (by simp only [List.getElem?_toArray, List.getElem?_cons_succ, List.getElem?_cons_zero]; exact rfl) (by kernel_rfl) (by kernel_rfl) (by kernel_rfl) (by exact fun _ _ _ h => h) (yieldsIf_load_cells (by rfl) _ _ rfl _ rfl _ _ q4.out huH rfl hiK) (by assumption) ?_; simp only [Act.put, List.setIfInBounds_toArray, List.set_cons_zero, List.set_cons_succ])
              (refine wpAnyH_take (i := 5) (v := ?_) (by simp only [List.getElem?_toArray, List.getElem?_cons_succ, List.getElem?_cons_zero]; exact rfl) (by kernel_rfl) (by kernel_rfl) (by kernel_rfl) (by exact fun _ _ _ h => h) (Or.inl ⟨by rfl, ?_⟩) (by assumption) ?_; rotate_left; (intro wz hSz; go_simp; try (with_reducible rfl)); simp only [Act.put, List.setIfInBounds_toArray, List.set_cons_zero, List.set_cons_succ])
              (refine wpAnyH_take (i := 6) (v := _) (by simp only [List.getElem?_toArray, List.getElem?_cons_succ, List.getElem?_cons_zero]; exact rfl) (by kernel_rfl) (by kernel_rfl) (by kernel_rfl) (by exact fun _ _ _ h => h) (yieldsIf_load_cells (by rfl) _ _ rfl _ rfl _ _ q6.out huH rfl hiK) (by assumption) ?_; simp only [Act.put, List.setIfInBounds_toArray, List.set_cons_zero, List.set_cons_succ])
              (refine wpAnyH_take (i := 7) (v := ?_) (by simp only [List.getElem?_toArray, List.getElem?_cons_succ, List.getElem?_cons_zero]; exact rfl) (by kernel_rfl) (by kernel_rfl) (by kernel_rfl) (by exact fun _ _ _ h => h) (Or.inl ⟨by rfl, ?_⟩) (by assumption) ?_; rotate_left; (intro wz hSz; go_simp; try (with_reducible rfl)); simp only [Act.put, List.setIfInBounds_toArray, List.set_cons_zero, List.set_cons_succ])
              (refine wpAnyH_take (i := 8) (v := ?_) (by simp only [List.getElem?_toArray, List.getElem?_cons_succ, List.getElem?_cons_zero]; exact rfl) (by kernel_rfl) (by kernel_rfl) (by kernel_rfl) (by exact fun _ _ _ h => h) (Or.inl ⟨by rfl, ?_⟩) (by assumption) ?_; rotate_left; (intro wz hSz; go_simp; try (with_reducible rfl)); simp only [Act.put, List.setIfInBounds_toArray, List.set_cons_zero, List.set_cons_succ])
              (refine wpAnyH_take (i := 9) (v := ?_) (by simp only [List.getElem?_toArray, List.getElem?_cons_succ, List.getElem?_cons_zero]; exact rfl) (by kernel_rfl) (by kernel_rfl) (by kernel_rfl) (by exact fun _ _ _ h => h) (Or.inl ⟨by rfl, ?_⟩) (by assumption) ?_; rotate_left; (intro wz hSz; go_simp; try (with_reducible rfl)); simp only [Act.put, List.setIfInBounds_toArray, List.set_cons_zero, List.set_cons_succ])
              (refine wpAnyH_take (i := 10) (v := ?_) (by simp only [List.getElem?_toArray, List.getElem?_cons_succ, List.getElem?_cons_zero]; exact rfl) (by kernel_rfl) (by kernel_rfl) (by kernel_rfl) (by exact fun _ _ _ h => h) (Or.inl ⟨by rfl, ?_⟩) (by assumption) ?_; rotate_left; (intro wz hSz; go_simp; try (with_reducible rfl)); simp only [Act.put, List.setIfInBounds_toArray, List.set_cons_zero, List.set_cons_succ])
              (refine wpAnyH_take (i := 11) (v := ?_) (by simp only [List.getElem?_toArray, List.getElem?_cons_succ, List.getElem?_cons_zero]; exact rfl) (by kernel_rfl) (by kernel_rfl) (by kernel_rfl) (by exact fun _ _ _ h => h) (Or.inl ⟨by rfl, ?_⟩) (by assumption) ?_; rotate_left; (intro wz hSz; go_simp; try (with_reducible rfl)); simp only [Act.put, List.setIfInBounds_toArray, List.set_cons_zero, List.set_cons_succ])
              (refine wpAnyH_take (i := 12) (v := ?_) (by simp only [List.getElem?_toArray, List.getElem?_cons_succ, List.getElem?_cons_zero]; exact rfl) (by kernel_rfl) (by kernel_rfl) (by kernel_rfl) (by exact fun _ _ _ h => h) (Or.inl ⟨by rfl, ?_⟩) (by assumption) ?_; rotate_left; (intro wz hSz; go_simp; try (with_reducible rfl)); simp only [Act.put, List.setIfInBounds_toArray, List.set_cons_zero, List.set_cons_succ])
              (refine wpAnyH_take (i := 13) (v := _) (by simp only [List.getElem?_toArray, List.getElem?_cons_succ, List.getElem?_cons_zero]; exact rfl) (by kernel_rfl) (by kernel_rfl) (by kernel_rfl) (by exact fun _ _ _ h => h) (yieldsIf_load_cells (by rfl) _ _ rfl _ rfl _ _ q13.out huV rfl hiA) (by assumption) ?_; simp only [Act.put, List.setIfInBounds_toArray, List.set_cons_zero, List.set_cons_succ])
              (refine wpAnyH_take (i := 14) (v := ?_) (by simp only [List.getElem?_toArray, List.getElem?_cons_succ, List.getElem?_cons_zero]; exact rfl) (by kernel_rfl) (by kernel_rfl) (by kernel_rfl) (by exact fun _ _ _ h => h) (Or.inl ⟨by rfl, ?_⟩) (by assumption) ?_; rotate_left; (intro wz hSz; go_simp; try (with_reducible rfl)); simp only [Act.put, List.setIfInBounds_toArray, List.set_cons_zero, List.set_cons_succ])
              (refine wpAnyH_take (i := 15) (v := _) (by simp only [List.getElem?_toArray, List.getElem?_cons_succ, List.getElem?_cons_zero]; exact rfl) (by kernel_rfl) (by kernel_rfl) (by kernel_rfl) (by exact fun _ _ _ h => h) (yieldsIf_load_cells (by rfl) _ _ rfl _ rfl _ _ q15.out huV rfl hiB) (by assumption) ?_; simp only [Act.put, List.setIfInBounds_toArray, List.set_cons_zero, List.set_cons_succ])
              refine wpAnyH_ready (rs := [16]) (by kernel_rfl) (by simp) (AllReadyH.cons (o := _) (by simp only [List.getElem?_toArray, List.getElem?_cons_succ, List.getElem?_cons_zero]; exact rfl) (fun K' hK' => ?_) AllReadyH.nil); go_simp
              go_at_call 9
              (with_reducible refine (hcA.out _ hx5d).mono ?_)
              rintro r w6 ⟨rfl, hx6⟩
              have hx56 := hx5d.then hx6
              go_wp2_with fail
              refine hK'.out _ _ (hS.out _ hx56) (fun hHeld => ?_); clear hK' K'; try simp only [Act.put, List.setIfInBounds_toArray, List.set_cons_zero, List.set_cons_succ]
              (refine wpAnyH_take (i := 17) (v := ?_) (by simp only [List.getElem?_toArray, List.getElem?_cons_succ, List.getElem?_cons_zero]; exact rfl) (by kernel_rfl) (by kernel_rfl) (by kernel_rfl) (by exact fun _ _ _ h => h) (Or.inl ⟨by rfl, ?_⟩) (by assumption) ?_; rotate_left; (intro wz hSz; go_simp; try (with_reducible rfl)); simp only [Act.put, List.setIfInBounds_toArray, List.set_cons_zero, List.set_cons_succ])
              (refine wpAnyH_take (i := 18) (v := ?_) (by simp only [List.getElem?_toArray, List.getElem?_cons_succ, List.getElem?_cons_zero]; exact rfl) (by kernel_rfl) (by kernel_rfl) (by kernel_rfl) (by exact fun _ _ _ h => h) (Or.inl ⟨by rfl, ?_⟩) (by assumption) ?_; rotate_left; (intro wz hSz; go_simp; try (with_reducible rfl)); simp only [Act.put, List.setIfInBounds_toArray, List.set_cons_zero, List.set_cons_succ])
              (refine wpAnyH_take (i := 19) (v := ?_) (by simp only [List.getElem?_toArray, List.getElem?_cons_succ, List.getElem?_cons_zero]; exact rfl) (by kernel_rfl) (by kernel_rfl) (by kernel_rfl) (by exact fun _ _ _ h => h) (Or.inl ⟨by rfl, ?_⟩) (by assumption) ?_; rotate_left; (intro wz hSz; go_simp; try (with_reducible rfl)); simp only [Act.put, List.setIfInBounds_toArray, List.set_cons_zero, List.set_cons_succ])
              (refine wpAnyH_take (i := 20) (v := ?_) (by simp only [List.getElem?_toArray, List.getElem?_cons_succ, List.getElem?_cons_zero]; exact rfl) (by kernel_rfl) (by kernel_rfl) (by kernel_rfl) (by exact fun _ _ _ h => h) (Or.inl ⟨by rfl, ?_⟩) (by assumption) ?_; rotate_left; (intro wz hSz; go_simp; try (with_reducible rfl)); simp only [Act.put, List.setIfInBounds_toArray, List.set_cons_zero, List.set_cons_succ])
              (refine wpAnyH_take (i := 21) (v := ?_) (by simp only [List.getElem?_toArray, List.getElem?_cons_succ, List.getElem?_cons_zero]; exact rfl) (by kernel_rfl) (by kernel_rfl) (by kernel_rfl) (by exact fun _ _ _ h => h) (Or.inl ⟨by rfl, ?_⟩) (by assumption) ?_; rotate_left; (intro wz hSz; go_simp; try (with_reducible rfl)); simp only [Act.put, List.setIfInBounds_toArray, List.set_cons_zero, List.set_cons_succ])
              (refine wpAnyH_take (i := 22) (v := ?_) (by simp only [List.getElem?_toArray, List.getElem?_cons_succ, List.getElem?_cons_zero]; exact rfl) (by kernel_rfl) (by kernel_rfl) (by kernel_rfl) (by exact fun _ _ _ h => h) (Or.inl ⟨by rfl, ?_⟩) (by assumption) ?_; rotate_left; (intro wz hSz; go_simp; try (with_reducible rfl)); simp only [Act.put, List.setIfInBounds_toArray, List.set_cons_zero, List.set_cons_succ])
              (refine wpAnyH_take (i := 23) (v := ?_) (by simp only [List.getElem?_toArray, List.getElem?_cons_succ, List.getElem?_cons_zero]; exact rfl) (by kernel_rfl) (by kernel_rfl) (by kernel_rfl) (by exact fun _ _ _ h => h) (Or.inl ⟨by rfl, ?_⟩) (by assumption) ?_; rotate_left; (intro wz hSz; go_simp; try (with_reducible rfl)); simp only [Act.put, List.setIfInBounds_toArray, List.set_cons_zero, List.set_cons_succ])
              (refine wpAnyH_take (i := 24) (v := _) (by simp only [List.getElem?_toArray, List.getElem?_cons_succ, List.getElem?_cons_zero]; exact rfl) (by kernel_rfl) (by kernel_rfl) (by kernel_rfl) (by exact fun _ _ _ h => h) (yieldsIf_load_cells (by rfl) _ _ rfl _ rfl _ _ q24.out huV rfl hiC) (by assumption) ?_; simp only [Act.put, List.setIfInBounds_toArray, List.set_cons_zero, List.set_cons_succ])
              (refine wpAnyH_take (i := 25) (v := ?_) (by simp only [List.getElem?_toArray, List.getElem?_cons_succ, List.getElem?_cons_zero]; exact rfl) (by kernel_rfl) (by kernel_rfl) (by kernel_rfl) (by exact fun _ _ _ h => h) (Or.inl ⟨by rfl, ?_⟩) (by assumption) ?_; rotate_left; (intro wz hSz; go_simp; try (with_reducible rfl)); simp only [Act.put, List.setIfInBounds_toArray, List.set_cons_zero, List.set_cons_succ])
              (refine wpAnyH_take (i := 26) (v := _) (by simp only [List.getElem?_toArray, List.getElem?_cons_succ, List.getElem?_cons_zero]; exact rfl) (by kernel_rfl) (by kernel_rfl) (by kernel_rfl) (by exact fun _ _ _ h => h) (yieldsIf_load_cells (by rfl) _ _ rfl _ rfl _ _ q26.out huV rfl hiD) (by assumption) ?_; simp only [Act.put, List.setIfInBounds_toArray, List.set_cons_zero, List.set_cons_succ])
              refine wpAnyH_ready (rs := [27]) (by kernel_rfl) (by simp) (AllReadyH.cons (o := _) (by simp only [List.getElem?_toArray, List.getElem?_cons_succ, List.getElem?_cons_zero]; exact rfl) (fun K' hK' => ?_) AllReadyH.nil); go_simp
              go_at_call 9
              (with_reducible refine (hcB.out _ hx56).mono ?_)
              rintro r w7 ⟨rfl, hx7⟩
              have hx57 := hx56.then hx7
              go_wp2_with fail
              refine hK'.out _ _ (hS.out _ hx57) (fun hHeld => ?_); clear hK' K'; try simp only [Act.put, List.setIfInBounds_toArray, List.set_cons_zero, List.set_cons_succ]
              (refine wpAnyH_take (i := 28) (v := ?_) (by simp only [List.getElem?_toArray, List.getElem?_cons_succ, List.getElem?_cons_zero]; exact rfl) (by kernel_rfl) (by kernel_rfl) (by kernel_rfl) (by exact fun _ _ _ h => h) (Or.inl ⟨by rfl, ?_⟩) (by assumption) ?_; rotate_left; (intro wz hSz; go_simp; try (with_reducible rfl)); simp only [Act.put, List.setIfInBounds_toArray, List.set_cons_zero, List.set_cons_succ])
              (refine wpAnyH_take (i := 29) (v := ?_) (by simp only [List.getElem?_toArray, List.getElem?_cons_succ, List.getElem?_cons_zero]; exact rfl) (by kernel_rfl) (by kernel_rfl) (by kernel_rfl) (by exact fun _ _ _ h => h) (Or.inl ⟨by rfl, ?_⟩) (by assumption) ?_; rotate_left; (intro wz hSz; go_simp; try (with_reducible rfl)); simp only [Act.put, List.setIfInBounds_toArray, List.set_cons_zero, List.set_cons_succ])
              (refine wpAnyH_take (i := 30) (v := ?_) (by simp only [List.getElem?_toArray, List.getElem?_cons_succ, List.getElem?_cons_zero]; exact rfl) (by kernel_rfl) (by kernel_rfl) (by kernel_rfl) (by exact fun _ _ _ h => h) (Or.inl ⟨by rfl, ?_⟩) (by assumption) ?_; rotate_left; (intro wz hSz; go_simp; try (with_reducible rfl)); simp only [Act.put, List.setIfInBounds_toArray, List.set_cons_zero, List.set_cons_succ])
              (refine wpAnyH_take (i := 31) (v := ?_) (by simp only [List.getElem?_toArray, List.getElem?_cons_succ, List.getElem?_cons_zero]; exact rfl) (by kernel_rfl) (by kernel_rfl) (by kernel_rfl) (by exact fun _ _ _ h => h) (Or.inl ⟨by rfl, ?_⟩) (by assumption) ?_; rotate_left; (intro wz hSz; go_simp; try (with_reducible rfl)); simp only [Act.put, List.setIfInBounds_toArray, List.set_cons_zero, List.set_cons_succ])
              (refine wpAnyH_take (i := 32) (v := ?_) (by simp only [List.getElem?_toArray, List.getElem?_cons_succ, List.getElem?_cons_zero]; exact rfl) (by kernel_rfl) (by kernel_rfl) (by kernel_rfl) (by exact fun _ _ _ h => h) (Or.inl ⟨by rfl, ?_⟩) (by assumption) ?_; rotate_left; (intro wz hSz; go_simp; try (with_reducible rfl)); simp only [Act.put, List.setIfInBounds_toArray, List.set_cons_zero, List.set_cons_succ])
              (refine wpAnyH_take (i := 33) (v := ?_) (by simp only [List.getElem?_toArray, List.getElem?_cons_succ, List.getElem?_cons_zero]; exact rfl) (by kernel_rfl) (by kernel_rfl) (by kernel_rfl) (by exact fun _ _ _ h => h) (Or.inl ⟨by rfl, ?_⟩) (by assumption) ?_; rotate_left; (intro wz hSz; go_simp; try (with_reducible rfl)); simp only [Act.put, List.setIfInBounds_toArray, List.set_cons_zero, List.set_cons_succ])
              (refine wpAnyH_take (i := 34) (v := _) (by simp only [List.getElem?_toArray, List.getElem?_cons_succ, List.getElem?_cons_zero]; exact rfl) (by kernel_rfl) (by kernel_rfl) (by kernel_rfl) (by exact fun _ _ _ h => h) (yieldsIf_load_cells (by rfl) _ _ rfl _ rfl _ _ q34.out huH rfl hiK) (by assumption) ?_; simp only [Act.put, List.setIfInBounds_toArray, List.set_cons_zero, List.set_cons_succ])
              (refine wpAnyH_take (i := 35) (v := ?_) (by simp only [List.getElem?_toArray, List.getElem?_cons_succ, List.getElem?_cons_zero]; exact rfl) (by kernel_rfl) (by kernel_rfl) (by kernel_rfl) (by exact fun _ _ _ h => h) (Or.inl ⟨by rfl, ?_⟩) (by assumption) ?_; rotate_left; (intro wz hSz; go_simp; try (with_reducible rfl)); simp only [Act.put, List.setIfInBounds_toArray, List.set_cons_zero, List.set_cons_succ])
              (refine wpAnyH_take (i := 36) (v := _) (by simp only [List.getElem?_toArray, List.getElem?_cons_succ, List.getElem?_cons_zero]; exact rfl) (by kernel_rfl) (by kernel_rfl) (by kernel_rfl) (by exact fun _ _ _ h => h) (yieldsIf_load_cells (by rfl) _ _ rfl _ rfl _ _ q6.out huH rfl hiK) (by assumption) ?_; simp only [Act.put, List.setIfInBounds_toArray, List.set_cons_zero, List.set_cons_succ])
              (refine wpAnyH_take (i := 37) (v := ?_) (by simp only [List.getElem?_toArray, List.getElem?_cons_succ, List.getElem?_cons_zero]; exact rfl) (by kernel_rfl) (by kernel_rfl) (by kernel_rfl) (by exact fun _ _ _ h => h) (Or.inl ⟨by rfl, ?_⟩) (by assumption) ?_; rotate_left; (intro wz hSz; go_simp; try (with_reducible rfl)); simp only [Act.put, List.setIfInBounds_toArray, List.set_cons_zero, List.set_cons_succ])
              (refine wpAnyH_take (i := 38) (v := ?_) (by simp only [List.getElem?_toArray, List.getElem?_cons_succ, List.getElem?_cons_zero]; exact rfl) (by kernel_rfl) (by kernel_rfl) (by kernel_rfl) (by exact fun _ _ _ h => h) (Or.inl ⟨by rfl, ?_⟩) (by assumption) ?_; rotate_left; (intro wz hSz; go_simp; try (with_reducible rfl)); simp only [Act.put, List.setIfInBounds_toArray, List.set_cons_zero, List.set_cons_succ])
              refine wpAnyH_done (by kernel_rfl) ?_ _
              go_wp2_with fail
              exact ⟨⟨k + 1, by omega, by go_num, hx4.then (hx45.then hx57)⟩, by simp [intOf]; omega⟩
          · obtain rfl : k = m := by omega
            have hkm' : ¬ (k : Int) < k := by omega
            have hwx : Ext wr w4 := hx03.then hx4
            obtain ⟨i1, hi1, hz0, hz1, hz2⟩ := info_parts info_ev
            have hown4 := own_ext hx4 hown3.out
            have hal := own_all hown4
            have hlE := hown4.1
            have h63 : 0 + k ≤ maxLen := by unfold maxLen; omega
            have hby : (0 + k) * 256 ≤ 140737488355328 := by omega
            have h63b : k + k ≤ maxLen := by unfold maxLen; omega
            have hbyb : (k + k) * 256 ≤ 140737488355328 := by omega
            have hnil0 := hide (World.ownsRow_nil w4 w4.heap.size 42 168)
            replace hown4 := hide hown4
            have h1E := one_evsL es
            replace h1E := hide h1E
            replace hal := hide hal
            replace hlE := hide hlE
            go_wp2_with (first
              | (at_builtin; (refine wpList_appAny _ rfl _ _ 34 rfl w4.heap.size 42 i1 (.agg (evCells ⟨zeros 32, ⟨0, 0, zeros 32, 0, zeros 32, none, 0, 0⟩, ⟨0, 0, zeros 32, 0, zeros 32, none, 0, 0⟩⟩)) 168 256 Try.underlying34 hi1 hz0 hz1 hz2 (size_evCells _) (by decide) 0 (.slice none 0 0) [] rfl hnil0.out ag k cg (evsL es) rfl hlE.out hal.out.2 hal.out.1 h1E.out h63 hby (Nat.le_refl _) ?_); intro v5 w5 hown5 hgrow5; rw [Nat.zero_add, List.nil_append] at hown5; have hx5 : Ext w4 w5 := ext_grown (Below.refl _ _) hgrow5 (fun k hk => by cases hk); have hal5 := hide (own_all (own_ext hx5 hown4.out)); clear hgrow5; replace hown5 := hide hown5; replace hnil0 := hide True.intro)
              | (at_builtin; (refine wpList_appAny _ rfl _ _ 34 rfl w4.heap.size 42 i1 (.agg (evCells ⟨zeros 32, ⟨0, 0, zeros 32, 0, zeros 32, none, 0, 0⟩, ⟨0, 0, zeros 32, 0, zeros 32, none, 0, 0⟩⟩)) 168 256 Try.underlying34 hi1 hz0 hz1 hz2 (size_evCells _) (by decide) k v5 (evsL es) rfl hown5.out ag k cg (evsL es) rfl hlE.out hal5.out.2 hal5.out.1 h1E.out h63b hbyb hx5.size ?_); intro v6 w6 hown6 hgrow6; have hx6 : Ext w4 w6 := ext_grown hx5 hgrow6 (fun k hk => (hown5.out.lt k hk).1); clear hgrow6; replace hown6 := hide hown6)
              | (go_at_call 8; (with_reducible refine (hTw.out _ _ es _ _ hl.out hes.out hown6.out).mono ?_); rintro r w7 ⟨⟨at7, ct7, rfl⟩, hx7⟩)
              | (go_at_call 5; (with_reducible refine (known14 _).mono ?_); rintro r wk ⟨rfl, hxk⟩))
            go_ret
            exact ⟨rfl, hwx.then (hx6.then (hx7.then hxk))⟩
end Go.Proofs.Ytgeijcielakeeaa
