/- The walk of the law on roots and paths. -/
import Derived.Test.YtldcaoclimcahaaRpath
import Derived.Test.YtldcaoclimcahaaHalvL
namespace Go.Proofs.Ytldcaoclimcahaa
open Go.RowKit
set_option linter.unusedVariables false
set_option linter.unusedSimpArgs false

theorem own_slice {w : World} {base K : Nat} {v : Value} {l : List (Bs 32)} (h : w.ownsRow base 28 32 v K (rowB l)) (hl : l.length = K) : ∃ (a : Option Addr) (cap : Nat), v = .slice a K cap ∧ K ≤ cap ∧ cap ≤ maxLen ∧ HashesIn w a K (fun x => l.getD x (zeros 32)) := by
  have h0 := h
  rcases h.2 with ⟨rfl, h1⟩ | ⟨g, cap, cur, rfl, _, _, h3, h4, _⟩
  · subst h1
    exact ⟨none, 0, rfl, Nat.le_refl _, Nat.zero_le _, fun h => absurd h (by omega)⟩
  · exact ⟨_, cap, rfl, h3, h4, hashes_own h0 hl⟩
attribute [local go_sem ↓] exec_store_Hash exec_build_H build_f0
attribute [local go_sem ↓] loadCells_blk equal_hash
attribute [local go_sem] run_blkLoad rowAt_drew rowAt_drewN rowAt_old rowAt_new bc_whole bsEq_self size_bcells
set_option maxHeartbeats 8000000 in
set_option maxRecDepth 100000 in
theorem roots_out (a : Option Addr) (n cap : Nat) (H : Nat → Bs 32) (i : Int) (w : World) (hn : n ≤ cap) (hcap : cap ≤ maxLen) (hH : HashesIn w a n H) (hm : mayN n = true) (h1 : ¬ (300 : Int) < n) (hout : i < 0 ∨ (n : Int) ≤ i) :
    Calls Try.prog 11 #[.slice a n cap, .int .i64 i] w fun r w' => r = .returned (.bool true) ∧ Ext w w' := by
  have hmy := hide (refMay_any n)
  have hmz := hide (may_any n (by omega))
  rw [hm] at hmy hmz
  obtain ⟨K, hK8, hnK⟩ := may_p2 n hm
  have hpp := p2_pos K
  have hd1 : decide (i < 0) = true ∨ (decide (i < 0) = false ∧ decide ((n : Int) ≤ i) = true) := by
    by_cases h : i < 0
    · exact .inl (by simpa using h)
    · exact .inr ⟨by simpa using h, by simp; omega⟩
  have hro := hide (rootS_any K a cap H w hK8 n hnK hm hn hcap hH)
  have hpa := hide (fun w' => path_no a n cap i w' hn hcap (.inr hout))
  have hrw := hide (fun (w' : World) (h : Ext w w') => rows_any K hK8 a n cap hnK H w' hn hcap (hH.ext h))
  have hrr := root_row K H
  have hee := bsEq_self (rootT K H)
  have hstH : ∀ (w : World) (o : Bs 32), storeStep Try.prog 28 (.pointer (some ⟨w.heap.size, 0, none⟩)) (.agg (bcells o)) (w.alloc (.cells (bcells (zeros 32)) 28)) = .ok .skip (w.alloc (.cells (bcells o) 28)) := fun w o => store_new_H o w _ rfl _ (size_bcells _)
  rw [bcells_zeros] at hstH
  generalize hX : rootT K H = X at *
  replace hX := hide hX
  replace hrr := hide hrr
  replace hm := hide hm
  replace hnK := hide hnK
  go_enter Try.func11, Try.ntmps11
  go_wp2_with (first
    | (go_at_call 37; (with_reducible refine (hmz.out _).mono ?_); rintro r wm ⟨rfl, rfl⟩)
    | (go_at_call 32; (with_reducible refine (hmy.out _).mono ?_); rintro r wm ⟨rfl, rfl⟩)
    | (go_at_call 33; (with_reducible refine hro.out.mono ?_); rintro r w1 ⟨rfl, hx1⟩; have hx1a := hx1.then (ext_alloc w1 (.cells (bcells X) 28)); have r1 := rowAt_whole (heap_alloc_new w1 (.cells (bcells X) 28)) (size_bcells _))
    | (go_at_call 34; (with_reducible refine (hpa.out _).mono ?_); rintro r w2 ⟨rfl, hx2⟩; have r2 := rowAt_ext hx2 r1; have hx2 := hx1a.then hx2)
    | (go_at_call 38; (with_reducible refine (hrw.out _ hx2).mono ?_); rintro r w3 ⟨⟨v, L, rfl, hown, hL, hr⟩, hx3⟩; have r3 := rowAt_ext hx3 r2; have hx3 := hx2.then hx3; obtain ⟨g3, cp3, rfl, _, _⟩ := hown.form (by omega)))
  have hcap3 := own_caps hown
  obtain ⟨ad, cc, e1, e2, e3, e4, e5⟩ := hr K (by omega)
  have c1 := hown.cellAt K (by omega)
  rw [e1] at c1
  have hp0 : p2 (K - K) = 1 := by rw [Nat.sub_self]; rfl
  rw [hp0] at c1 e2 e4
  obtain ⟨ad', ea, eb⟩ := e4 (by omega)
  obtain rfl := Option.some.inj ea
  have hbl := fun mm => load_bytes ((eb 0 (by omega)).ext (ext_drewN w3 mm))
  have hbl0 := load_bytes (eb 0 (by omega))
  rw [← hrr.out] at hbl hbl0
  rw [show ad.add (0 * 32) = ad by unfold Addr.add; split <;> simp_all] at hbl hbl0
  obtain ⟨K1, hK1⟩ : ∃ K1, K1 = K + 1 := ⟨_, rfl⟩
  rw [← hK1] at hcap3 ⊢
  have k0 : (K1 : Int) - 1 = (K : Int) := by omega
  have k1 : IntKind.i64.wrap ((K1 : Int) - 1) = (K : Int) := by rw [IntKind.wrap_i64]; omega
  have k2 : IntKind.i64.wrap (K : Int) = (K : Int) := by rw [IntKind.wrap_i64]; omega
  have k3 : (0 : Int) ≤ K := by omega
  have k4 : (K : Int) < K1 := by omega
  have g3r := lt_of_row r3
  have hz3 := hx1.size
  clear hown hr e1 e4 ea eb hp0 r1 r2
  replace hK1 := hide hK1
  go_wp2_with fail
  go_quiet (fail)
  have hx4 := hx3.then (ext_drewN w3 nq)
  rcases hd1 with hd1 | ⟨hd1, hd2⟩
  · go_wp2_with (first | (go_at_call 25; (with_reducible refine (known07_any _).mono ?_); rintro r w7 ⟨rfl, hx7⟩))
    go_ret
    exact ⟨rfl, hx4.then hx7⟩
  · go_wp2_with (first | (go_at_call 25; (with_reducible refine (known07_any _).mono ?_); rintro r w7 ⟨rfl, hx7⟩))
    go_ret
    exact ⟨rfl, hx4.then hx7⟩
theorem climb_congr (l : Bs 32) (i : Nat) : ∀ (k : Nat) (F F' : Nat → Bs 32), (∀ x, x < k → F x = F' x) → climbB F l i k = climbB F' l i k
  | 0, _, _, _ => rfl
  | k + 1, F, F', h => by rw [climbB, climbB, climb_congr l i k F F' (fun x hx => h x (by omega)), h k (by omega)]
theorem length_pathR (K : Nat) (H : Nat → Bs 32) (i : Nat) : (pathR K H i).length = K := by simp [pathR]
theorem climb_path (K : Nat) (H : Nat → Bs 32) (i : Nat) (hi : i < p2 K) : climbB (fun x => (pathR K H i).getD x (zeros 32)) (H i) i K = rootT K H := by
  rw [climb_congr (H i) i K _ (fun k => rowT k H (beside (i / p2 k))) (fun x hx => by simp [pathR, List.getD, hx]), climb_rows, Nat.div_eq_of_lt hi, ← root_row]
set_option maxHeartbeats 8000000 in
set_option maxRecDepth 100000 in
theorem roots_in (a : Option Addr) (n cap : Nat) (H : Nat → Bs 32) (i : Nat) (w : World) (hn : n ≤ cap) (hcap : cap ≤ maxLen) (hH : HashesIn w a n H) (hm : mayN n = true) (h1 : ¬ (300 : Int) < n) (hin : i < n) :
    Calls Try.prog 11 #[.slice a n cap, .int .i64 (i : Int)] w fun r w' => r = .returned (.bool true) ∧ Ext w w' := by
  have hmy := hide (refMay_any n)
  have hmz := hide (may_any n (by omega))
  rw [hm] at hmy hmz
  obtain ⟨K, hK8, hnK⟩ := may_p2 n hm
  have hpp := p2_pos K
  have hd1 : decide ((i : Int) < 0) = false := by simp
  have hin' : ¬ (n : Int) ≤ i := by omega
  have hd2 : decide ((n : Int) ≤ i) = false := by simpa using hin'
  have hd3 : decide (n ≤ i) = false := by simp; omega
  have hi0 : (0 : Int) ≤ i := by omega
  have hiln : (i : Int) < n := by omega
  have hn0 : 0 < n := by omega
  have hro := hide (rootS_any K a cap H w hK8 n hnK hm hn hcap hH)
  have hpa := fun (w' : World) (h : Ext w w') => path_any K hK8 a n cap hnK hm H i hin w' hn hcap (hH.ext h)
  rw [path_rows K H i (by omega)] at hpa
  have hrp := hide (fun (w' : World) (h : Ext w w') => refPath_any K hK8 a n cap hnK H i hin w' hn hcap (hH.ext h))
  have hcp := climb_path K H i (by omega)
  have hpl := length_pathR K H i
  have hp2i : i < p2 K := by omega
  have hrw := hide (fun (w' : World) (h : Ext w w') => rows_any K hK8 a n cap hnK H w' hn hcap (hH.ext h))
  have hrr := root_row K H
  have hee := bsEq_self (rootT K H)
  have hstH : ∀ (w : World) (o : Bs 32), storeStep Try.prog 28 (.pointer (some ⟨w.heap.size, 0, none⟩)) (.agg (bcells o)) (w.alloc (.cells (bcells (zeros 32)) 28)) = .ok .skip (w.alloc (.cells (bcells o) 28)) := fun w o => store_new_H o w _ rfl _ (size_bcells _)
  rw [bcells_zeros] at hstH
  generalize hPL : pathR K H i = PL at *
  generalize hX : rootT K H = X at *
  replace hpa := hide hpa
  replace hcp := hide hcp
  replace hpl := hide hpl
  replace hPL := hide hPL
  replace hX := hide hX
  replace hrr := hide hrr
  replace hm := hide hm
  replace hnK := hide hnK
  go_enter Try.func11, Try.ntmps11
  go_wp2_with (first
    | (go_at_call 37; (with_reducible refine (hmz.out _).mono ?_); rintro r wm ⟨rfl, rfl⟩)
    | (go_at_call 32; (with_reducible refine (hmy.out _).mono ?_); rintro r wm ⟨rfl, rfl⟩)
    | (go_at_call 33; (with_reducible refine hro.out.mono ?_); rintro r w1 ⟨rfl, hx1⟩; have hx1a := hx1.then (ext_alloc w1 (.cells (bcells X) 28)); have r1 := rowAt_whole (heap_alloc_new w1 (.cells (bcells X) 28)) (size_bcells _))
    | (go_at_call 34; (with_reducible refine (hpa.out _ hx1a).mono ?_); rintro r w2 ⟨⟨v, rfl, hownp⟩, hx2⟩; have r2 := rowAt_ext hx2 r1; have hx2 := hx1a.then hx2; obtain ⟨ap, cpp, rfl, hcpp1, hcpp2, hhp⟩ := own_slice hownp hpl.out)
    | (go_at_call 38; (with_reducible refine (hrw.out _ hx2).mono ?_); rintro r w3 ⟨⟨v3, L, rfl, hown, hL, hr⟩, hx3⟩; have r3 := rowAt_ext hx3 r2; have hhp3 := hide (hhp.ext hx3); have hx3 := hx2.then hx3; obtain ⟨g3, cp3, rfl, _, _⟩ := hown.form (by omega)))
  have hcap3 := own_caps hown
  obtain ⟨ad, cc, e1, e2, e3, e4, e5⟩ := hr K (by omega)
  have c1 := hown.cellAt K (by omega)
  rw [e1] at c1
  have hp0 : p2 (K - K) = 1 := by rw [Nat.sub_self]; rfl
  rw [hp0] at c1 e2 e4
  obtain ⟨ad', ea, eb⟩ := e4 (by omega)
  obtain rfl := Option.some.inj ea
  have hbl := fun mm => load_bytes ((eb 0 (by omega)).ext (ext_drewN w3 mm))
  have hbl0 := load_bytes (eb 0 (by omega))
  rw [← hrr.out] at hbl hbl0
  rw [show ad.add (0 * 32) = ad by unfold Addr.add; split <;> simp_all] at hbl hbl0
  obtain ⟨K1, hK1⟩ : ∃ K1, K1 = K + 1 := ⟨_, rfl⟩
  rw [← hK1] at hcap3 ⊢
  have k0 : (K1 : Int) - 1 = (K : Int) := by omega
  have k1 : IntKind.i64.wrap ((K1 : Int) - 1) = (K : Int) := by rw [IntKind.wrap_i64]; omega
  have k2 : IntKind.i64.wrap (K : Int) = (K : Int) := by rw [IntKind.wrap_i64]; omega
  have k3 : (0 : Int) ≤ K := by omega
  have k4 : (K : Int) < K1 := by omega
  have g3r := lt_of_row r3
  have hz3 := hx1.size
  clear hown hr e1 e4 ea eb hp0 r1 r2
  replace hK1 := hide hK1
  go_wp2_with fail
  go_quiet (fail)
  have hx4 := hx3.then (ext_drewN w3 nq)
  clear hbl
  have hhp4 := hide (hhp3.out.ext (ext_drewN w3 nq))
  have r4 := rowAt_ext (ext_drewN w3 nq) r3
  obtain ⟨w4, hw4⟩ : ∃ w4, w4 = w3.drewN nq := ⟨_, rfl⟩
  rw [← hw4] at hx4 hhp4 r4 ⊢
  have g4r := lt_of_row r4
  replace hw4 := hide hw4
  obtain ⟨ada, rfl, ha⟩ := hH hn0
  have hbi := load_bytes ((ha i hin).ext hx4)
  have hbiD := fun mm => load_bytes ((ha i hin).ext (hx4.then (ext_drewN w4 mm)))
  have hcl := climb_any (H i) i ap K cpp _ w4 hcpp1 hcpp2 hhp4.out ⟨hK8, hi0, by exact_mod_cast hp2i⟩
  rw [Int.toNat_natCast, hcp.out] at hcl
  replace hcl := hide hcl
  have hh1000 : K ≤ 1000 := by omega
  go_wp2_with (first
    | (go_at_call 26; (with_reducible refine hcl.out.mono ?_); rintro r w5 ⟨rfl, hx5⟩; have hx5 := hx5.then (ext_alloc w5 (.cells (bcells X) 28)); have r5 := rowAt_ext hx5 r4; have rc5 := rowAt_whole (heap_alloc_new w5 (.cells (bcells X) 28)) (size_bcells _); have hhp5 := hide (hhp4.out.ext hx5); have hx5 := hx4.then hx5)
    | (go_at_call 39; (with_reducible refine (hrp.out _ hx5).mono ?_); rintro r w6 ⟨⟨v6, rfl, hown6⟩, hx6⟩; have r6 := rowAt_ext hx6 r5; have rc6 := rowAt_ext hx6 rc5; have hhp6 := hide (hhp5.out.ext hx6); have hx6 := hx5.then hx6; obtain ⟨a6, cp6, rfl, hcp61, hcp62, hhq6⟩ := own_slice hown6 hpl.out)
    | (go_at_call 36; (with_reducible refine (same_any ap a6 K cpp cp6 (fun x => PL.getD x (zeros 32)) w6 hcpp1 hcp61 hcpp2 hcp62 hh1000 hhp6.out hhq6).mono ?_); rintro r w7 ⟨rfl, hx7⟩; have r7 := rowAt_ext hx7 r6; have rc7 := rowAt_ext hx7 rc6; have gc7 := lt_of_row rc7; have g7 := lt_of_row r7; have hx7 := hx6.then hx7)
    | (go_at_call 25; (with_reducible refine (known07_any _).mono ?_); rintro r w8 ⟨rfl, hx8⟩))
  go_ret
  exact ⟨rfl, hx7.then hx8⟩
set_option maxHeartbeats 8000000 in
set_option maxRecDepth 100000 in
theorem treeRoots_walk (a : Option Addr) (n cap : Nat) (H : Nat → Bs 32) (i : Int) (w : World) (hn : n ≤ cap) (hcap : cap ≤ maxLen) (hH : HashesIn w a n H) :
    Calls Try.prog 11 #[.slice a n cap, .int .i64 i] w fun r w' => r = .returned (.bool true) ∧ Ext w w' := by
  have hmy := hide (refMay_any n)
  have hmz := hide (may_any n (by omega))
  have hez := bsEq_self (zeros 32)
  have hstH : ∀ (w : World) (o : Bs 32), storeStep Try.prog 28 (.pointer (some ⟨w.heap.size, 0, none⟩)) (.agg (bcells o)) (w.alloc (.cells (bcells (zeros 32)) 28)) = .ok .skip (w.alloc (.cells (bcells o) 28)) := fun w o => store_new_H o w _ rfl _ (size_bcells _)
  rw [bcells_zeros] at hstH
  by_cases h300 : 300 < n
  · have h1 : (300 : Int) < n := by omega
    go_enter Try.func11, Try.ntmps11
    go_wp2_with (first | (go_at_call 37; (with_reducible refine (hmz.out _).mono ?_); rintro r wm ⟨rfl, rfl⟩) | (go_at_call 32; (with_reducible refine (hmy.out _).mono ?_); rintro r wm ⟨rfl, rfl⟩) | (go_at_call 25; (with_reducible refine (known07_any _).mono ?_); rintro r w7 ⟨rfl, hx7⟩))
    go_ret
    exact ⟨rfl, hx7⟩
  · have h1 : ¬ (300 : Int) < n := by omega
    cases hm : mayN n
    · have hro := hide (rootS_no a n cap w hm hn hcap)
      have hpa := hide (fun w' => path_no a n cap i w' hn hcap (.inl hm))
      rw [hm] at hmy hmz
      go_enter Try.func11, Try.ntmps11
      go_wp2_with (first | (go_at_call 37; (with_reducible refine (hmz.out _).mono ?_); rintro r wm ⟨rfl, rfl⟩) | (go_at_call 32; (with_reducible refine (hmy.out _).mono ?_); rintro r wm ⟨rfl, rfl⟩) | (go_at_call 25; (with_reducible refine (known07_any _).mono ?_); rintro r w7 ⟨rfl, hx7⟩) | (go_at_call 33; (with_reducible refine hro.out.mono ?_); rintro r w1 ⟨rfl, hx1⟩) | (go_at_call 34; (with_reducible refine (hpa.out _).mono ?_); rintro r w2 ⟨rfl, hx2⟩; have hg2 := lt_of_row (rowAt_ext hx2 (rowAt_whole (heap_alloc_new w1 (.cells (bcells (zeros 32)) 28)) (size_bcells _))); have r2 := rowAt_ext hx2 (rowAt_whole (heap_alloc_new w1 (.cells (bcells (zeros 32)) 28)) (size_bcells _))))
      go_ret
      exact ⟨rfl, hx1.then ((ext_alloc w1 _).then (hx2.then hx7))⟩
    · by_cases hout : i < 0 ∨ (n : Int) ≤ i
      · exact roots_out a n cap H i w hn hcap hH hm h1 hout
      · obtain ⟨i, rfl⟩ := Int.eq_ofNat_of_zero_le (show 0 ≤ i by omega)
        exact roots_in a n cap H i w hn hcap hH hm h1 (by omega)
end Go.Proofs.Ytldcaoclimcahaa
