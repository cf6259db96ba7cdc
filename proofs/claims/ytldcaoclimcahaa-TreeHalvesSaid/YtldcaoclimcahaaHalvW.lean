/- The walk of the law on halves. -/
import Derived.Test.YtldcaoclimcahaaHalvL
import Derived.Deep.AppendLies
import Derived.Deep.RegionHeld3
namespace Go.Proofs.Ytldcaoclimcahaa
open Go.RowKit
set_option linter.unusedVariables false
set_option linter.unusedSimpArgs false

attribute [local go_sem ↓] exec_store_Hash exec_slice_H1 slice_H1
attribute [local go_sem ↓] loadCells_blk equal_hash
attribute [local go_sem] run_blkLoad rowAt_drew rowAt_old rowAt_new bc_whole bsEq_self size_bcells
theorem rowB_append (l m : List (Bs 32)) : rowB (l ++ m) = rowB l ++ rowB m := by simp [rowB]
set_option maxHeartbeats 16000000 in
set_option maxRecDepth 100000 in
theorem halves_main (a b : Option Addr) (n ca cb' : Nat) (Ha Hb : Nat → Bs 32) (i : Nat) (w : World) (hna : n ≤ ca) (hca : ca ≤ maxLen) (hnb : n ≤ cb') (hcb : cb' ≤ maxLen) (hHa : HashesIn w a n Ha) (hHb : HashesIn w b n Hb) (hm : mayN n = true) (h128 : n ≤ 128) (hin : i < n) :
    Calls Try.prog 10 #[.slice a n ca, .slice b n cb', .int .i64 (i : Int)] w fun r w' => r = .returned (.bool true) ∧ Ext w w' := by
  have hmy := hide (refMay_any n)
  rw [hm] at hmy
  obtain ⟨K, hK8, hnK⟩ := may_p2 n hm
  have hK7 : K ≤ 7 := by
    rcases Nat.lt_or_ge K 8 with h | h
    · omega
    · obtain rfl : K = 8 := by omega
      have : p2 8 = 256 := rfl
      omega
  have hpp := p2_pos K
  have hnn : n + n = p2 (K + 1) := by rw [p2_succ]; omega
  have hm2 : mayN (n + n) = true := by rw [hnn]; exact may_of ⟨K + 1, by omega⟩
  have hn0 : 0 < n := by omega
  obtain ⟨i0, hi0, hz0, hz1, hz2⟩ := info_parts info_hashes
  obtain ⟨ada, rfl, _⟩ := hHa hn0
  obtain ⟨adb, rfl, _⟩ := hHb hn0
  have hra := fun (w' : World) (h : Ext w w') => rootS_any K (some ada) ca Ha w' (by omega) n hnK hm hna hca (hHa.ext h)
  have hrb := fun (w' : World) (h : Ext w w') => rootS_any K (some adb) cb' Hb w' (by omega) n hnK hm hnb hcb (hHb.ext h)
  have hrall := fun (w' : World) (g cp : Nat) (h1 : n + n ≤ cp) (h2 : cp ≤ maxLen) (h : HashesIn w' (some ⟨g, 0, none⟩) (n + n) (bothF n Ha Hb)) => rootS_any (K + 1) (some ⟨g, 0, none⟩) cp (bothF n Ha Hb) w' (by omega) (n + n) hnn hm2 h1 h2 h
  have hpa := fun (w' : World) (h : Ext w w') => path_any K (by omega) (some ada) n ca hnK hm Ha i hin w' hna hca (hHa.ext h)
  have hpb := fun (w' : World) (h : Ext w w') => path_any K (by omega) (some adb) n cb' hnK hm Hb i hin w' hnb hcb (hHb.ext h)
  have hp1 := fun (w' : World) (g cp : Nat) (h1 : n + n ≤ cp) (h2 : cp ≤ maxLen) (h : HashesIn w' (some ⟨g, 0, none⟩) (n + n) (bothF n Ha Hb)) => path_any (K + 1) (by omega) (some ⟨g, 0, none⟩) (n + n) cp hnn hm2 (bothF n Ha Hb) i (by omega) w' h1 h2 h
  have hp2 := fun (w' : World) (g cp : Nat) (h1 : n + n ≤ cp) (h2 : cp ≤ maxLen) (h : HashesIn w' (some ⟨g, 0, none⟩) (n + n) (bothF n Ha Hb)) => path_any (K + 1) (by omega) (some ⟨g, 0, none⟩) (n + n) cp hnn hm2 (bothF n Ha Hb) (n + i) (by omega) w' h1 h2 h
  have hroot : rootT (K + 1) (bothF n Ha Hb) = nodeB (rootT K Ha) (rootT K Hb) := by rw [hnK]; exact both_root K Ha Hb
  have hpl : (pathT (K + 1) (bothF n Ha Hb) i).reverse = (pathT K Ha i).reverse ++ [rootT K Hb] := by rw [hnK]; exact both_path_left K Ha Hb i (by omega)
  have hpr : (pathT (K + 1) (bothF n Ha Hb) (n + i)).reverse = (pathT K Hb i).reverse ++ [rootT K Ha] := by rw [hnK]; exact both_path_right K Ha Hb i (by omega)
  rw [hroot] at hrall
  rw [hpl] at hp1
  rw [hpr, Int.natCast_add] at hp2
  have hlA : (pathT K Ha i).reverse.length = K := by rw [List.length_reverse, length_pathT]
  have hlB : (pathT K Hb i).reverse.length = K := by rw [List.length_reverse, length_pathT]
  generalize (pathT K Ha i).reverse = PA at *
  generalize (pathT K Hb i).reverse = PB at *
  generalize rootT K Ha = X at *
  generalize rootT K Hb = Y at *
  have hcA := fun (w' : World) (h : Ext w w') => hashes_cells (hHa.ext h)
  have hcB := fun (w' : World) (h : Ext w w') => hashes_cells (hHb.ext h)
  have hoA := one_rowB ((List.range n).map Ha)
  have hoB := one_rowB ((List.range n).map Hb)
  have hnlA : (rowB ((List.range n).map Ha)).length = n * 32 := by rw [length_rowB]; simp
  have hnlB : (rowB ((List.range n).map Hb)).length = n * 32 := by rw [length_rowB]; simp
  have hboth : rowB ((List.range n).map Ha) ++ rowB ((List.range n).map Hb) = rowB (bothL n Ha Hb) := by rw [bothL, rowB_append]
  have hbl : (bothL n Ha Hb).length = n + n := by simp [bothL]
  have hall := fun (w' : World) (B g cp : Nat) (h : w'.ownsRow B 28 32 (.slice (some ⟨g, 0, none⟩) (n + n) cp) (n + n) (rowB (bothL n Ha Hb))) => (hashes_own h hbl : HashesIn w' (some ⟨g, 0, none⟩) (n + n) (bothF n Ha Hb))
  generalize rowB ((List.range n).map Ha) = cA at *
  generalize rowB ((List.range n).map Hb) = cB at *
  have h63 : n + n ≤ maxLen := by unfold maxLen; omega
  have h63a : 0 + n ≤ maxLen := by unfold maxLen; omega
  have hby : (n + n) * 32 ≤ 140737488355328 := by omega
  have hbya : (0 + n) * 32 ≤ 140737488355328 := by omega
  have hxr : Ext w w := Below.refl _ _
  have h1 : ¬ (128 : Int) < n := by omega
  have hd1 : decide ((128 : Int) < n) = false := by simpa using h1
  have hd2 : decide ((i : Int) < 0) = false := by simp
  have hin' : ¬ (n : Int) ≤ i := by omega
  have hd3 : decide ((n : Int) ≤ i) = false := by simpa using hin'
  have hd4 : decide (n ≤ i) = false := by simp; omega
  have hstH : ∀ (w : World) (o : Bs 32), storeStep Try.prog 28 (.pointer (some ⟨w.heap.size, 0, none⟩)) (.agg (bcells o)) (w.alloc (.cells (bcells (zeros 32)) 28)) = .ok .skip (w.alloc (.cells (bcells o) 28)) := fun w o => store_new_H o w _ rfl _ (size_bcells _)
  rw [bcells_zeros] at hstH
  have hni : IntKind.i64.wrap ((n : Int) + i) = (n : Int) + i := by rw [IntKind.wrap_i64]; omega
  clear hHa hHb hroot hpl hpr hpp
  replace hra := hide hra
  replace hrb := hide hrb
  replace hrall := hide hrall
  replace hpa := hide hpa
  replace hpb := hide hpb
  replace hp1 := hide hp1
  replace hp2 := hide hp2
  replace hm := hide hm
  replace hm2 := hide hm2
  replace hnK := hide hnK
  replace hnn := hide hnn
  replace hcA := hide hcA
  replace hcB := hide hcB
  replace hoA := hide hoA
  replace hoB := hide hoB
  replace hnlA := hide hnlA
  replace hnlB := hide hnlB
  replace hboth := hide hboth
  replace hbl := hide hbl
  replace hall := hide hall
  replace hlA := hide hlA
  replace hlB := hide hlB
  go_enter Try.func10, Try.ntmps10
  go_wp2_with (first
    | (go_at_call 32; (with_reducible refine (hmy.out _).mono ?_); rintro r w1 ⟨rfl, rfl⟩)
    | (go_at_call 33; (with_reducible refine (hra.out _ hxr).mono ?_); rintro r w1 ⟨rfl, hx1⟩; have rX := rowAt_whole (heap_alloc_new w1 (.cells (bcells X) 28)) (size_bcells X); have hx1 := hx1.then (ext_alloc w1 (.cells (bcells X) 28)))
    | (go_at_call 33; (with_reducible refine (hrb.out _ hx1).mono ?_); rintro r w2 ⟨rfl, hx2⟩; have hx2 := hx2.then (ext_alloc w2 (.cells (bcells Y) 28)); have rX2 := rowAt_ext hx2 rX; have rY2 := rowAt_whole (heap_alloc_new w2 (.cells (bcells Y) 28)) (size_bcells Y); have hx2 := hx1.then hx2)
    | (at_builtin; (refine wpList_append_own _ rfl _ _ 40 rfl (w2.alloc (.cells (bcells Y) 28)).heap.size 28 i0 (.agg (bcells (zeros 32))) 32 32 Try.underlying40 hi0 hz0 hz1 hz2 rfl (by decide) (.slice none 0 0) 0 [] rfl (World.ownsRow_nil _ _ _ _) ada n ca cA rfl hnlA.out (hcA.out _ hx2) hoA.out h63a hbya (Nat.le_refl _) ?_); intro v1 w3 hown3 hgrow3 hnil3; rw [Nat.zero_add, List.nil_append] at hown3; obtain ⟨g1, cp1, rfl, _, _⟩ := hown3.form hn0; have hE3 : Ext (w2.alloc (.cells (bcells Y) 28)) w3 := ext_grown (Below.refl _ _) hgrow3 (fun k hk => by cases hk); have hx3 := hx2.then hE3)
    | (at_builtin; (refine wpList_append_lies _ rfl _ _ 40 rfl (w2.alloc (.cells (bcells Y) 28)).heap.size 28 i0 (.agg (bcells (zeros 32))) 32 32 Try.underlying40 hi0 hz0 hz1 hz2 rfl (by decide) (.slice (some ⟨g1, 0, none⟩) n cp1) n cA rfl hown3 adb n cb' cB rfl hnlB.out (hcB.out _ hx3) hoB.out hn0 h63 hby hE3.size _ rfl ?_); intro g4 cp4 w4 hown4 hgrow4 hat4 hlt4; rw [hboth.out] at hown4; have hE4 : Ext (w2.alloc (.cells (bcells Y) 28)) w4 := ext_grown hE3 hgrow4 (fun k hk => (hown3.lt k hk).1); have hx4 := hx2.then hE4; have rX4 := rowAt_ext hE4 rX2; have rY4 := rowAt_ext hE4 rY2; have hall4 := hide (hall.out _ _ _ _ hown4); have hcp4 := own_caps hown4)
    | (go_at_call 33; (with_reducible refine (hrall.out _ g4 cp4 hcp4.1 hcp4.2 hall4.out).mono ?_); rintro r w5 ⟨rfl, hx5⟩; have hx5 := hx5.then (ext_alloc w5 (.cells (bcells (nodeB X Y)) 28)); have rR5 := rowAt_whole (heap_alloc_new w5 (.cells (bcells (nodeB X Y)) 28)) (size_bcells _); have rX5 := rowAt_ext hx5 rX4; have rY5 := rowAt_ext hx5 rY4; have hall5 := hide (hall4.out.ext hx5); have hx5 := hx4.then hx5)
    | (go_at_call 34; (with_reducible refine (hpa.out _ hx5).mono ?_); rintro r w6 ⟨⟨vp, rfl, hownp⟩, hx6⟩; have rR6 := rowAt_ext hx6 rR5; have rX6 := rowAt_ext hx6 rX5; have rY6 := rowAt_ext hx6 rY5; have hall6 := hide (hall5.out.ext hx6); have hE6 := hx6; have hx6 := hx5.then hx6)
    | (go_at_call 34; (with_reducible refine (hp1.out _ g4 cp4 hcp4.1 hcp4.2 hall6.out).mono ?_); rintro r w7 ⟨⟨vq, rfl, hownq⟩, hx7⟩; have hE7 := hx7; have hx7 := hx6.then hx7)
    | (go_at_call 34; (with_reducible refine (hpb.out _ hx7).mono ?_); rintro r w8 ⟨⟨vs, rfl, howns⟩, hx8⟩; have hE8 := hx8; have hall8 := hide (hall6.out.ext (hE7.then hx8)); have hx8 := hx7.then hx8)
    | (go_at_call 34; (with_reducible refine (hp2.out _ g4 cp4 hcp4.1 hcp4.2 hall8.out).mono ?_); rintro r w9 ⟨⟨vu, rfl, hownu⟩, hx9⟩; have hE9 := hx9; have hx9 := hx8.then hx9))
  have hE79 := hE7.then (hE8.then hE9)
  have hownu9 := hide hownu
  have rX9 := rowAt_ext hE79 rX6
  have rY9 := rowAt_ext hE79 rY6
  have rR9 := rowAt_ext hE79 rR6
  have gX := lt_of_row rX5
  have gY := lt_of_row rY5
  have gR := lt_of_row rR5
  have hp9 := own_ext hE79 hownp
  have hq9 := own_ext (hE8.then hE9) hownq
  have hs9 := own_ext hE9 howns
  obtain ⟨gq, cq, rfl, _, _⟩ := hownq.form (by omega)
  obtain ⟨gu, cu, rfl, _, _⟩ := hownu.form (by omega)
  have hcq := own_caps hownq
  have hcu := own_caps hownu
  have hqn : ∀ k, vp.ownBlock = some k → k < gq := fun k hk => Nat.lt_of_lt_of_le (hownp.lt k hk).2 (hownq.lt gq rfl).1
  have hq7 := (hownq.lt gq rfl).2
  have hu8 := (hownu.lt gu rfl).1
  have hsn : ∀ k, vs.ownBlock = some k → w7.heap.size ≤ k ∧ k < gu := fun k hk => ⟨(howns.lt k hk).1, Nat.lt_of_lt_of_le (howns.lt k hk).2 hu8⟩
  have hpn : ∀ k, vp.ownBlock = some k → k < w7.heap.size ∧ k < gu := fun k hk => by
    have h1 := hqn k hk
    have h2 := hE8.size
    exact ⟨by omega, by omega⟩
  have hB0 := (hx5.size : _ ≤ _)
  have hE69 := hE6.size
  have hz7 := hE7.size
  have hz8 := hE8.size
  have hz9 := hE9.size
  obtain ⟨Bp, hBp⟩ : ∃ B, B = (w5.alloc (.cells (bcells (nodeB X Y)) 28)).heap.size := ⟨_, rfl⟩
  rw [← hBp] at gX gY gR hp9 hB0 hE69 hownp
  obtain ⟨Bs, hBs⟩ : ∃ B, B = w7.heap.size := ⟨_, rfl⟩
  rw [← hBs] at hs9 hsn hpn hq7 howns hz7 hz8
  obtain ⟨kX, hkX⟩ : ∃ g, g = w1.heap.size := ⟨_, rfl⟩
  obtain ⟨kY, hkY⟩ : ∃ g, g = w2.heap.size := ⟨_, rfl⟩
  obtain ⟨kR, hkR⟩ : ∃ g, g = w5.heap.size := ⟨_, rfl⟩
  rw [← hkX] at gX rX9
  rw [← hkY] at gY rY9
  rw [← hkR] at gR rR9
  rw [← hkX, ← hkY, ← hkR]
  have gXs : kX < Bs := by omega
  have gYs : kY < Bs := by omega
  have gRs : kR < Bs := by omega
  have hBpw := hx5.size
  rw [← hBp] at hBpw
  have hBsw := hx7.size
  rw [← hBs] at hBsw
  have hYl : (bcells Y).toList.length = 1 * 32 := by rw [Array.length_toList, size_bcells]
  have hXl : (bcells X).toList.length = 1 * 32 := by rw [Array.length_toList, size_bcells]
  have hY1 : ∀ u ∈ (bcells Y).toList, u.oneCell' = true := fun u hu => Array.all_eq_true_iff_forall_mem.1 (one_bcells Y) u (by simpa using hu)
  have hX1 : ∀ u ∈ (bcells X).toList, u.oneCell' = true := fun u hu => Array.all_eq_true_iff_forall_mem.1 (one_bcells X) u (by simpa using hu)
  have hlY : (PA ++ [Y]).length = K + 1 := by rw [List.length_append, hlA.out]; rfl
  have hlX : (PB ++ [X]).length = K + 1 := by rw [List.length_append, hlB.out]; rfl
  have h63p : K + 1 ≤ maxLen := by unfold maxLen; omega
  have hbyp : (K + 1) * 32 ≤ 140737488355328 := by omega
  have hK1 : K + 1 ≤ 1000 := by omega
  have hnode : Hid (∀ w, Calls Try.prog 35 #[.agg (bcells X), .agg (bcells Y)] w fun r w' => r = .returned (.agg (bcells (nodeB X Y))) ∧ Ext w w') := hide fun w => node_any X Y w
  have hRR := bsEq_self (nodeB X Y)
  generalize nodeB X Y = R at *
  clear hra hrb hrall hpa hpb hp1 hp2 hall4 hall5 hall6 hall8 hcA hcB hoA hoB hnlA hnlB hboth hbl hall hown3 hown4 hgrow3 hgrow4 rX rX2 rY2 rX4 rY4 rX5 rY5 rR5 rX6 rY6 rR6 hE6 hE7 hE8 hE9 hE3 hE4 hE79 hstH hnil3 hat4 hownp hownq howns hownu
  replace hYl := hide hYl
  replace hXl := hide hXl
  replace hY1 := hide hY1
  replace hX1 := hide hX1
  replace hBp := hide hBp
  replace hBs := hide hBs
  replace hkX := hide hkX
  replace hkY := hide hkY
  replace hkR := hide hkR
  replace hp9 := hide hp9
  replace hq9 := hide hq9
  replace hs9 := hide hs9
  have hxD := ext_drew w9
  have hu := Try.underlying28
  have hiX := info_hash X
  have hiY := info_hash Y
  have hiR := info_hash R
  have hS : ∀ w' : World, rowAt w' kX 0 32 = some (bcells X) → rowAt w' kY 0 32 = some (bcells Y) → rowAt w' kR 0 32 = some (bcells R) → w'.rangeAt kX 0 (bcells X).toList ∧ w'.rangeAt kY 0 (bcells Y).toList ∧ w'.rangeAt kR 0 (bcells R).toList := fun w' h1 h2 h3 => ⟨range_of_row h1, range_of_row h2, range_of_row h3⟩
  replace hS := hide hS
  refine wp_region_held_drew (S := (fun w' => w'.rangeAt kX 0 (bcells X).toList ∧ w'.rangeAt kY 0 (bcells Y).toList ∧ w'.rangeAt kR 0 (bcells R).toList)) (by kernel_rfl) (hS.out _ rX9 rY9 rR9) (fun hHeld => ?_)
  (refine wpAnyH_take (i := 0) (v := ?_) (by simp only [List.getElem?_toArray, List.getElem?_cons_succ, List.getElem?_cons_zero]; exact rfl) (by kernel_rfl) (by kernel_rfl) (by kernel_rfl) (by exact fun _ _ _ h => h) (Or.inl ⟨by rfl, ?_⟩) (by assumption) ?_; rotate_left; (intro wz hSz; go_simp; try (with_reducible rfl)); simp only [Act.put, List.setIfInBounds_toArray, List.set_cons_zero, List.set_cons_succ])
  (refine wpAnyH_take (i := 1) (v := ?_) (by simp only [List.getElem?_toArray, List.getElem?_cons_succ, List.getElem?_cons_zero]; exact rfl) (by kernel_rfl) (by kernel_rfl) (by kernel_rfl) (by exact fun _ _ _ h => h) (Or.inl ⟨by rfl, ?_⟩) (by assumption) ?_; rotate_left; (intro wz hSz; go_simp; try (with_reducible rfl)); simp only [Act.put, List.setIfInBounds_toArray, List.set_cons_zero, List.set_cons_succ])
  (refine wpAnyH_take (i := 2) (v := ?_) (by simp only [List.getElem?_toArray, List.getElem?_cons_succ, List.getElem?_cons_zero]; exact rfl) (by kernel_rfl) (by kernel_rfl) (by kernel_rfl) (by exact fun _ _ _ h => h) (Or.inl ⟨by rfl, ?_⟩) (by assumption) ?_; rotate_left; (intro wz hSz; go_simp; try (with_reducible rfl)); simp only [Act.put, List.setIfInBounds_toArray, List.set_cons_zero, List.set_cons_succ])
  (refine wpAnyH_take (i := 3) (v := ?_) (by simp only [List.getElem?_toArray, List.getElem?_cons_succ, List.getElem?_cons_zero]; exact rfl) (by kernel_rfl) (by kernel_rfl) (by kernel_rfl) (by exact fun _ _ _ h => h) (Or.inl ⟨by rfl, ?_⟩) (by assumption) ?_; rotate_left; (intro wz hSz; go_simp; try (with_reducible rfl)); simp only [Act.put, List.setIfInBounds_toArray, List.set_cons_zero, List.set_cons_succ])
  (refine wpAnyH_take (i := 4) (v := ?_) (by simp only [List.getElem?_toArray, List.getElem?_cons_succ, List.getElem?_cons_zero]; exact rfl) (by kernel_rfl) (by kernel_rfl) (by kernel_rfl) (by exact fun _ _ _ h => h) (Or.inl ⟨by rfl, ?_⟩) (by assumption) ?_; rotate_left; (intro wz hSz; go_simp; try (with_reducible rfl)); simp only [Act.put, List.setIfInBounds_toArray, List.set_cons_zero, List.set_cons_succ])
  (refine wpAnyH_take (i := 5) (v := ?_) (by simp only [List.getElem?_toArray, List.getElem?_cons_succ, List.getElem?_cons_zero]; exact rfl) (by kernel_rfl) (by kernel_rfl) (by kernel_rfl) (by exact fun _ _ _ h => h) (Or.inl ⟨by rfl, ?_⟩) (by assumption) ?_; rotate_left; (intro wz hSz; go_simp; try (with_reducible rfl)); simp only [Act.put, List.setIfInBounds_toArray, List.set_cons_zero, List.set_cons_succ])
  (refine wpAnyH_take (i := 6) (v := ?_) (by simp only [List.getElem?_toArray, List.getElem?_cons_succ, List.getElem?_cons_zero]; exact rfl) (by kernel_rfl) (by kernel_rfl) (by kernel_rfl) (by exact fun _ _ _ h => h) (Or.inl ⟨by rfl, ?_⟩) (by assumption) ?_; rotate_left; (intro wz hSz; go_simp; try (with_reducible rfl)); simp only [Act.put, List.setIfInBounds_toArray, List.set_cons_zero, List.set_cons_succ])
  (refine wpAnyH_take (i := 7) (v := ?_) (by simp only [List.getElem?_toArray, List.getElem?_cons_succ, List.getElem?_cons_zero]; exact rfl) (by kernel_rfl) (by kernel_rfl) (by kernel_rfl) (by exact fun _ _ _ h => h) (Or.inl ⟨by rfl, ?_⟩) (by assumption) ?_; rotate_left; (intro wz hSz; go_simp; try (with_reducible rfl)); simp only [Act.put, List.setIfInBounds_toArray, List.set_cons_zero, List.set_cons_succ])
  (refine wpAnyH_take (i := 8) (v := ?_) (by simp only [List.getElem?_toArray, List.getElem?_cons_succ, List.getElem?_cons_zero]; exact rfl) (by kernel_rfl) (by kernel_rfl) (by kernel_rfl) (by exact fun _ _ _ h => h) (Or.inl ⟨by rfl, ?_⟩) (by assumption) ?_; rotate_left; (intro wz hSz; go_simp; try (with_reducible rfl)); simp only [Act.put, List.setIfInBounds_toArray, List.set_cons_zero, List.set_cons_succ])
  (refine wpAnyH_take (i := 9) (v := ?_) (by simp only [List.getElem?_toArray, List.getElem?_cons_succ, List.getElem?_cons_zero]; exact rfl) (by kernel_rfl) (by kernel_rfl) (by kernel_rfl) (by exact fun _ _ _ h => h) (Or.inl ⟨by rfl, ?_⟩) (by assumption) ?_; rotate_left; (intro wz hSz; go_simp; try (with_reducible rfl)); simp only [Act.put, List.setIfInBounds_toArray, List.set_cons_zero, List.set_cons_succ])
  (refine wpAnyH_take (i := 10) (v := ?_) (by simp only [List.getElem?_toArray, List.getElem?_cons_succ, List.getElem?_cons_zero]; exact rfl) (by kernel_rfl) (by kernel_rfl) (by kernel_rfl) (by exact fun _ _ _ h => h) (Or.inl ⟨by rfl, ?_⟩) (by assumption) ?_; rotate_left; (intro wz hSz; go_simp; try (with_reducible rfl)); simp only [Act.put, List.setIfInBounds_toArray, List.set_cons_zero, List.set_cons_succ])
  (refine wpAnyH_take (i := 11) (v := ?_) (by simp only [List.getElem?_toArray, List.getElem?_cons_succ, List.getElem?_cons_zero]; exact rfl) (by kernel_rfl) (by kernel_rfl) (by kernel_rfl) (by exact fun _ _ _ h => h) (Or.inl ⟨by rfl, ?_⟩) (by assumption) ?_; rotate_left; (intro wz hSz; go_simp; try (with_reducible rfl)); simp only [Act.put, List.setIfInBounds_toArray, List.set_cons_zero, List.set_cons_succ])
  (refine wpAnyH_take (i := 12) (v := ?_) (by simp only [List.getElem?_toArray, List.getElem?_cons_succ, List.getElem?_cons_zero]; exact rfl) (by kernel_rfl) (by kernel_rfl) (by kernel_rfl) (by exact fun _ _ _ h => h) (Or.inl ⟨by rfl, ?_⟩) (by assumption) ?_; rotate_left; (intro wz hSz; go_simp; try (with_reducible rfl)); simp only [Act.put, List.setIfInBounds_toArray, List.set_cons_zero, List.set_cons_succ])
  (refine wpAnyH_take (i := 13) (v := ?_) (by simp only [List.getElem?_toArray, List.getElem?_cons_succ, List.getElem?_cons_zero]; exact rfl) (by kernel_rfl) (by kernel_rfl) (by kernel_rfl) (by exact fun _ _ _ h => h) (Or.inl ⟨by rfl, ?_⟩) (by assumption) ?_; rotate_left; (intro wz hSz; go_simp; try (with_reducible rfl)); simp only [Act.put, List.setIfInBounds_toArray, List.set_cons_zero, List.set_cons_succ])
  (refine wpAnyH_take (i := 14) (v := ?_) (by simp only [List.getElem?_toArray, List.getElem?_cons_succ, List.getElem?_cons_zero]; exact rfl) (by kernel_rfl) (by kernel_rfl) (by kernel_rfl) (by exact fun _ _ _ h => h) (Or.inl ⟨by rfl, ?_⟩) (by assumption) ?_; rotate_left; (intro wz hSz; go_simp; try (with_reducible rfl)); simp only [Act.put, List.setIfInBounds_toArray, List.set_cons_zero, List.set_cons_succ])
  (refine wpAnyH_take (i := 15) (v := ?_) (by simp only [List.getElem?_toArray, List.getElem?_cons_succ, List.getElem?_cons_zero]; exact rfl) (by kernel_rfl) (by kernel_rfl) (by kernel_rfl) (by exact fun _ _ _ h => h) (Or.inl ⟨by rfl, ?_⟩) (by assumption) ?_; rotate_left; (intro wz hSz; go_simp; try (with_reducible rfl)); simp only [Act.put, List.setIfInBounds_toArray, List.set_cons_zero, List.set_cons_succ])
  (refine wpAnyH_take (i := 16) (v := ?_) (by simp only [List.getElem?_toArray, List.getElem?_cons_succ, List.getElem?_cons_zero]; exact rfl) (by kernel_rfl) (by kernel_rfl) (by kernel_rfl) (by exact fun _ _ _ h => h) (Or.inl ⟨by rfl, ?_⟩) (by assumption) ?_; rotate_left; (intro wz hSz; go_simp; try (with_reducible rfl)); simp only [Act.put, List.setIfInBounds_toArray, List.set_cons_zero, List.set_cons_succ])
  (refine wpAnyH_take (i := 17) (v := ?_) (by simp only [List.getElem?_toArray, List.getElem?_cons_succ, List.getElem?_cons_zero]; exact rfl) (by kernel_rfl) (by kernel_rfl) (by kernel_rfl) (by exact fun _ _ _ h => h) (Or.inl ⟨by rfl, ?_⟩) (by assumption) ?_; rotate_left; (intro wz hSz; go_simp; try (with_reducible rfl)); simp only [Act.put, List.setIfInBounds_toArray, List.set_cons_zero, List.set_cons_succ])
  (refine wpAnyH_take (i := 18) (v := ?_) (by simp only [List.getElem?_toArray, List.getElem?_cons_succ, List.getElem?_cons_zero]; exact rfl) (by kernel_rfl) (by kernel_rfl) (by kernel_rfl) (by exact fun _ _ _ h => h) (Or.inl ⟨by rfl, ?_⟩) (by assumption) ?_; rotate_left; (intro wz hSz; go_simp; try (with_reducible rfl)); simp only [Act.put, List.setIfInBounds_toArray, List.set_cons_zero, List.set_cons_succ])
  (refine wpAnyH_take (i := 19) (v := ?_) (by simp only [List.getElem?_toArray, List.getElem?_cons_succ, List.getElem?_cons_zero]; exact rfl) (by kernel_rfl) (by kernel_rfl) (by kernel_rfl) (by exact fun _ _ _ h => h) (Or.inl ⟨by rfl, ?_⟩) (by assumption) ?_; rotate_left; (intro wz hSz; go_simp; try (with_reducible rfl)); simp only [Act.put, List.setIfInBounds_toArray, List.set_cons_zero, List.set_cons_succ])
  (refine wpAnyH_take (i := 20) (v := ?_) (by simp only [List.getElem?_toArray, List.getElem?_cons_succ, List.getElem?_cons_zero]; exact rfl) (by kernel_rfl) (by kernel_rfl) (by kernel_rfl) (by exact fun _ _ _ h => h) (Or.inl ⟨by rfl, ?_⟩) (by assumption) ?_; rotate_left; (intro wz hSz; go_simp; try (with_reducible rfl)); simp only [Act.put, List.setIfInBounds_toArray, List.set_cons_zero, List.set_cons_succ])
  (refine wpAnyH_take (i := 21) (v := ?_) (by simp only [List.getElem?_toArray, List.getElem?_cons_succ, List.getElem?_cons_zero]; exact rfl) (by kernel_rfl) (by kernel_rfl) (by kernel_rfl) (by exact fun _ _ _ h => h) (Or.inl ⟨by rfl, ?_⟩) (by assumption) ?_; rotate_left; (intro wz hSz; go_simp; try (with_reducible rfl)); simp only [Act.put, List.setIfInBounds_toArray, List.set_cons_zero, List.set_cons_succ])
  (refine wpAnyH_take (i := 22) (v := ?_) (by simp only [List.getElem?_toArray, List.getElem?_cons_succ, List.getElem?_cons_zero]; exact rfl) (by kernel_rfl) (by kernel_rfl) (by kernel_rfl) (by exact fun _ _ _ h => h) (Or.inl ⟨by rfl, ?_⟩) (by assumption) ?_; rotate_left; (intro wz hSz; go_simp; try (with_reducible rfl)); simp only [Act.put, List.setIfInBounds_toArray, List.set_cons_zero, List.set_cons_succ])
  (refine wpAnyH_take (i := 23) (v := ?_) (by simp only [List.getElem?_toArray, List.getElem?_cons_succ, List.getElem?_cons_zero]; exact rfl) (by kernel_rfl) (by kernel_rfl) (by kernel_rfl) (by exact fun _ _ _ h => h) (Or.inl ⟨by rfl, ?_⟩) (by assumption) ?_; rotate_left; (intro wz hSz; go_simp; try (with_reducible rfl)); simp only [Act.put, List.setIfInBounds_toArray, List.set_cons_zero, List.set_cons_succ])
  (refine wpAnyH_take (i := 24) (v := ?_) (by simp only [List.getElem?_toArray, List.getElem?_cons_succ, List.getElem?_cons_zero]; exact rfl) (by kernel_rfl) (by kernel_rfl) (by kernel_rfl) (by exact fun _ _ _ h => h) (Or.inl ⟨by rfl, ?_⟩) (by assumption) ?_; rotate_left; (intro wz hSz; go_simp; try (with_reducible rfl)); simp only [Act.put, List.setIfInBounds_toArray, List.set_cons_zero, List.set_cons_succ])
  (refine wpAnyH_take (i := 25) (v := ?_) (by simp only [List.getElem?_toArray, List.getElem?_cons_succ, List.getElem?_cons_zero]; exact rfl) (by kernel_rfl) (by kernel_rfl) (by kernel_rfl) (by exact fun _ _ _ h => h) (Or.inl ⟨by rfl, ?_⟩) (by assumption) ?_; rotate_left; (intro wz hSz; go_simp; try (with_reducible rfl)); simp only [Act.put, List.setIfInBounds_toArray, List.set_cons_zero, List.set_cons_succ])
  (refine wpAnyH_take (i := 26) (v := ?_) (by simp only [List.getElem?_toArray, List.getElem?_cons_succ, List.getElem?_cons_zero]; exact rfl) (by kernel_rfl) (by kernel_rfl) (by kernel_rfl) (by exact fun _ _ _ h => h) (Or.inl ⟨by rfl, ?_⟩) (by assumption) ?_; rotate_left; (intro wz hSz; go_simp; try (with_reducible rfl)); simp only [Act.put, List.setIfInBounds_toArray, List.set_cons_zero, List.set_cons_succ])
  (refine wpAnyH_take (i := 27) (v := _) (by simp only [List.getElem?_toArray, List.getElem?_cons_succ, List.getElem?_cons_zero]; exact rfl) (by kernel_rfl) (by kernel_rfl) (by kernel_rfl) (by exact fun _ _ _ h => h) (yieldsIf_load_mid (by rfl) _ _ rfl _ _ rfl _ _ (by (intro wz hSz; (try dsimp only at hSz); go_split_ands; assumption)) hu rfl hiR) (by assumption) ?_; simp only [Act.put, List.setIfInBounds_toArray, List.set_cons_zero, List.set_cons_succ, Array.toArray_toList])
  (refine wpAnyH_take (i := 28) (v := _) (by simp only [List.getElem?_toArray, List.getElem?_cons_succ, List.getElem?_cons_zero]; exact rfl) (by kernel_rfl) (by kernel_rfl) (by kernel_rfl) (by exact fun _ _ _ h => h) (yieldsIf_load_mid (by rfl) _ _ rfl _ _ rfl _ _ (by (intro wz hSz; (try dsimp only at hSz); go_split_ands; assumption)) hu rfl hiX) (by assumption) ?_; simp only [Act.put, List.setIfInBounds_toArray, List.set_cons_zero, List.set_cons_succ, Array.toArray_toList])
  (refine wpAnyH_take (i := 29) (v := _) (by simp only [List.getElem?_toArray, List.getElem?_cons_succ, List.getElem?_cons_zero]; exact rfl) (by kernel_rfl) (by kernel_rfl) (by kernel_rfl) (by exact fun _ _ _ h => h) (yieldsIf_load_mid (by rfl) _ _ rfl _ _ rfl _ _ (by (intro wz hSz; (try dsimp only at hSz); go_split_ands; assumption)) hu rfl hiY) (by assumption) ?_; simp only [Act.put, List.setIfInBounds_toArray, List.set_cons_zero, List.set_cons_succ, Array.toArray_toList])
  refine wpAnyH_ready (rs := [30]) (by kernel_rfl) (by simp) (AllReadyH.cons (o := _) (by simp only [List.getElem?_toArray, List.getElem?_cons_succ, List.getElem?_cons_zero]; exact rfl) (fun K' hK' => ?_) AllReadyH.nil)
  go_simp
  go_at_call 35
  (with_reducible refine (hnode.out _).mono ?_)
  rintro r w10 ⟨rfl, hE10⟩
  have hE10 := hxD.then hE10
  have rX10 := rowAt_ext hE10 rX9
  have rY10 := rowAt_ext hE10 rY9
  have rR10 := rowAt_ext hE10 rR9
  go_wp2_with fail
  refine hK'.out _ _ (hS.out _ rX10 rY10 rR10) (fun hHeld => ?_)
  clear hK' K'
  try simp only [Act.put, List.setIfInBounds_toArray, List.set_cons_zero, List.set_cons_succ]
  (refine wpAnyH_take (i := 31) (v := ?_) (by simp only [List.getElem?_toArray, List.getElem?_cons_succ, List.getElem?_cons_zero]; exact rfl) (by kernel_rfl) (by kernel_rfl) (by kernel_rfl) (by exact fun _ _ _ h => h) (Or.inl ⟨by rfl, ?_⟩) (by assumption) ?_; rotate_left; (intro wz hSz; go_simp; try (with_reducible rfl)); simp only [Act.put, List.setIfInBounds_toArray, List.set_cons_zero, List.set_cons_succ])
  (refine wpAnyH_take (i := 32) (v := ?_) (by simp only [List.getElem?_toArray, List.getElem?_cons_succ, List.getElem?_cons_zero]; exact rfl) (by kernel_rfl) (by kernel_rfl) (by kernel_rfl) (by exact fun _ _ _ h => h) (Or.inl ⟨by rfl, ?_⟩) (by assumption) ?_; rotate_left; (intro wz hSz; go_simp; try (with_reducible rfl)); simp only [Act.put, List.setIfInBounds_toArray, List.set_cons_zero, List.set_cons_succ])
  (refine wpAnyH_take (i := 33) (v := ?_) (by simp only [List.getElem?_toArray, List.getElem?_cons_succ, List.getElem?_cons_zero]; exact rfl) (by kernel_rfl) (by kernel_rfl) (by kernel_rfl) (by exact fun _ _ _ h => h) (Or.inl ⟨by rfl, ?_⟩) (by assumption) ?_; rotate_left; (intro wz hSz; go_simp; try (with_reducible rfl)); simp only [Act.put, List.setIfInBounds_toArray, List.set_cons_zero, List.set_cons_succ])
  (refine wpAnyH_take (i := 34) (v := ?_) (by simp only [List.getElem?_toArray, List.getElem?_cons_succ, List.getElem?_cons_zero]; exact rfl) (by kernel_rfl) (by kernel_rfl) (by kernel_rfl) (by exact fun _ _ _ h => h) (Or.inl ⟨by rfl, ?_⟩) (by assumption) ?_; rotate_left; (intro wz hSz; go_simp; try (with_reducible rfl)); simp only [Act.put, List.setIfInBounds_toArray, List.set_cons_zero, List.set_cons_succ])
  (refine wpAnyH_take (i := 35) (v := ?_) (by simp only [List.getElem?_toArray, List.getElem?_cons_succ, List.getElem?_cons_zero]; exact rfl) (by kernel_rfl) (by kernel_rfl) (by kernel_rfl) (by exact fun _ _ _ h => h) (Or.inl ⟨by rfl, ?_⟩) (by assumption) ?_; rotate_left; (intro wz hSz; go_simp; try (with_reducible rfl)); simp only [Act.put, List.setIfInBounds_toArray, List.set_cons_zero, List.set_cons_succ])
  (refine wpAnyH_take (i := 36) (v := _) (by simp only [List.getElem?_toArray, List.getElem?_cons_succ, List.getElem?_cons_zero]; exact rfl) (by kernel_rfl) (by kernel_rfl) (by kernel_rfl) (by exact fun _ _ _ h => h) (yieldsIf_load_mid (by rfl) _ _ rfl _ _ rfl _ _ (by (intro wz hSz; (try dsimp only at hSz); go_split_ands; assumption)) hu rfl hiY) (by assumption) ?_; simp only [Act.put, List.setIfInBounds_toArray, List.set_cons_zero, List.set_cons_succ, Array.toArray_toList])
  have hE10a := ext_alloc w10 (.cells (bcells Y) 28)
  have rX10a := rowAt_ext hE10a rX10
  have rY10a := rowAt_ext hE10a rY10
  have rR10a := rowAt_ext hE10a rR10
  have hp10 := hide ((own_ext hE10 hp9.out).alloc (.cells (bcells Y) 28))
  have hn10 := hide (World.news_of_block (heap_alloc_new w10 (.cells (bcells Y) 28)))
  have hz10 : Bp ≤ (w10.alloc (.cells (bcells Y) 28)).heap.size := Nat.le_trans (by have := hE10.size; omega) hE10a.size
  have hx10 := (hx9.then hE10).then hE10a
  refine wpAnyH_ready (rs := [37]) (by kernel_rfl) (by simp) (AllReadyH.cons (o := _) (by simp only [List.getElem?_toArray, List.getElem?_cons_succ, List.getElem?_cons_zero]; exact rfl) (fun K' hK' => ?_) AllReadyH.nil)
  go_simp
  refine hK'.out _ _ (hS.out _ rX10a rY10a rR10a) (fun hHeld => ?_)
  clear hK' K'
  try simp only [Act.put, List.setIfInBounds_toArray, List.set_cons_zero, List.set_cons_succ]
  refine wpAnyH_ready (rs := [38]) (by kernel_rfl) (by simp) (AllReadyH.cons (o := _) (by simp only [List.getElem?_toArray, List.getElem?_cons_succ, List.getElem?_cons_zero]; exact rfl) (fun K' hK' => ?_) AllReadyH.nil)
  rw [if_pos (by rfl)]
  refine wp_append_lies _ _ _ 40 rfl Bp 28 i0 (.agg (bcells (zeros 32))) 32 32 Try.underlying40 hi0 hz0 hz1 hz2 rfl (by decide) vp K (rowB PA) (by simp [Act.eval, Act.put]) hp10.out ⟨w10.heap.size, 0, none⟩ 1 1 (bcells Y).toList (by simp [Act.eval, Act.put]) hYl.out hn10.out hY1.out (by decide) h63p hbyp hz10 _ rfl ?_
  intro g11 cp11 w11 hown11 hgrow11 hat11 hlt11
  rw [← rowB_snoc] at hown11
  have ha11 := hide (hashes_own hown11 hlY)
  have hcp11 := own_caps hown11
  have hb11 : Below Bp (w10.alloc (.cells (bcells Y) 28)) w11 := (Below.refl _ _).grown hgrow11 hz10 (fun k hk => (hp10.out.lt k hk).1)
  have rX11 := (rowAt_below hb11 gX 0 32).trans rX10a
  have rY11 := (rowAt_below hb11 gY 0 32).trans rY10a
  have rR11 := (rowAt_below hb11 gR 0 32).trans rR10a
  have hq11 := hide (hashes_own (((own_ext hE10 hq9.out).alloc (.cells (bcells Y) 28)).kept hgrow11 (.inr (fun e => by have := hqn gq e.symm; omega))) hlY)
  have hs11 := hide (((own_ext hE10 hs9.out).alloc (.cells (bcells Y) 28)).kept hgrow11 (by cases hv : vs.ownBlock with | none => exact .inl rfl | some k => exact .inr (fun e => by have h1 := (hpn k e.symm).1; have h2 := (hsn k hv).1; omega)))
  have hu11 := hide (((own_ext hE10 hownu9.out).alloc (.cells (bcells Y) 28)).kept hgrow11 (.inr (fun e => by have := (hpn gu e.symm).2; omega)))
  have hx11 := ext_grown hx10 hgrow11 (fun k hk => Nat.le_trans hBpw (hp10.out.lt k hk).1)
  have hz11 := hgrow11.size
  refine hK'.out _ _ (hS.out _ rX11 rY11 rR11) (fun hHeld => ?_)
  clear hK' K'
  try simp only [Act.put, List.setIfInBounds_toArray, List.set_cons_zero, List.set_cons_succ]
  refine wpAnyH_ready (rs := [39]) (by kernel_rfl) (by simp) (AllReadyH.cons (o := _) (by simp only [List.getElem?_toArray, List.getElem?_cons_succ, List.getElem?_cons_zero]; exact rfl) (fun K' hK' => ?_) AllReadyH.nil)
  go_simp
  go_at_call 36
  (with_reducible refine (same_any (some ⟨gq, 0, none⟩) (some ⟨g11, 0, none⟩) (K + 1) cq cp11 (fun x => (PA ++ [Y]).getD x (zeros 32)) _ hcq.1 hcp11.1 hcq.2 hcp11.2 hK1 hq11.out ha11.out).mono ?_)
  rintro r w12 ⟨rfl, hE12⟩
  have rX12 := rowAt_ext hE12 rX11
  have rY12 := rowAt_ext hE12 rY11
  have rR12 := rowAt_ext hE12 rR11
  go_wp2_with fail
  refine hK'.out _ _ (hS.out _ rX12 rY12 rR12) (fun hHeld => ?_)
  clear hK' K'
  try simp only [Act.put, List.setIfInBounds_toArray, List.set_cons_zero, List.set_cons_succ]
  (refine wpAnyH_take (i := 40) (v := ?_) (by simp only [List.getElem?_toArray, List.getElem?_cons_succ, List.getElem?_cons_zero]; exact rfl) (by kernel_rfl) (by kernel_rfl) (by kernel_rfl) (by exact fun _ _ _ h => h) (Or.inl ⟨by rfl, ?_⟩) (by assumption) ?_; rotate_left; (intro wz hSz; go_simp; try (with_reducible rfl)); simp only [Act.put, List.setIfInBounds_toArray, List.set_cons_zero, List.set_cons_succ])
  (refine wpAnyH_take (i := 41) (v := ?_) (by simp only [List.getElem?_toArray, List.getElem?_cons_succ, List.getElem?_cons_zero]; exact rfl) (by kernel_rfl) (by kernel_rfl) (by kernel_rfl) (by exact fun _ _ _ h => h) (Or.inl ⟨by rfl, ?_⟩) (by assumption) ?_; rotate_left; (intro wz hSz; go_simp; try (with_reducible rfl)); simp only [Act.put, List.setIfInBounds_toArray, List.set_cons_zero, List.set_cons_succ])
  (refine wpAnyH_take (i := 42) (v := ?_) (by simp only [List.getElem?_toArray, List.getElem?_cons_succ, List.getElem?_cons_zero]; exact rfl) (by kernel_rfl) (by kernel_rfl) (by kernel_rfl) (by exact fun _ _ _ h => h) (Or.inl ⟨by rfl, ?_⟩) (by assumption) ?_; rotate_left; (intro wz hSz; go_simp; try (with_reducible rfl)); simp only [Act.put, List.setIfInBounds_toArray, List.set_cons_zero, List.set_cons_succ])
  (refine wpAnyH_take (i := 43) (v := ?_) (by simp only [List.getElem?_toArray, List.getElem?_cons_succ, List.getElem?_cons_zero]; exact rfl) (by kernel_rfl) (by kernel_rfl) (by kernel_rfl) (by exact fun _ _ _ h => h) (Or.inl ⟨by rfl, ?_⟩) (by assumption) ?_; rotate_left; (intro wz hSz; go_simp; try (with_reducible rfl)); simp only [Act.put, List.setIfInBounds_toArray, List.set_cons_zero, List.set_cons_succ])
  (refine wpAnyH_take (i := 44) (v := _) (by simp only [List.getElem?_toArray, List.getElem?_cons_succ, List.getElem?_cons_zero]; exact rfl) (by kernel_rfl) (by kernel_rfl) (by kernel_rfl) (by exact fun _ _ _ h => h) (yieldsIf_load_mid (by rfl) _ _ rfl _ _ rfl _ _ (by (intro wz hSz; (try dsimp only at hSz); go_split_ands; assumption)) hu rfl hiX) (by assumption) ?_; simp only [Act.put, List.setIfInBounds_toArray, List.set_cons_zero, List.set_cons_succ, Array.toArray_toList])
  have hE12a := ext_alloc w12 (.cells (bcells X) 28)
  have rX12a := rowAt_ext hE12a rX12
  have rY12a := rowAt_ext hE12a rY12
  have rR12a := rowAt_ext hE12a rR12
  have hs12 := hide ((own_ext hE12 hs11.out).alloc (.cells (bcells X) 28))
  have hu12 := hide ((own_ext hE12 hu11.out).alloc (.cells (bcells X) 28))
  have hn12 := hide (World.news_of_block (heap_alloc_new w12 (.cells (bcells X) 28)))
  have hz12 : Bs ≤ (w12.alloc (.cells (bcells X) 28)).heap.size := Nat.le_trans (by have h1 := hE12.size; have h2 := hE10.size; have h3 := hE10a.size; omega) hE12a.size
  have hx12 := (hx11.then hE12).then hE12a
  refine wpAnyH_ready (rs := [45]) (by kernel_rfl) (by simp) (AllReadyH.cons (o := _) (by simp only [List.getElem?_toArray, List.getElem?_cons_succ, List.getElem?_cons_zero]; exact rfl) (fun K' hK' => ?_) AllReadyH.nil)
  go_simp
  refine hK'.out _ _ (hS.out _ rX12a rY12a rR12a) (fun hHeld => ?_)
  clear hK' K'
  try simp only [Act.put, List.setIfInBounds_toArray, List.set_cons_zero, List.set_cons_succ]
  refine wpAnyH_ready (rs := [46]) (by kernel_rfl) (by simp) (AllReadyH.cons (o := _) (by simp only [List.getElem?_toArray, List.getElem?_cons_succ, List.getElem?_cons_zero]; exact rfl) (fun K' hK' => ?_) AllReadyH.nil)
  rw [if_pos (by rfl)]
  refine wp_append_lies _ _ _ 40 rfl Bs 28 i0 (.agg (bcells (zeros 32))) 32 32 Try.underlying40 hi0 hz0 hz1 hz2 rfl (by decide) vs K (rowB PB) (by simp [Act.eval, Act.put]) hs12.out ⟨w12.heap.size, 0, none⟩ 1 1 (bcells X).toList (by simp [Act.eval, Act.put]) hXl.out hn12.out hX1.out (by decide) h63p hbyp hz12 _ rfl ?_
  intro g13 cp13 w13 hown13 hgrow13 hat13 hlt13
  rw [← rowB_snoc] at hown13
  have ha13 := hide (hashes_own hown13 hlX)
  have hcp13 := own_caps hown13
  have hb13 : Below Bs (w12.alloc (.cells (bcells X) 28)) w13 := (Below.refl _ _).grown hgrow13 hz12 (fun k hk => (hs12.out.lt k hk).1)
  have rX13 := (rowAt_below hb13 gXs 0 32).trans rX12a
  have rY13 := (rowAt_below hb13 gYs 0 32).trans rY12a
  have rR13 := (rowAt_below hb13 gRs 0 32).trans rR12a
  have hu13 := hide (hashes_own (hu12.out.kept hgrow13 (.inr (fun e => by have := (hsn gu e.symm).2; omega))) hlX)
  have hx13 := ext_grown hx12 hgrow13 (fun k hk => Nat.le_trans hBsw (hs12.out.lt k hk).1)
  refine hK'.out _ _ (hS.out _ rX13 rY13 rR13) (fun hHeld => ?_)
  clear hK' K'
  try simp only [Act.put, List.setIfInBounds_toArray, List.set_cons_zero, List.set_cons_succ]
  refine wpAnyH_ready (rs := [47]) (by kernel_rfl) (by simp) (AllReadyH.cons (o := _) (by simp only [List.getElem?_toArray, List.getElem?_cons_succ, List.getElem?_cons_zero]; exact rfl) (fun K' hK' => ?_) AllReadyH.nil)
  go_simp
  go_at_call 36
  (with_reducible refine (same_any (some ⟨gu, 0, none⟩) (some ⟨g13, 0, none⟩) (K + 1) cu cp13 (fun x => (PB ++ [X]).getD x (zeros 32)) _ hcu.1 hcp13.1 hcu.2 hcp13.2 hK1 hu13.out ha13.out).mono ?_)
  rintro r w14 ⟨rfl, hE14⟩
  have hx14 := hx13.then hE14
  go_wp2_with fail
  refine hK'.out _ _ (hS.out _ (rowAt_ext hE14 rX13) (rowAt_ext hE14 rY13) (rowAt_ext hE14 rR13)) (fun hHeld => ?_)
  clear hK' K'
  try simp only [Act.put, List.setIfInBounds_toArray, List.set_cons_zero, List.set_cons_succ]
  (refine wpAnyH_take (i := 48) (v := ?_) (by simp only [List.getElem?_toArray, List.getElem?_cons_succ, List.getElem?_cons_zero]; exact rfl) (by kernel_rfl) (by kernel_rfl) (by kernel_rfl) (by exact fun _ _ _ h => h) (Or.inl ⟨by rfl, ?_⟩) (by assumption) ?_; rotate_left; (intro wz hSz; go_simp; try (with_reducible rfl)); simp only [Act.put, List.setIfInBounds_toArray, List.set_cons_zero, List.set_cons_succ])
  (refine wpAnyH_take (i := 49) (v := ?_) (by simp only [List.getElem?_toArray, List.getElem?_cons_succ, List.getElem?_cons_zero]; exact rfl) (by kernel_rfl) (by kernel_rfl) (by kernel_rfl) (by exact fun _ _ _ h => h) (Or.inl ⟨by rfl, ?_⟩) (by assumption) ?_; rotate_left; (intro wz hSz; go_simp; try (with_reducible rfl)); simp only [Act.put, List.setIfInBounds_toArray, List.set_cons_zero, List.set_cons_succ])
  refine wpAnyH_ready (rs := [50]) (by kernel_rfl) (by simp) (AllReadyH.cons (o := _) (by simp only [List.getElem?_toArray, List.getElem?_cons_succ, List.getElem?_cons_zero]; exact rfl) (fun K' hK' => ?_) AllReadyH.nil)
  go_simp
  go_at_call 25
  (with_reducible refine (known07_any _).mono ?_)
  rintro r w15 ⟨rfl, hE15⟩
  have hE145 := hE14.then hE15
  have hx15 := hx14.then hE15
  go_wp2_with fail
  refine hK'.out _ _ (hS.out _ (rowAt_ext hE145 rX13) (rowAt_ext hE145 rY13) (rowAt_ext hE145 rR13)) (fun hHeld => ?_)
  clear hK' K'
  try simp only [Act.put, List.setIfInBounds_toArray, List.set_cons_zero, List.set_cons_succ]
  (refine wpAnyH_take (i := 51) (v := ?_) (by simp only [List.getElem?_toArray, List.getElem?_cons_succ, List.getElem?_cons_zero]; exact rfl) (by kernel_rfl) (by kernel_rfl) (by kernel_rfl) (by exact fun _ _ _ h => h) (Or.inl ⟨by rfl, ?_⟩) (by assumption) ?_; rotate_left; (intro wz hSz; go_simp; try (with_reducible rfl)); simp only [Act.put, List.setIfInBounds_toArray, List.set_cons_zero, List.set_cons_succ])
  (refine wpAnyH_take (i := 52) (v := ?_) (by simp only [List.getElem?_toArray, List.getElem?_cons_succ, List.getElem?_cons_zero]; exact rfl) (by kernel_rfl) (by kernel_rfl) (by kernel_rfl) (by exact fun _ _ _ h => h) (Or.inl ⟨by rfl, ?_⟩) (by assumption) ?_; rotate_left; (intro wz hSz; go_simp; try (with_reducible rfl)); simp only [Act.put, List.setIfInBounds_toArray, List.set_cons_zero, List.set_cons_succ])
  refine wpAnyH_done (by kernel_rfl) ?_ _
  go_wp2_with fail
  go_ret
  exact ⟨rfl, hx15⟩
set_option maxHeartbeats 8000000 in
set_option maxRecDepth 100000 in
theorem treeHalves_walk (a b : Option Addr) (na ca nb cb' : Nat) (Ha Hb : Nat → Bs 32) (i : Int) (w : World) (hna : na ≤ ca) (hca : ca ≤ maxLen) (hnb : nb ≤ cb') (hcb : cb' ≤ maxLen) (hHa : HashesIn w a na Ha) (hHb : HashesIn w b nb Hb) :
    Calls Try.prog 10 #[.slice a na ca, .slice b nb cb', .int .i64 i] w fun r w' => r = .returned (.bool true) ∧ Ext w w' := by
  have hmy := hide (refMay_any na)
  by_cases hab : na = nb
  · subst hab
    cases hm : mayN na
    · rw [hm] at hmy
      replace hm := hide hm
      go_enter Try.func10, Try.ntmps10
      go_wp2_with (first | (go_at_call 32; (with_reducible refine (hmy.out _).mono ?_); rintro r w1 ⟨rfl, rfl⟩) | (go_at_call 25; (with_reducible refine (known07_any _).mono ?_); rintro r w7 ⟨rfl, hx7⟩))
      go_ret
      exact ⟨rfl, hx7⟩
    · rw [hm] at hmy
      by_cases h128 : 128 < na
      · have h1 : (128 : Int) < na := by omega
        have hd1 : decide ((128 : Int) < na) = true := by simpa using h1
        replace hm := hide hm
        go_enter Try.func10, Try.ntmps10
        go_wp2_with (first | (go_at_call 32; (with_reducible refine (hmy.out _).mono ?_); rintro r w1 ⟨rfl, rfl⟩) | (go_at_call 25; (with_reducible refine (known07_any _).mono ?_); rintro r w7 ⟨rfl, hx7⟩))
        go_ret
        exact ⟨rfl, hx7⟩
      · have h1 : ¬ (128 : Int) < na := by omega
        have hd1 : decide ((128 : Int) < na) = false := by simpa using h1
        by_cases h0 : i < 0
        · have hd2 : decide (i < 0) = true := by simpa using h0
          replace hm := hide hm
          go_enter Try.func10, Try.ntmps10
          go_wp2_with (first | (go_at_call 32; (with_reducible refine (hmy.out _).mono ?_); rintro r w1 ⟨rfl, rfl⟩) | (go_at_call 25; (with_reducible refine (known07_any _).mono ?_); rintro r w7 ⟨rfl, hx7⟩))
          go_ret
          exact ⟨rfl, hx7⟩
        · have hd2 : decide (i < 0) = false := by simpa using h0
          by_cases hin : (na : Int) ≤ i
          · have hd3 : decide ((na : Int) ≤ i) = true := by simpa using hin
            replace hm := hide hm
            go_enter Try.func10, Try.ntmps10
            go_wp2_with (first | (go_at_call 32; (with_reducible refine (hmy.out _).mono ?_); rintro r w1 ⟨rfl, rfl⟩) | (go_at_call 25; (with_reducible refine (known07_any _).mono ?_); rintro r w7 ⟨rfl, hx7⟩))
            go_ret
            exact ⟨rfl, hx7⟩
          · have hd3 : decide ((na : Int) ≤ i) = false := by simpa using hin
            obtain ⟨i, rfl⟩ := Int.eq_ofNat_of_zero_le (show 0 ≤ i by omega)
            exact halves_main a b na ca cb' Ha Hb i w hna hca hnb hcb hHa hHb hm (by omega) (by omega)
  · have hab' : ¬ (na : Int) = nb := by omega
    go_enter Try.func10, Try.ntmps10
    go_wp2_with (first | (go_at_call 32; (with_reducible refine (hmy.out _).mono ?_); rintro r w1 ⟨rfl, rfl⟩) | (go_at_call 25; (with_reducible refine (known07_any _).mono ?_); rintro r w7 ⟨rfl, hx7⟩))
    go_ret
    exact ⟨rfl, hx7⟩
end Go.Proofs.Ytldcaoclimcahaa
