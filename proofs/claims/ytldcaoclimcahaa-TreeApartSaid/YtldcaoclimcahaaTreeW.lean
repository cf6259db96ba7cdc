/- The walk of the law on leaves apart. -/
import Derived.Test.YtldcaoclimcahaaTreeA
namespace Go.Proofs.Ytldcaoclimcahaa
open Go.RowKit
set_option linter.unusedVariables false
set_option linter.unusedSimpArgs false

attribute [local go_sem ↓] exec_store_Hash
attribute [local go_sem ↓] loadCells_blk equal_hash
attribute [local go_sem] run_blkLoad rowAt_drew rowAt_old rowAt_new bc_whole bsEq_self size_bcells
set_option maxHeartbeats 8000000 in
set_option maxRecDepth 100000 in
theorem treeApart_walk (la lb : Bs 32) (i : Int) (hi : -9223372036854775808 ≤ i ∧ i ≤ 9223372036854775807) (a : Option Addr) (n cap : Nat) (H : Nat → Bs 32) (w : World) (hn : n ≤ cap) (hcap : cap ≤ maxLen) (hH : HashesIn w a n H) :
    Calls Try.prog 8 #[.agg (bcells la), .agg (bcells lb), .int .i64 i, .slice a n cap] w fun r w' => r = .returned (.bool true) ∧ Ext w w' := by
  have hA := heap_alloc2_old w (.cells (bcells la) 28) (.cells (bcells lb) 28)
  have hB := heap_alloc2_new w (.cells (bcells la) 28) (.cells (bcells lb) 28)
  have hx1 := ext_two w (.cells (bcells la) 28) (.cells (bcells lb) 28)
  have r4 := rowAt_whole hA (size_bcells la)
  have r5 := rowAt_whole hB (size_bcells lb)
  have hgA := lt_of_block hA
  have hgB := lt_of_block hB
  by_cases h8 : 8 < n
  · have h8' : (8 : Int) < n := by omega
    have hd : decide ((8 : Int) < n) = true := by simpa using h8'
    replace hA := hide hA
    replace hB := hide hB
    go_enter Try.func8, Try.ntmps8
    go_wp2_with (go_at_call 25; (with_reducible refine (known07_any _).mono ?_); rintro r w7 ⟨rfl, hx7⟩)
    go_ret
    exact ⟨rfl, hx1.then hx7⟩
  · have h8' : ¬ (8 : Int) < n := by omega
    have hd : decide ((8 : Int) < n) = false := by simpa using h8'
    replace hA := hide hA
    replace hB := hide hB
    cases heq : bsEq la lb
    · have hne : la ≠ lb := fun h => by rw [h, bsEq_self] at heq; cases heq
      have hstH : ∀ (w : World) (o : Bs 32), storeStep Try.prog 28 (.pointer (some ⟨w.heap.size, 0, none⟩)) (.agg (bcells o)) (w.alloc (.cells (bcells (zeros 32)) 28)) = .ok .skip (w.alloc (.cells (bcells o) 28)) := fun w o => store_new_H o w _ rfl _ (size_bcells _)
      rw [bcells_zeros] at hstH
      by_cases hm : n ≤ 8 ∧ 0 ≤ i ∧ i < p2 n
      · obtain ⟨_, h0, hlt⟩ := hm
        obtain ⟨i, rfl⟩ := Int.eq_ofNat_of_zero_le h0
        have hca := fun w' (h : Ext w w') => climb_any la (i : Int) a n cap H w' hn hcap (hH.ext h) ⟨by omega, h0, hlt⟩
        have hcb := fun w' (h : Ext w w') => climb_any lb (i : Int) a n cap H w' hn hcap (hH.ext h) ⟨by omega, h0, hlt⟩
        rw [Int.toNat_natCast] at hca hcb
        have hmeet := fun h => apart_clash H la lb i n h hne
        have hlen := texts_len H la lb i n
        have hlt9 : i < 9223372036854775808 := by have := p2_le n (by omega); omega
        have hta := fun w' (h : Ext w w') => texts_any la i a n cap H w' hn (by omega) hcap (hH.ext h) hlt9
        have htb := fun w' (h : Ext w w') => texts_any lb i a n cap H w' hn (by omega) hcap (hH.ext h) hlt9
        have hn0 : climbB H la i n = climbB H lb i n → 0 < n := fun h => by
          rcases Nat.eq_zero_or_pos n with h' | h'
          · subst h'; exact absurd h hne
          · exact h'
        have hl1 := length_textsC H la i n
        have hl2 := length_textsC H lb i n
        generalize climbB H la i n = X at *
        generalize climbB H lb i n = Y at *
        generalize textsC H la i n = ta at *
        generalize textsC H lb i n = tb at *
        replace hca := hide hca
        replace hcb := hide hcb
        replace hta := hide hta
        replace htb := hide htb
        replace hmeet := hide hmeet
        replace hn0 := hide hn0
        replace hlen := hide hlen
        replace hl1 := hide hl1
        replace hl2 := hide hl2
        cases hXY : bsEq X Y
        · go_enter Try.func8, Try.ntmps8
          go_wp2_with (first
            | (go_at_call 26; (with_reducible refine (hca.out _ hx1).mono ?_); rintro r w2 ⟨rfl, hx2⟩; have hx3 := hx2.then (ext_alloc w2 (.cells (bcells X) 28)); have r6 := rowAt_ext hx3 r5; have r7 := rowAt_whole (heap_alloc_new w2 (.cells (bcells X) 28)) (size_bcells X); have hx3 := hx1.then hx3)
            | (go_at_call 26; (with_reducible refine (hcb.out _ hx3).mono ?_); rintro r w4 ⟨rfl, hx4⟩; have hg4 := lt_of_row (rowAt_ext hx4 r7); have r8 := rowAt_ext hx4 r7)
            | (go_at_call 25; (with_reducible refine (known07_any _).mono ?_); rintro r w7 ⟨rfl, hx7⟩))
          go_ret
          exact ⟨rfl, hx3.then (hx4.then ((ext_alloc w4 _).then hx7))⟩
        · have hXYe : X = Y := by rw [bsEq_iff] at hXY; exact hXY
          obtain ⟨i0, k0, hik, hk0, hs, hnq⟩ := hmeet.out hXYe
          have hn1 := hn0.out hXYe
          obtain ⟨i1, hi1, hz0, hz1, hz2⟩ := info_parts info_bytes
          clear hmeet hn0 hXYe
          replace hs := hide hs
          replace hnq := hide hnq
          go_enter Try.func8, Try.ntmps8
          go_wp2_with (first
            | (go_at_call 26; (with_reducible refine (hca.out _ hx1).mono ?_); rintro r w2 ⟨rfl, hx2⟩; have hx3 := hx2.then (ext_alloc w2 (.cells (bcells X) 28)); have r6 := rowAt_ext hx3 r5; have r4b := rowAt_ext hx3 r4; have r7 := rowAt_whole (heap_alloc_new w2 (.cells (bcells X) 28)) (size_bcells X); have hx3 := hx1.then hx3)
            | (go_at_call 26; (with_reducible refine (hcb.out _ hx3).mono ?_); rintro r w4 ⟨rfl, hx4⟩; have hg4 := lt_of_row (rowAt_ext hx4 r7); have r8 := rowAt_ext hx4 r7))
          have hx5 := hx4.then (ext_alloc w4 (.cells (bcells Y) 28))
          have q4 := rowAt_ext hx5 r4b
          have q5 := rowAt_ext hx5 r6
          have hxW := hx3.then hx5
          generalize w4.alloc (.cells (bcells Y) 28) = W at *
          have hxD := hxW.then (ext_drew W)
          have h63 : n + n ≤ maxLen := by unfold maxLen; omega
          have hby : (n + n) * 24 ≤ 140737488355328 := by omega
          clear r4 r5 r4b r6 r7 r8 hstH hca hcb hx1 hx2 hx3 hx4 hx5 hgA hgB hg4
          go_region_law (first
            | (refine step_append_lies _ rfl _ _ 22 rfl W.heap.size 25 i1 (.slice none 0 0) 1 24 Try.underlying22 hi1 hz0 hz1 hz2 rfl (by decide) (.slice (some ⟨g1, 0, none⟩) n cp1) n L1 (by simp [Act.eval, Act.put]) hown1b ⟨g2, 0, none⟩ n cp2 L2 (by simp [Act.eval, Act.put]) hl2b hcl2.out hon2.out hn1 h63 hby hsz6 _ rfl ?_; intro g7 cp7 w7 hown7 hgrow7 hat7 hlt7; have hsA := hsl1b.grown hgrow7 hat7; have hsB := (hsl2b.grown hgrow7 hat7).down hlo; have hpi := hide (pieces_own hown7 (hsA.app hsB) (by rw [List.length_append, hl1.out, hl2.out])); have hx7 := ext_grown hx6 hgrow7 (fun k hk => Nat.le_trans hxD.size (hown1b.lt k hk).1); have hcp7 := own_caps hown7)
            | (go_simp; go_at_call 29; (with_reducible refine (hta.out _ hxD).mono ?_); rintro r w5 ⟨⟨v1, L1, rfl, hown1, hsl1⟩, hx5⟩; obtain ⟨g1, cp1, rfl, _, _⟩ := hown1.form hn1; have q5b := rowAt_ext ((ext_drew W).then hx5) q5; have hx5 := hxD.then hx5)
            | (go_simp; go_at_call 29; (with_reducible refine (htb.out _ hx5).mono ?_); rintro r w6 ⟨⟨v2, L2, rfl, hown2, hsl2⟩, hx6⟩; obtain ⟨g2, cp2, rfl, _, _⟩ := hown2.form hn1; have hown1b := own_ext hx6 hown1; have hsl1b := hsl1.ext hx6; have hsl2b := hsl2.other (row' := some g1) (fun k hk => by obtain rfl := Option.some.inj hk; exact (hown1.lt _ rfl).2); have hcl2 := hide (hown2.cells rfl); have hon2 := hide hsl2.one; have hl2b := hown2.1; have hlo := (hown1.lt g1 rfl).1; have hlo : W.heap.size ≤ w5.heap.size := Nat.le_trans hlo (Nat.le_of_lt (hown1.lt g1 rfl).2); have hsz6 : W.heap.size ≤ w6.heap.size := Nat.le_trans hlo hx6.size; have hx6 := hx5.then hx6)
            | (go_simp; go_at_call 28; (with_reducible refine (clash_any (some ⟨g7, 0, none⟩) (n + n) cp7 (ta ++ tb) _ hcp7.1 hcp7.2 (by omega) hpi.out (fun k hk => by rw [hlen.out k hk]; omega) i0 k0 hik hk0 hs.out hnq.out).mono ?_); rintro r w8 ⟨rfl, hx8⟩; have hx8 := hx7.then hx8))
          all_goals
            go_wp2_with fail
            go_ret
            exact ⟨rfl, hx8⟩
      · have hca := fun w' => climb_no la i a n cap w' hm
        have hcb := fun w' => climb_no lb i a n cap w' hm
        replace hca := hide hca
        replace hcb := hide hcb
        go_enter Try.func8, Try.ntmps8
        go_wp2_with (first
          | (go_at_call 26; (with_reducible refine (hca.out _).mono ?_); rintro r w2 ⟨rfl, hx2⟩; have r6 := rowAt_ext (hx2.then (ext_alloc w2 (.cells (bcells (zeros 32)) 28))) r5)
          | (go_at_call 26; (with_reducible refine (hcb.out _).mono ?_); rintro r w4 ⟨rfl, hx4⟩)
          | (go_at_call 25; (with_reducible refine (known07_any _).mono ?_); rintro r w7 ⟨rfl, hx7⟩))
        go_ret
        exact ⟨rfl, hx1.then (hx2.then ((ext_alloc w2 _).then (hx4.then ((ext_alloc w4 _).then hx7))))⟩
    · go_enter Try.func8, Try.ntmps8
      go_wp2_with (go_at_call 25; (with_reducible refine (known07_any _).mono ?_); rintro r w7 ⟨rfl, hx7⟩)
      go_ret
      exact ⟨rfl, hx1.then hx7⟩
end Go.Proofs.Ytldcaoclimcahaa
