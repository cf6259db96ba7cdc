/- The walk of the law on climbs. -/
import Derived.Test.YtldcaoclimcahaaKnown7
namespace Go.Proofs.Ytldcaoclimcahaa
open Go.RowKit
set_option linter.unusedVariables false
set_option linter.unusedSimpArgs false

attribute [local go_sem ↓] exec_store_Hash exec_build_H build_f0
attribute [local go_sem ↓] loadCells_blk equal_hash
attribute [local go_sem] run_blkLoad rowAt_drew rowAt_old rowAt_new bc_whole bsEq_self size_bcells
set_option maxHeartbeats 4000000 in
set_option maxRecDepth 100000 in
theorem treeClimbs_walk (leaf : Bs 32) (i : Int) (hi : -9223372036854775808 ≤ i ∧ i ≤ 9223372036854775807) (a : Option Addr) (n cap : Nat) (H : Nat → Bs 32) (w : World) (hn : n ≤ cap) (hcap : cap ≤ maxLen) (hH : HashesIn w a n H) :
    Calls Try.prog 7 #[.agg (bcells leaf), .int .i64 i, .slice a n cap] w fun r w' => r = .returned (.bool true) ∧ Ext w w' := by
  by_cases h20 : 20 < n
  · have h20' : (20 : Int) < n := by omega
    go_enter Try.func7, Try.ntmps7
    go_wp2_with (go_at_call 25; (with_reducible refine (known07_any _).mono ?_); rintro r w7 ⟨rfl, hx7⟩)
    go_ret
    exact ⟨rfl, (ext_alloc w _).then hx7⟩
  · have h20' : ¬ (20 : Int) < n := by omega
    have hstH : ∀ (w : World) (o : Bs 32), storeStep Try.prog 28 (.pointer (some ⟨w.heap.size, 0, none⟩)) (.agg (bcells o)) (w.alloc (.cells (bcells (zeros 32)) 28)) = .ok .skip (w.alloc (.cells (bcells o) 28)) := fun w o => store_new_H o w _ rfl _ (size_bcells _)
    rw [bcells_zeros] at hstH
    have hx1 := ext_alloc w (.cells (bcells leaf) 28)
    have hez := bsEq_self (zeros 32)
    by_cases hm : n ≤ 8 ∧ 0 ≤ i ∧ i < p2 n
    · obtain ⟨h8, h0, hlt⟩ := hm
      obtain ⟨i, rfl⟩ := Int.eq_ofNat_of_zero_le h0
      have hcl := climb_any leaf (i : Int) a n cap H (w.alloc (.cells (bcells leaf) 28)) hn hcap (hH.ext hx1) ⟨h8, h0, hlt⟩
      rw [Int.toNat_natCast] at hcl
      generalize hX : climbB H leaf i n = X at hcl
      have h8' : (n : Int) ≤ 8 := by omega
      have hd1 : decide ((n : Int) ≤ 8) = true := by simpa using h8'
      have hd2 : decide ((0 : Int) ≤ i) = true := by simp
      replace hcl := hide hcl
      replace hX := hide hX
      go_enter Try.func7, Try.ntmps7
      go_wp2_with (go_at_call 26; (with_reducible refine hcl.out.mono ?_); rintro r w2 ⟨rfl, hx2⟩)
      have r3 := rowAt_ext (hx2.then (ext_alloc w2 (.cells (bcells X) 28))) (rowAt_whole (heap_alloc_new w (.cells (bcells leaf) 28)) (size_bcells leaf))
      have r7 := rowAt_whole (heap_alloc_new w2 (.cells (bcells X) 28)) (size_bcells X)
      have hxW := hx1.then (hx2.then (ext_alloc w2 (.cells (bcells X) 28)))
      generalize w2.alloc (.cells (bcells X) 28) = W at *
      clear hstH
      go_loop [10, 11] (fun s10 s11 => ∃ k : Nat, k ≤ n ∧ s11 = .int .i64 k ∧ s10 = .int .i64 (p2 k : Int)) (fun _ s => (n - intOf s).toNat)
      case atStart => exact ⟨0, by omega, rfl, rfl⟩
      case round =>
          obtain ⟨k, hk, rfl, rfl⟩ := hrel
          by_cases hlk : k < n
          · (have hlk' : (k : Int) < n := by omega); (have hps := p2_succ k); (have hp8 := p2_le (k + 1) (by omega)); (have hpp := p2_pos k); (have e1 : IntKind.i64.wrap (2 * (p2 k : Int)) = p2 (k + 1) := by rw [IntKind.wrap_i64]; omega); (have e2 : 2 * (p2 k : Int) = p2 (k + 1) := by omega); (replace hps := hide hps); (go_wp2_with fail); (refine ⟨⟨k + 1, by omega, by go_num, rfl⟩, by simp [intOf]; omega⟩)
          · obtain rfl : k = n := by omega
            have hlk' : ¬ (k : Int) < k := by omega
            have hd3 : decide ((i : Int) < p2 k) = true := by simpa using hlt
            have hrc := fun w' (h : Ext w w') => refClimb_any leaf i a k cap H w' hn hcap (hH.ext h) (by have := p2_le k h8; omega)
            rw [hX.out] at hrc
            have heq := bsEq_self X
            have hxD := hxW.then (ext_drew W)
            replace hrc := hide hrc
            go_wp2_with fail
            go_region_with (first | (go_at_call 27; (with_reducible refine (hrc.out _ hxD).mono ?_); rintro r w4 ⟨rfl, hx4⟩; have r9 := rowAt_ext ((ext_drew W).then hx4) r7; have hx4 := hxD.then hx4) | (go_at_call 25; (with_reducible refine (known07_any _).mono ?_); rintro r w7 ⟨rfl, hx7⟩; have hx7 := hx4.then hx7))
            all_goals
              go_wp2_with fail
              go_ret
              exact ⟨rfl, hx7⟩
    · have hcl := climb_no leaf i a n cap (w.alloc (.cells (bcells leaf) 28)) hm
      replace hcl := hide hcl
      by_cases h8 : 8 < n
      · have h8' : ¬ (n : Int) ≤ 8 := by omega
        have hd1 : decide ((n : Int) ≤ 8) = false := by simpa using h8'
        go_enter Try.func7, Try.ntmps7
        go_wp2_with (first | (go_at_call 26; (with_reducible refine hcl.out.mono ?_); rintro r w2 ⟨rfl, hx2⟩) | (go_at_call 25; (with_reducible refine (known07_any _).mono ?_); rintro r w7 ⟨rfl, hx7⟩))
        go_ret
        exact ⟨rfl, hx1.then (hx2.then ((ext_alloc w2 _).then hx7))⟩
      · have h8' : (n : Int) ≤ 8 := by omega
        have hd1 : decide ((n : Int) ≤ 8) = true := by simpa using h8'
        by_cases h0 : i < 0
        · have h0' : ¬ 0 ≤ i := by omega
          have hd2 : decide ((0 : Int) ≤ i) = false := by simpa using h0'
          go_enter Try.func7, Try.ntmps7
          go_wp2_with (first | (go_at_call 26; (with_reducible refine hcl.out.mono ?_); rintro r w2 ⟨rfl, hx2⟩) | (go_at_call 25; (with_reducible refine (known07_any _).mono ?_); rintro r w7 ⟨rfl, hx7⟩))
          go_ret
          exact ⟨rfl, hx1.then (hx2.then ((ext_alloc w2 _).then hx7))⟩
        · have h0' : 0 ≤ i := by omega
          have hd2 : decide ((0 : Int) ≤ i) = true := by simpa using h0'
          have hge : ¬ i < p2 n := fun h => hm ⟨by omega, by omega, h⟩
          go_enter Try.func7, Try.ntmps7
          go_wp2_with (go_at_call 26; (with_reducible refine hcl.out.mono ?_); rintro r w2 ⟨rfl, hx2⟩)
          have r7 := rowAt_whole (heap_alloc_new w2 (.cells (bcells (zeros 32)) 28)) (size_bcells (zeros 32))
          have hxW := hx1.then (hx2.then (ext_alloc w2 (.cells (bcells (zeros 32)) 28)))
          generalize w2.alloc (.cells (bcells (zeros 32)) 28) = W at *
          clear hstH
          go_loop [10, 11] (fun s10 s11 => ∃ k : Nat, k ≤ n ∧ s11 = .int .i64 k ∧ s10 = .int .i64 (p2 k : Int)) (fun _ s => (n - intOf s).toNat)
          case atStart => exact ⟨0, by omega, rfl, rfl⟩
          case round =>
              obtain ⟨k, hk, rfl, rfl⟩ := hrel
              by_cases hlk : k < n
              · (have hlk' : (k : Int) < n := by omega); (have hps := p2_succ k); (have hp8 := p2_le (k + 1) (by omega)); (have hpp := p2_pos k); (have e1 : IntKind.i64.wrap (2 * (p2 k : Int)) = p2 (k + 1) := by rw [IntKind.wrap_i64]; omega); (have e2 : 2 * (p2 k : Int) = p2 (k + 1) := by omega); (replace hps := hide hps); (go_wp2_with fail); (refine ⟨⟨k + 1, by omega, by go_num, rfl⟩, by simp [intOf]; omega⟩)
              · obtain rfl : k = n := by omega
                have hlk' : ¬ (k : Int) < k := by omega
                have hge2 : (p2 k : Int) ≤ i := by omega
                have hd3 : decide (i < (p2 k : Int)) = false := by simpa using hge2
                go_wp2_with (go_at_call 25; (with_reducible refine (known07_any _).mono ?_); rintro r w7 ⟨rfl, hx7⟩)
                go_ret
                exact ⟨rfl, hxW.then hx7⟩
end Go.Proofs.Ytldcaoclimcahaa
