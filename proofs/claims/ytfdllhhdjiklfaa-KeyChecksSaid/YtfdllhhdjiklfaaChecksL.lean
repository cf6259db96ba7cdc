/- The law on what checks: its walk. -/
import Derived.Test.YtfdllhhdjiklfaaRefK
import Derived.Test.YtfdllhhdjiklfaaKnown8
namespace Go.Proofs.Ytfdllhhdjiklfaa
open Go.RowKit
set_option linter.unusedVariables false
set_option maxRecDepth 100000
set_option linter.unusedSimpArgs false

attribute [local go_sem ↓] loadCells_blk
attribute [local go_sem] run_blkLoad rowAt_drew rowAt_old rowAt_new size_bcells bc_whole
set_option maxHeartbeats 8000000 in
theorem keyChecks_walk (root h : Bs 32) (i : Int) (a : Option Addr) (n cap : Nat) (c : List UInt8) (w : World) (hn : n ≤ cap) (hcap : cap ≤ maxLen) (hb : BytesIn w a n c) :
    Calls Try.prog 4 #[.agg (bcells root), .int .i64 i, .agg (bcells h), .slice a n cap] w fun r w' => r = .returned (.bool true) ∧ Ext w w' := by
  have hRt := heap_alloc2_old w (.cells (bcells root) 23) (.cells (bcells h) 23)
  have hHh := heap_alloc2_new w (.cells (bcells root) 23) (.cells (bcells h) 23)
  have hx := ext_two w (.cells (bcells root) 23) (.cells (bcells h) 23)
  have rR := rowAt_whole hRt (size_bcells root)
  have rH := rowAt_whole hHh (size_bcells h)
  have hbx := hb.ext hx
  have hnm : n ≤ maxLen := by omega
  have hlen := hb.1
  clear hRt hHh hb
  replace hbx := hide hbx
  replace hx := hide hx
  by_cases h1 : 3000 < n
  · have h1' : (3000 : Int) < n := by omega
    replace hlen := hide hlen
    go_enter Try.func4, Try.ntmps4
    go_wp2_with (go_at_call 9; (with_reducible refine (known08 _).mono ?_); rintro r w6 ⟨rfl, hx6⟩)
    go_ret
    exact ⟨rfl, hx.out.then hx6⟩
  · have h1' : ¬ (3000 : Int) < n := by omega
    by_cases h2 : i < 0 ∨ 16 ≤ i
    · have hC := fun w' => check_arg root h i a n cap w' h2
      replace hC := hide hC
      replace hlen := hide hlen
      by_cases h3 : i < 0
      · have d1 : decide (i < 0) = true := by simpa using h3
        go_enter Try.func4, Try.ntmps4
        go_wp2_with (first | (go_at_call 18; (with_reducible refine (hC.out _).mono ?_); rintro r w3 ⟨rfl, hx3⟩) | (go_at_call 9; (with_reducible refine (known08 _).mono ?_); rintro r w6 ⟨rfl, hx6⟩))
        go_ret
        exact ⟨rfl, hx.out.then (hx3.then hx6)⟩
      · have d1 : decide (i < 0) = false := by simpa using h3
        have d2 : decide ((15 : Int) < i) = true := by simp; omega
        go_enter Try.func4, Try.ntmps4
        go_wp2_with (first | (go_at_call 18; (with_reducible refine (hC.out _).mono ?_); rintro r w3 ⟨rfl, hx3⟩) | (go_at_call 9; (with_reducible refine (known08 _).mono ?_); rintro r w6 ⟨rfl, hx6⟩))
        go_ret
        exact ⟨rfl, hx.out.then (hx3.then hx6)⟩
    · obtain ⟨i, rfl⟩ := Int.eq_ofNat_of_zero_le (show 0 ≤ i by omega)
      have hi : i < 16 := by omega
      have d1 : decide ((i : Int) < 0) = false := by simp
      have d2 : decide ((15 : Int) < i) = false := by simp; omega
      have d3 : decide (15 < i) = false := by simp; omega
      clear h2
      by_cases h3 : n = 1216
      · subst h3
        have hC := fun w' hb' => check_any root h i hi a cap c w' hn hcap hb'
        have hV := fun w' hb' => refCheck_any root h i hi a cap c w' hn hb'
        generalize bsEq (rootC c i h) root = B at *
        replace hC := hide hC
        replace hV := hide hV
        replace hlen := hide hlen
        have e1 : chkE true = 0 := rfl
        have e2 : chkE false = 15 := rfl
        cases B
        · rw [e2] at hC
          clear e1 e2
          go_enter Try.func4, Try.ntmps4
          go_wp2_with (first | (go_at_call 18; (with_reducible refine (hC.out _ hbx.out).mono ?_); rintro r w3 ⟨rfl, hx3⟩; have rR3 := rowAt_ext hx3 rR; have rH3 := rowAt_ext hx3 rH; have hb3 := hide (hbx.out.ext hx3)) | (go_at_call 19; (with_reducible refine (hV.out _ hb3.out).mono ?_); rintro r w4 ⟨rfl, hx4⟩) | (go_at_call 9; (with_reducible refine (known08 _).mono ?_); rintro r w6 ⟨rfl, hx6⟩))
          go_ret
          exact ⟨rfl, hx.out.then (hx3.then (hx4.then hx6))⟩
        · rw [e1] at hC
          clear e1 e2
          go_enter Try.func4, Try.ntmps4
          go_wp2_with (first | (go_at_call 18; (with_reducible refine (hC.out _ hbx.out).mono ?_); rintro r w3 ⟨rfl, hx3⟩; have rR3 := rowAt_ext hx3 rR; have rH3 := rowAt_ext hx3 rH; have hb3 := hide (hbx.out.ext hx3)) | (go_at_call 19; (with_reducible refine (hV.out _ hb3.out).mono ?_); rintro r w4 ⟨rfl, hx4⟩) | (go_at_call 9; (with_reducible refine (known08 _).mono ?_); rintro r w6 ⟨rfl, hx6⟩))
          go_ret
          exact ⟨rfl, hx.out.then (hx3.then (hx4.then hx6))⟩
      · have h3' : ¬ (n : Int) = 1216 := by omega
        have hC := fun w' => check_bytes root h (i : Int) a n cap w' ⟨by omega, by omega⟩ h3 hnm
        replace hC := hide hC
        replace hlen := hide hlen
        go_enter Try.func4, Try.ntmps4
        go_wp2_with (first | (go_at_call 18; (with_reducible refine (hC.out _).mono ?_); rintro r w3 ⟨rfl, hx3⟩) | (go_at_call 9; (with_reducible refine (known08 _).mono ?_); rintro r w6 ⟨rfl, hx6⟩))
        go_ret
        exact ⟨rfl, hx.out.then (hx3.then hx6)⟩
end Go.Proofs.Ytfdllhhdjiklfaa
