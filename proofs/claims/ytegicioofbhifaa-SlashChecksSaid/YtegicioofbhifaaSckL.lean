/- The walk of the law on what is evidence. -/
import Derived.Test.YtegicioofbhifaaSckC
namespace Go.Proofs.Ytegicioofbhifaa
open Go.ChangeShapes Go.WideShapes Go.ChangeAt Go.RowKit Go.Joins
set_option linter.unusedVariables false
set_option linter.unusedSimpArgs false
set_option maxRecDepth 100000

theorem exec_EvL (ρ : Operand → Value) (d : Option Tmp) (x : Operand) (t : TypeId) (p : String) (af : Array Edge) (gd : Option (Nat × Bool)) (w : World) : (execOp ρ ⟨d, .load 52 x, t, p, af, gd⟩).run Try.prog w = loadStep Try.prog 52 (ρ x) w := exec_load 52 ρ d x t p af gd w
theorem step_EvL (w : World) (g o : Nat) : loadStep Try.prog 52 (.pointer (some ⟨g, o, none⟩)) w = match rowAt w g o 168 with | some cs => .ok (.value (.agg cs)) w | none => ((loadVar 52 ⟨g, o, none⟩).run Try.prog w).andThen fun a w' => .ok (.value a) w' := loadStep_row w g o 52 168 _ Try.underlying52 rfl (by kernel_rfl)
attribute [local go_sem ↓] exec_Vote step_Vote exec_HashC step_HashC exec_EvL step_EvL
attribute [local go_sem] rowAt_new rowAt_old rowAt_drew size_evCells ev_whole
set_option maxHeartbeats 16000000 in
theorem slashChecks_walk (e : Ev) (ca cb : List UInt8) (w : World) (ha : SigIn w e.a ca) (hb : SigIn w e.b cb) (na : 0 ≤ e.a.se ∧ 0 ≤ e.a.te) (nb : 0 ≤ e.b.se ∧ 0 ≤ e.b.te) :
    Calls Try.prog 5 #[.agg (evCells e)] w fun r w' => r = .returned (.bool true) ∧ Ext w w' := by
  have hE := evAt_new w e
  have hx := ext_alloc w (.cells (evCells e) 52)
  have r0 := hE.row
  have a0 := hE.a
  have b0 := hE.b
  have k0 := hE.key
  have sa0 := hE.sa
  have sb0 := hE.sb
  by_cases h1 : 5000 < e.a.sl
  · have d1 : decide ((5000 : Int) < (e.a.sl : Nat)) = true := decide_eq_true (by omega)
    have d1' : (5000 : Int) < (e.a.sl : Nat) := by omega
    go_enter Try.func5, Try.ntmps5
    go_wp2_with (go_at_call 20; (with_reducible refine (known14 _).mono ?_); rintro r wk ⟨rfl, hxk⟩)
    go_ret
    exact ⟨rfl, hx.then hxk⟩
  · have d1 : decide ((5000 : Int) < (e.a.sl : Nat)) = false := decide_eq_false (by omega)
    have d1' : ¬ (5000 : Int) < (e.a.sl : Nat) := by omega
    by_cases h2 : 5000 < e.b.sl
    · have d2 : decide ((5000 : Int) < (e.b.sl : Nat)) = true := decide_eq_true (by omega)
      have d2' : (5000 : Int) < (e.b.sl : Nat) := by omega
      go_enter Try.func5, Try.ntmps5
      go_wp2_with (go_at_call 20; (with_reducible refine (known14 _).mono ?_); rintro r wk ⟨rfl, hxk⟩)
      go_ret
      exact ⟨rfl, hx.then hxk⟩
    · have d2 : decide ((5000 : Int) < (e.b.sl : Nat)) = false := decide_eq_false (by omega)
      have d2' : ¬ (5000 : Int) < (e.b.sl : Nat) := by omega
      clear h1 h2
      have hCk := fun (w' : World) (h : Ext w w') => slashCheck_any e ca cb w' (ha.ext h) (hb.ext h) na nb
      have hMa := fun w' => refMayVote_any e.a w'
      have hMb := fun w' => refMayVote_any e.b w'
      have hBr := fun w' => refBreaks_any e.a e.b w'
      cases h1 : mayB e.a
      · rw [h1] at hMa
        have hr : evE e ca cb = 2 := by simp [evE, h1]
        rw [hr] at hCk
        replace hMa := hide hMa
        replace hMb := hide hMb
        replace hBr := hide hBr
        replace hCk := hide hCk
        clear hr h1
        go_enter Try.func5, Try.ntmps5
        go_wp2_with (first | (go_at_call 21; (with_reducible refine (hCk.out _ hx).mono ?_); rintro r w1 ⟨rfl, hx1⟩; have hE1 := hE.ext hx1; have r1 := hE1.row; have a1 := hE1.a; have b1 := hE1.b; have k1 := hE1.key; have hx1' := hx.then hx1) | (go_at_call 22; (with_reducible refine (hMa.out _).mono ?_); rintro r w2 ⟨rfl, hx2⟩; have hE2 := hE1.ext hx2; have r2 := hE2.row; have a2 := hE2.a; have b2 := hE2.b; have k2 := hE2.key; have hx2' := hx1'.then hx2) | (go_at_call 20; (with_reducible refine (known14 _).mono ?_); rintro r wk ⟨rfl, hxk⟩))
        go_ret
        exact ⟨rfl, hx2'.then hxk⟩
      · rw [h1] at hMa
        cases h2 : mayB e.b
        · rw [h2] at hMb
          have hr : evE e ca cb = 2 := by simp [evE, h2]
          rw [hr] at hCk
          replace hMa := hide hMa
          replace hMb := hide hMb
          replace hBr := hide hBr
          replace hCk := hide hCk
          clear hr h1 h2
          go_enter Try.func5, Try.ntmps5
          go_wp2_with (first | (go_at_call 21; (with_reducible refine (hCk.out _ hx).mono ?_); rintro r w1 ⟨rfl, hx1⟩; have hE1 := hE.ext hx1; have r1 := hE1.row; have a1 := hE1.a; have b1 := hE1.b; have k1 := hE1.key; have hx1' := hx.then hx1) | (go_at_call 22; (with_reducible refine (hMa.out _).mono ?_); rintro r w2 ⟨rfl, hx2⟩; have hE2 := hE1.ext hx2; have r2 := hE2.row; have a2 := hE2.a; have b2 := hE2.b; have k2 := hE2.key; have hx2' := hx1'.then hx2) | (go_at_call 22; (with_reducible refine (hMb.out _).mono ?_); rintro r w3 ⟨rfl, hx3⟩; have hE3 := hE2.ext hx3; have r3 := hE3.row; have a3 := hE3.a; have b3 := hE3.b; have k3 := hE3.key; have hx3' := hx2'.then hx3) | (go_at_call 20; (with_reducible refine (known14 _).mono ?_); rintro r wk ⟨rfl, hxk⟩))
          go_ret
          exact ⟨rfl, hx3'.then hxk⟩
        · rw [h2] at hMb
          cases h3 : brB e.a e.b
          · rw [h3] at hBr
            have hr : evE e ca cb = 17 := by simp [evE, h1, h2, h3]
            rw [hr] at hCk
            replace hMa := hide hMa
            replace hMb := hide hMb
            replace hBr := hide hBr
            replace hCk := hide hCk
            clear hr h1 h2 h3
            go_enter Try.func5, Try.ntmps5
            go_wp2_with (first | (go_at_call 21; (with_reducible refine (hCk.out _ hx).mono ?_); rintro r w1 ⟨rfl, hx1⟩; have hE1 := hE.ext hx1; have r1 := hE1.row; have a1 := hE1.a; have b1 := hE1.b; have k1 := hE1.key; have hx1' := hx.then hx1) | (go_at_call 22; (with_reducible refine (hMa.out _).mono ?_); rintro r w2 ⟨rfl, hx2⟩; have hE2 := hE1.ext hx2; have r2 := hE2.row; have a2 := hE2.a; have b2 := hE2.b; have k2 := hE2.key; have hx2' := hx1'.then hx2) | (go_at_call 22; (with_reducible refine (hMb.out _).mono ?_); rintro r w3 ⟨rfl, hx3⟩; have hE3 := hE2.ext hx3; have r3 := hE3.row; have a3 := hE3.a; have b3 := hE3.b; have k3 := hE3.key; have hx3' := hx2'.then hx3) | (go_at_call 23; (with_reducible refine (hBr.out _).mono ?_); rintro r w4 ⟨rfl, hx4⟩; have hE4 := hE3.ext hx4; have r4 := hE4.row; have a4 := hE4.a; have b4 := hE4.b; have k4 := hE4.key; have hx4' := hx3'.then hx4) | (go_at_call 20; (with_reducible refine (known14 _).mono ?_); rintro r wk ⟨rfl, hxk⟩))
            go_ret
            exact ⟨rfl, hx4'.then hxk⟩
          · rw [h3] at hBr
            obtain ⟨ma, sa, ta, hva⟩ := may_is h1 na.1 na.2
            obtain ⟨mb, sb, tb, hvb⟩ := may_is h2 nb.1 nb.2
            have hSa := fun (w' : World) (h : Ext w w') => refSigned_any e.a ca ma sa ta hva e.k w' (ha.ext h)
            have hSb := fun (w' : World) (h : Ext w w') => refSigned_any e.b cb mb sb tb hvb e.k w' (hb.ext h)
            have hr : evE e ca cb = chkE (signedB e.a ca e.k && signedB e.b cb e.k) := by unfold chkE; simp [evE, h1, h2, h3]
            rw [hr] at hCk
            generalize signedB e.a ca e.k = pa at *
            generalize signedB e.b cb e.k = pb at *
            have e1 : chkE true = 0 := rfl
            have e2 : chkE false = 15 := rfl
            replace hMa := hide hMa
            replace hMb := hide hMb
            replace hBr := hide hBr
            replace hSa := hide hSa
            replace hSb := hide hSb
            clear hr h1 h2 h3 hva hvb
            cases pa <;> cases pb
            all_goals
              (first | (rw [show (true && true) = true from rfl, e1] at hCk) | (rw [show (true && false) = false from rfl, e2] at hCk) | (rw [show (false && true) = false from rfl, e2] at hCk) | (rw [show (false && false) = false from rfl, e2] at hCk))
              replace hCk := hide hCk
              clear e1 e2
              go_enter Try.func5, Try.ntmps5
              go_wp2_with (first
                | (go_at_call 21; (with_reducible refine (hCk.out _ hx).mono ?_); rintro r w1 ⟨rfl, hx1⟩; have hE1 := hE.ext hx1; have r1 := hE1.row; have a1 := hE1.a; have b1 := hE1.b; have k1 := hE1.key; have hx1' := hx.then hx1)
                | (go_at_call 22; (with_reducible refine (hMa.out _).mono ?_); rintro r w2 ⟨rfl, hx2⟩; have hE2 := hE1.ext hx2; have r2 := hE2.row; have a2 := hE2.a; have b2 := hE2.b; have k2 := hE2.key; have hx2' := hx1'.then hx2)
                | (go_at_call 22; (with_reducible refine (hMb.out _).mono ?_); rintro r w3 ⟨rfl, hx3⟩; have hE3 := hE2.ext hx3; have r3 := hE3.row; have a3 := hE3.a; have b3 := hE3.b; have k3 := hE3.key; have hx3' := hx2'.then hx3)
                | (go_at_call 23; (with_reducible refine (hBr.out _).mono ?_); rintro r w4 ⟨rfl, hx4⟩; have hE4 := hE3.ext hx4; have r4 := hE4.row; have a4 := hE4.a; have b4 := hE4.b; have k4 := hE4.key; have hx4' := hx3'.then hx4)
                | (go_at_call 24; (with_reducible refine (hSa.out _ hx4').mono ?_); rintro r w5 ⟨rfl, hx5⟩; have hE5 := hE4.ext hx5; have r5 := hE5.row; have a5 := hE5.a; have b5 := hE5.b; have k5 := hE5.key; have hx5' := hx4'.then hx5)
                | (go_at_call 24; (with_reducible refine (hSb.out _ hx5').mono ?_); rintro r w6 ⟨rfl, hx6⟩; have hx6' := hx5'.then hx6)
                | (go_at_call 20; (with_reducible refine (known14 _).mono ?_); rintro r wk ⟨rfl, hxk⟩))
              go_ret
              first | exact ⟨rfl, hx6'.then hxk⟩ | exact ⟨rfl, hx5'.then hxk⟩
section
variable {H : Type} {enc : TypeId × Value → H} {W : World} {v : Value} {d : DataW H} {p : List MemPlace} {base fuel : Nat} {spare : Nat → Bool} {held : Bool} {cs : List Value} {x : DataW H × List MemPlace}
theorem u64_ge {z : Int} (h : (Lit.int .u64 z).wf = true) : 0 ≤ z := by
  have hb : 0 ≤ z ∧ z ≤ 18446744073709551615 := by simpa [Lit.wf, IntKind.min, IntKind.max, IntKind.signed, IntKind.bits] using h
  exact hb.1
theorem open_Ev (h : DataW.trod enc Try.prog W base spare held fuel 52 cs = some x) : ∃ (e : Ev) (ca cb : List UInt8), cs = (evCells e).toList ∧ SigIn W e.a ca ∧ SigIn W e.b cb ∧ (0 ≤ e.a.se ∧ 0 ≤ e.a.te) ∧ (0 ≤ e.b.se ∧ 0 ≤ e.b.te) := by
  obtain ⟨hl, m, hf⟩ := trod_fields (fs := Try.prog.fieldsOf 52) (by kernel_rfl) h
  have hm : ((Try.prog.fieldsOf 52).toList.map fun f => (f.type, f.offset)) = [(23, 0), (50, 32), (50, 100)] := by kernel_rfl
  rw [hm] at hf
  have c0 : Try.prog.cellsOf 52 = 168 := by kernel_rfl
  have c1 : Try.prog.cellsOf 50 = 68 := by kernel_rfl
  have c2 : Try.prog.cellsOf 23 = 32 := by kernel_rfl
  obtain ⟨y1, h1⟩ := hf 0 _ _ rfl
  obtain ⟨y2, h2⟩ := hf 1 _ _ rfl
  obtain ⟨y3, h3⟩ := hf 2 _ _ rfl
  rw [c0] at hl
  rw [c2] at h1
  rw [c1] at h2 h3
  obtain ⟨n, hn⟩ := open_Bs Try.underlying23 Try.underlying5 (by kernel_rfl) (by kernel_rfl) h1
  obtain ⟨a, ca, hva, hsa, _, wa1, wa2⟩ := open_VtS h2
  obtain ⟨b, cb, hvb, hsb, _, wb1, wb2⟩ := open_VtS h3
  refine ⟨⟨n, a, b⟩, ca, cb, ?_, hsa, hsb, ⟨u64_ge wa1, u64_ge wa2⟩, ⟨u64_ge wb1, u64_ge wb2⟩⟩
  have a1 := parts2 (cs.drop 32) 68 68 (by simp; omega)
  have a3 := List.take_append_drop 32 cs
  have a4 : (cs.drop 32).drop 68 = cs.drop 100 := List.drop_drop
  rw [List.drop_zero, a4] at a1
  rw [List.drop_zero] at hn
  rw [← a3, a1, hn, hva, hvb]
  simp [evCells]
theorem ev_arg (ho : Value.okWide Try.prog W .any 0 52 v) (h : DataW.Trod enc Try.prog W 0 (fun _ => true) true 52 v d p) : ∃ (e : Ev) (ca cb : List UInt8), v = .agg (evCells e) ∧ SigIn W e.a ca ∧ SigIn W e.b cb ∧ (0 ≤ e.a.se ∧ 0 ≤ e.a.te) ∧ (0 ≤ e.b.se ∧ 0 ≤ e.b.te) := by
  obtain ⟨cs, rfl, _⟩ := okWide_struct Try.underlying52 ho
  obtain ⟨fuel, hf⟩ := h
  obtain ⟨e, ca, cb, hx, h1, h2, h3, h4⟩ := open_Ev hf
  exact ⟨e, ca, cb, congrArg Value.agg (Array.toList_inj.1 hx), h1, h2, h3, h4⟩
end
end Go.Proofs.Ytegicioofbhifaa
