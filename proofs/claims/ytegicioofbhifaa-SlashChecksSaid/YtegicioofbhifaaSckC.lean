/- slash.Check. -/
import Derived.Test.YtegicioofbhifaaSckV
import Derived.Test.YtegicioofbhifaaBuildE
import Derived.Test.YtegicioofbhifaaKnown14
namespace Go.Proofs.Ytegicioofbhifaa
open Go.RowKit
set_option linter.unusedVariables false
set_option linter.unusedSimpArgs false
set_option maxRecDepth 100000

theorem setsA_two (A B Z : Array Value) (hz : Z.size = A.size + B.size) : setsA A.size B (setsA 0 A Z) = A ++ B := by
  have h := setsA_three A B #[] Z (by simp; omega)
  rw [Array.append_empty] at h
  exact h
theorem run_buildSlice_two {P : Program} (w : World) (t e n : Nat) (z : Value) (A B : Array Value) (ht : P.underlying t = some (.slice e)) (hi : (P.info? e).map (fun i => (i.zero, i.size)) = some (some z, n))
    (hn : 0 < n) (hm : 2 * n ≤ 2 ^ 24) (hA : A.size = n) (hB : B.size = n) : (Instr.buildSlice t 2 #[(0, .agg A), (1, .agg B)]).run P w = .ok (.slice (some ⟨w.heap.size, 0, none⟩) 2 2) (w.alloc (.cells (A ++ B) e)) := by
  cases hq : P.info? e with
  | none => simp [hq] at hi
  | some i =>
    simp [hq] at hi
    obtain ⟨hz, hs⟩ := hi
    have h1 : (sizeOf e).run P w = .ok n w := by simp [sizeOf, typeInfo, hq, hs]
    have h2 : (zeroValue e).run P w = .ok z w := by simp [zeroValue, typeInfo, hq, hz]
    have h3 : Instr.fill (fun i => some (i * n, n)) ((Array.range (2 * n)).map (z.cells[· % z.cells.size]!)) [(0, .agg A), (1, .agg B)] = some (A ++ B) := by
      rw [fill_step (off := 0) (by rw [hA, Nat.zero_mul]) (by simp [hA]; omega), fill_step (off := A.size) (by rw [hA, hB, Nat.one_mul]) (by rw [size_setsA]; simp [hA, hB]; omega), Instr.fill, setsA_two A B _ (by simp [hA, hB]; omega)]
    unfold Instr.buildSlice
    simp only [Sem.run_bind, run_underlying ht, Result.andThen_ok, h1, h2]
    rw [if_neg (by omega), if_neg (by omega)]
    simp only [Sem.run_bind, Result.andThen_ok, h2, Sem.run_pure]
    simp only [h3]
    rfl
theorem exec_slice_V (ρ : Operand → Value) (d : Option Tmp) (ps : Array (Nat × Operand)) (t : TypeId) (p : String) (af : Array Edge) (gd : Option (Nat × Bool)) (w : World) : (execOp ρ ⟨d, .buildSlice 104 2 ps, t, p, af, gd⟩).run Try.prog w = sliceStep Try.prog 104 2 (ps.map fun x => (x.1, ρ x.2)) w := exec_buildSlice 104 2 ρ d ps t p af gd w
theorem slice_V (w : World) (a b : Vt) : sliceStep Try.prog 104 2 #[(0, .agg (vtCells a)), (1, .agg (vtCells b))] w = .ok (.value (.slice (some ⟨w.heap.size, 0, none⟩) 2 2)) (w.alloc (.cells (vtCells a ++ vtCells b) 50)) := by
  unfold sliceStep
  rw [run_buildSlice_two w 104 50 68 (.agg (vtCells ⟨0, 0, zeros 32, 0, zeros 32, none, 0, 0⟩)) (vtCells a) (vtCells b) Try.underlying104 (by kernel_rfl) (by decide) (by decide) (size_vtCells a) (size_vtCells b)]
  rfl
/-- Evidence in a block. -/
structure EvAt (w : World) (g : Nat) (e : Ev) : Prop where
  row : rowAt w g 0 168 = some (evCells e)
theorem EvAt.ext {w w' : World} {g : Nat} {e : Ev} (h : EvAt w g e) (hx : Ext w w') : EvAt w' g e := ⟨rowAt_ext hx h.row⟩
theorem EvAt.a {w : World} {g : Nat} {e : Ev} (h : EvAt w g e) : rowAt w g 32 68 = some (vtCells e.a) := by
  have := rowAt_part h.row 32 68 (by omega) (size_evCells e); rwa [ev_a] at this
theorem EvAt.b {w : World} {g : Nat} {e : Ev} (h : EvAt w g e) : rowAt w g 100 68 = some (vtCells e.b) := by
  have := rowAt_part h.row 100 68 (by omega) (size_evCells e); rwa [ev_b] at this
theorem EvAt.key {w : World} {g : Nat} {e : Ev} (h : EvAt w g e) : rowAt w g 0 32 = some (bcells e.k) := by
  have := rowAt_part h.row 0 32 (by omega) (size_evCells e); rwa [ev_key] at this
theorem EvAt.sa {w : World} {g : Nat} {e : Ev} (h : EvAt w g e) : w.cell? ⟨g, 99, none⟩ = some (.slice e.a.sa e.a.sl e.a.sc) := by
  have := cell_of_rowAt' h.a 67 (by omega); rwa [vt_sig] at this
theorem EvAt.sb {w : World} {g : Nat} {e : Ev} (h : EvAt w g e) : w.cell? ⟨g, 167, none⟩ = some (.slice e.b.sa e.b.sl e.b.sc) := by
  have := cell_of_rowAt' h.b 67 (by omega); rwa [vt_sig] at this
theorem evAt_new (w : World) (e : Ev) : EvAt (w.alloc (.cells (evCells e) 52)) w.heap.size e := ⟨rowAt_blk (heap_alloc_new w _) (size_evCells e)⟩
/-- What slash.Check says of evidence. -/
def evE (e : Ev) (ca cb : List UInt8) : Int := if mayB e.a && mayB e.b then (if brB e.a e.b then (if signedB e.a ca e.k && signedB e.b cb e.k then 0 else 15) else 17) else 2
theorem pair_a (a b : Vt) : (vtCells a ++ vtCells b).extract 0 68 = vtCells a := by
  have := extract_mid #[] (vtCells a) (vtCells b) 0 68 rfl (by rw [size_vtCells])
  simpa using this
theorem pair_b (a b : Vt) : (vtCells a ++ vtCells b).extract 68 136 = vtCells b := by
  have := extract_mid (vtCells a) (vtCells b) #[] 68 136 (size_vtCells a) (by rw [size_vtCells])
  simpa using this
theorem exec_HashC (ρ : Operand → Value) (d : Option Tmp) (x : Operand) (t : TypeId) (p : String) (af : Array Edge) (gd : Option (Nat × Bool)) (w : World) : (execOp ρ ⟨d, .load 23 x, t, p, af, gd⟩).run Try.prog w = loadStep Try.prog 23 (ρ x) w := exec_load 23 ρ d x t p af gd w
theorem step_HashC (w : World) (g o : Nat) : loadStep Try.prog 23 (.pointer (some ⟨g, o, none⟩)) w = match rowAt w g o 32 with | some cs => .ok (.value (.agg cs)) w | none => ((loadVar 23 ⟨g, o, none⟩).run Try.prog w).andThen fun a w' => .ok (.value a) w' := loadStep_row w g o 23 32 _ Try.underlying23 rfl (by kernel_rfl)
attribute [local go_sem ↓] exec_Vote step_Vote exec_HashC step_HashC exec_store_Vote store_Vote zero_Vote exec_slice_V slice_V
attribute [local go_sem] rowAt_new rowAt_old rowAt_drew size_vtCells vt_whole
set_option maxHeartbeats 16000000 in
theorem slashCheck_any (e : Ev) (ca cb : List UInt8) (w : World) (ha : SigIn w e.a ca) (hb : SigIn w e.b cb) (na : 0 ≤ e.a.se ∧ 0 ≤ e.a.te) (nb : 0 ≤ e.b.se ∧ 0 ≤ e.b.te) :
    Calls Try.prog 21 #[.agg (evCells e)] w fun r w' => r = .returned (.int .i64 (evE e ca cb)) ∧ Ext w w' := by
  have hE := evAt_new w e
  have hx := ext_alloc w (.cells (evCells e) 52)
  have a0 := hE.a
  have b0 := hE.b
  have k0 := hE.key
  have hMa := fun w' => mayVote_any e.a w'
  have hMb := fun w' => mayVote_any e.b w'
  have hBr := fun w' => breaks_any e.a e.b w'
  replace hBr := hide hBr
  cases h1 : mayB e.a
  · rw [h1] at hMa
    have hr : evE e ca cb = 2 := by simp [evE, h1]
    rw [hr]
    replace hMa := hide hMa
    replace hMb := hide hMb
    clear hr h1
    go_enter Try.func21, Try.ntmps21
    go_wp2_with (go_at_call 47; (with_reducible refine (hMa.out _).mono ?_); rintro r w1 ⟨rfl, hx1⟩)
    go_ret
    exact ⟨rfl, hx.then hx1⟩
  · rw [h1] at hMa
    cases h2 : mayB e.b
    · rw [h2] at hMb
      have hr : evE e ca cb = 2 := by simp [evE, h2]
      rw [hr]
      replace hMa := hide hMa
      replace hMb := hide hMb
      clear hr h1 h2
      go_enter Try.func21, Try.ntmps21
      go_wp2_with (first
        | (go_at_call 47; (with_reducible refine (hMa.out _).mono ?_); rintro r w1 ⟨rfl, hx1⟩; have hE1 := hE.ext hx1; have a1 := hE1.a; have b1 := hE1.b; have k1 := hE1.key)
        | (go_at_call 47; (with_reducible refine (hMb.out _).mono ?_); rintro r w2 ⟨rfl, hx2⟩))
      go_ret
      exact ⟨rfl, hx.then (hx1.then hx2)⟩
    · rw [h2] at hMb
      cases h3 : brB e.a e.b
      · rw [h3] at hBr
        have hr : evE e ca cb = 17 := by simp [evE, h1, h2, h3]
        rw [hr]
        replace hMa := hide hMa
        replace hMb := hide hMb
        clear hr h1 h2 h3
        go_enter Try.func21, Try.ntmps21
        go_wp2_with (first
          | (go_at_call 47; (with_reducible refine (hMa.out _).mono ?_); rintro r w1 ⟨rfl, hx1⟩; have hE1 := hE.ext hx1; have a1 := hE1.a; have b1 := hE1.b; have k1 := hE1.key)
          | (go_at_call 47; (with_reducible refine (hMb.out _).mono ?_); rintro r w2 ⟨rfl, hx2⟩; have hE2 := hE1.ext hx2; have a2 := hE2.a; have b2 := hE2.b; have k2 := hE2.key)
          | (go_at_call 45; (with_reducible refine (hBr.out _).mono ?_); rintro r w3 ⟨rfl, hx3⟩))
        go_ret
        exact ⟨rfl, hx.then (hx1.then (hx2.then hx3))⟩
      · rw [h3] at hBr
        obtain ⟨ma, sa, ta, hva⟩ := may_is h1 na.1 na.2
        obtain ⟨mb, sb, tb, hvb⟩ := may_is h2 nb.1 nb.2
        have hSa := fun (w' : World) (h : Ext w w') => signed_any e.a ca ma sa ta hva h1 e.k w' (ha.ext h)
        have hSb := fun (w' : World) (h : Ext w w') => signed_any e.b cb mb sb tb hvb h2 e.k w' (hb.ext h)
        have hr : evE e ca cb = chkE (signedB e.a ca e.k && signedB e.b cb e.k) := by unfold chkE; simp [evE, h1, h2, h3]
        rw [hr]
        generalize signedB e.a ca e.k = pa at *
        generalize signedB e.b cb e.k = pb at *
        have e1 : chkE true = 0 := rfl
        have e2 : chkE false = 15 := rfl
        replace hMa := hide hMa
        replace hMb := hide hMb
        replace hSa := hide hSa
        replace hSb := hide hSb
        clear hr h1 h2 h3 hva hvb
        go_enter Try.func21, Try.ntmps21
        go_wp2_with (first
          | (go_at_call 47; (with_reducible refine (hMa.out _).mono ?_); rintro r w1 ⟨rfl, hx1⟩; have hE1 := hE.ext hx1; have a1 := hE1.a; have b1 := hE1.b; have k1 := hE1.key)
          | (go_at_call 47; (with_reducible refine (hMb.out _).mono ?_); rintro r w2 ⟨rfl, hx2⟩; have hE2 := hE1.ext hx2; have a2 := hE2.a; have b2 := hE2.b; have k2 := hE2.key)
          | (go_at_call 45; (with_reducible refine (hBr.out _).mono ?_); rintro r w3 ⟨rfl, hx3⟩; have hE3 := hE2.ext hx3; have a3 := hE3.a; have b3 := hE3.b; have k3 := hE3.key))
        have hx3' := hx.then (hx1.then (hx2.then hx3))
        have hxp := ext_alloc w3 (.cells (vtCells e.a ++ vtCells e.b) 50)
        have hbk := heap_alloc_new w3 (.cells (vtCells e.a ++ vtCells e.b) 50)
        have hpr := rowAt_blk hbk (show (vtCells e.a ++ vtCells e.b).size = 136 by simp [size_vtCells])
        have hp1 := rowAt_part hpr 0 68 (by omega) (by simp [size_vtCells])
        have hp2 := rowAt_part hpr 68 68 (by omega) (by simp [size_vtCells])
        rw [pair_a] at hp1
        rw [pair_b] at hp2
        have hk3 := rowAt_ext hxp k3
        have hxw := hx3'.then hxp
        clear hbk hpr a0 b0 k0 a1 b1 k1 a2 b2 k2 a3 b3 k3 hE1 hE2 hE3 hE
        generalize w3.alloc (.cells (vtCells e.a ++ vtCells e.b) 50) = W at *
        obtain ⟨N, hN⟩ : ∃ N, N = w3.heap.size := ⟨_, rfl⟩
        rw [← hN] at hp1 hp2 ⊢
        replace hN := hide hN
        go_loopw [30] (fun s30 wr => ∃ i : Nat, i ≤ 2 ∧ s30 = .int .i64 i ∧ (1 ≤ i → pa = true) ∧ (2 ≤ i → pb = true) ∧ Ext W wr) (fun s _ => (2 - intOf s).toNat)
        case atStart => exact ⟨0, by omega, rfl, fun h => absurd h (by omega), fun h => absurd h (by omega), Below.refl _ _⟩
        case round =>
          obtain ⟨i, hi, rfl, hpa, hpb, hxr⟩ := hrel
          obtain ⟨w4, rfl⟩ : ∃ v, v = wr := ⟨_, rfl⟩
          have hxw4 := hxw.then hxr
          have hk4 := rowAt_ext hxr hk3
          have hq1 := rowAt_ext hxr hp1
          have hq2 := rowAt_ext hxr hp2
          rcases (by omega : i = 0 ∨ i = 1 ∨ i = 2) with rfl | rfl | rfl
          · have hxv := ext_alloc w4 (.cells (vtCells e.a) 50)
            have hk5 := rowAt_ext hxv hk4
            have hS1 := hide (hSa.out _ (hxw4.then hxv))
            replace hpa := hide hpa
            replace hpb := hide hpb
            cases pa
            · rw [e2] at hS1
              go_wp2_with (go_at_call 48; (with_reducible refine hS1.out.mono ?_); rintro r w5 ⟨rfl, hx5⟩)
              go_ret
              exact ⟨rfl, hxw4.then (hxv.then hx5)⟩
            · rw [e1] at hS1
              go_wp2_with (go_at_call 48; (with_reducible refine hS1.out.mono ?_); rintro r w5 ⟨rfl, hx5⟩)
              exact ⟨⟨1, by omega, rfl, fun _ => trivial, fun h => absurd h (by omega), hxr.then (hxv.then hx5)⟩, by simp [intOf]⟩
          · have hxv := ext_alloc w4 (.cells (vtCells e.b) 50)
            have hk5 := rowAt_ext hxv hk4
            have hS1 := hide (hSb.out _ (hxw4.then hxv))
            obtain rfl := hpa (by omega)
            replace hpb := hide hpb
            clear hpa
            cases pb
            · rw [e2] at hS1
              go_wp2_with (go_at_call 48; (with_reducible refine hS1.out.mono ?_); rintro r w5 ⟨rfl, hx5⟩)
              go_ret
              exact ⟨rfl, hxw4.then (hxv.then hx5)⟩
            · rw [e1] at hS1
              go_wp2_with (go_at_call 48; (with_reducible refine hS1.out.mono ?_); rintro r w5 ⟨rfl, hx5⟩)
              exact ⟨⟨2, by omega, rfl, fun _ => trivial, fun _ => trivial, hxr.then (hxv.then hx5)⟩, by simp [intOf]⟩
          · obtain rfl := hpa (by omega)
            obtain rfl := hpb (by omega)
            clear hpa hpb
            go_wp2_with fail
            go_ret
            exact ⟨rfl, hxw4⟩
end Go.Proofs.Ytegicioofbhifaa
