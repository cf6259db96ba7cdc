/- The law SlashSteps: its walk. -/
import Derived.Test.YtcbhpmpjabbniaaSlashL
import Derived.Test.YtcbhpmpjabbniaaRowl
import Derived.BigQuiet
import Derived.Deep.RegionLaw
import Derived.Deep.QuietTactic
namespace Go.Proofs.Ytcbhpmpjabbniaa
open Go.RowKit
set_option linter.unusedVariables false
set_option linter.unusedSimpArgs false

theorem exec_slice_Vote (ρ : Operand → Value) (d : Option Tmp) (n : Nat) (ps : Array (Nat × Operand)) (t : TypeId) (p : String) (af : Array Edge) (gd : Option (Nat × Bool)) (w : World) : (execOp ρ ⟨d, .buildSlice 33 n ps, t, p, af, gd⟩).run Try.prog w = sliceStep Try.prog 33 n (ps.map fun x => (x.1, ρ x.2)) w := exec_buildSlice _ n ρ d ps t p af gd w
theorem slice_Vote (w : World) (v : Vt) : sliceStep Try.prog 33 1 #[(0, .agg (vtCells v))] w = .ok (.value (.slice (some ⟨w.heap.size, 0, none⟩) 1 1)) (w.alloc (.cells (vtCells v) 29)) := by
  unfold sliceStep
  rw [run_buildSlice_one w 33 29 68 (.agg (vtCells ⟨0, 0, zeros 32, 0, zeros 32, none, 0, 0⟩)) (vtCells v) Try.underlying33 (by kernel_rfl) (by omega) (by omega) (size_vtCells v)]
  rfl
theorem info_Vote : (Try.prog.info? 29).map (fun i => (i.zero, i.size, i.bytes)) = some (some (.agg (vtCells ⟨0, 0, zeros 32, 0, zeros 32, none, 0, 0⟩)), 68, 112) := by kernel_rfl

/-- The votes from each epoch to the next. -/
def stepVt (E : Nat → Int) (j : Nat) : Array Value := vtCells (epVt (E j) (E (j + 1)))
theorem size_stepVt (E : Nat → Int) (j : Nat) : (stepVt E j).size = 68 := size_vtCells _

def midB (a b s t : Int) : Bool := (b == t && a != s) || (decide (a < s) && decide (t < b)) || (decide (s < a) && decide (b < t))
theorem law_mid (a b s t : Int) : brB (epVt a b) (epVt s t) = midB a b s t := by
  have hz : bsEq (zeros 32) (zeros 32) = true := by rw [bsEq_iff]
  unfold brB ptEq midB roundB epVt
  simp only [hz, Bool.and_true]
  rw [Bool.eq_iff_iff]
  simp
  omega
theorem law_steps {a b a' b' : Int} (h : (a = a' ∧ b = b') ∨ b ≤ a' ∨ b' ≤ a) (h1 : a < b) (h2 : a' < b') : brB (epVt a b) (epVt a' b') = false := by
  rw [law_mid]
  cases hm : midB a b a' b' with
  | false => rfl
  | true =>
    simp [midB] at hm
    omega
theorem mono_steps {E : Nat → Int} {k : Nat} (h : ∀ j, j < k → E j < E (j + 1)) (p q : Nat) (hpq : p ≤ q) (hq : q ≤ k) : E p ≤ E q := by
  induction q with
  | zero => obtain rfl : p = 0 := by omega
            exact Int.le_refl _
  | succ q ih =>
    by_cases he : p = q + 1
    · subst he; exact Int.le_refl _
    · have h1 := ih (by omega) (by omega)
      have h2 := h q (by omega)
      omega
theorem steps_none {E : Nat → Int} {k : Nat} (h : ∀ j, j < k → E j < E (j + 1)) (p q : Nat) (hp : p < k) (hq : q < k) : brB (epVt (E p) (E (p + 1))) (epVt (E q) (E (q + 1))) = false := by
  refine law_steps ?_ (h p hp) (h q hq)
  rcases (by omega : p = q ∨ p + 1 ≤ q ∨ q + 1 ≤ p) with rfl | h1 | h1
  · exact .inl ⟨rfl, rfl⟩
  · exact .inr (.inl (mono_steps h _ _ h1 (by omega)))
  · exact .inr (.inr (mono_steps h _ _ h1 (by omega)))

attribute [local go_sem ↓] exec_slice_Vote slice_Vote zero_Vote exec_store_Vote store_Vote
attribute [local go_sem ↓] loadCells_blk
attribute [local go_sem] run_blkLoad rowAt_drew
set_option maxHeartbeats 1000000 in
set_option maxRecDepth 100000 in
theorem slashSteps_walk (a : Option Addr) (n cap : Nat) (E : Nat → Int) (s t : Int) (W : World) (hn : n ≤ cap) (hcap : cap ≤ maxLen) (hnil : a = none → n = 0 ∧ cap = 0) (hE : ∀ ad, a = some ad → ∀ i, i < n → W.cell? (ad.add i) = some (.int .u64 (E i))) :
    Calls Try.prog 4 #[.slice a n cap, .int .u64 s, .int .u64 t] W fun e w' => e = .returned (.bool true) ∧ Ext W w' := by
  by_cases hbig : 40 < n
  · have hb : (40 : Int) < n := by omega
    go_enter Try.func4, Try.ntmps4
    go_wp2_with (go_at_call 13; (with_reducible refine (known14 _).mono ?_); rintro e w' ⟨rfl, hk⟩)
    go_ret
    exact ⟨rfl, hk⟩
  · have hb : ¬ (40 : Int) < n := by omega
    obtain ⟨i0, hi, hz0, hz1, hz2⟩ := info_parts info_Vote
    go_enter Try.func4, Try.ntmps4
    go_wp2_with fail
    go_loopw [7, 8] (fun s7 s8 wr => ∃ k : Nat, (k = 0 ∨ k < n) ∧ s8 = .int .i64 (k + 1) ∧ wr.ownsRow W.heap.size 29 68 s7 k (rowsL (stepVt E) k) ∧ (∀ j, j < k → E j < E (j + 1)) ∧ Ext W wr) (fun _ i _ => (n + 1 - intOf i).toNat)
    case atStart => exact ⟨0, .inl rfl, rfl, World.ownsRow_nil _ _ _ _, fun j hj => by omega, Below.refl _ _⟩
    case round =>
      obtain ⟨k, hk, rfl, hown, hup, hx⟩ := hrel
      by_cases hlt : k + 1 < n
      · obtain ⟨ad, rfl⟩ : ∃ ad, a = some ad := by
          cases a with
          | none => have := hnil rfl; omega
          | some ad => exact ⟨ad, rfl⟩
        have d0 : wr.cell? (ad.add k) = some (.int .u64 (E k)) := by
          have := hE ad rfl k (by omega)
          exact (hx.cell (p := ad.add k) (block_lt_of_cell this)).trans this
        obtain ⟨m, hm⟩ : ∃ m, m = k + 1 := ⟨_, rfl⟩
        have d1 : wr.cell? (ad.add m) = some (.int .u64 (E m)) := by
          have := hE ad rfl m (by omega)
          exact (hx.cell (p := ad.add m) (block_lt_of_cell this)).trans this
        have hb1 : (m : Int) < n := by omega
        have hb2 : (k : Int) < n := by omega
        have hb0 : (0 : Int) ≤ k := by omega
        have hb3 : (0 : Int) ≤ (m : Int) := by omega
        have hv : IntKind.i64.wrap ((m : Int) - 1) = k := by rw [IntKind.wrap_i64]; unfold maxLen at hcap; omega
        have hkm : (k : Int) + 1 = m := by omega
        rw [hkm]
        replace hkm := hide hkm
        replace hm := hide hm
        obtain ⟨x, hxe⟩ : ∃ x, x = E k := ⟨_, rfl⟩
        obtain ⟨y, hye⟩ : ∃ y, y = E m := ⟨_, rfl⟩
        rw [← hxe] at d0
        rw [← hye] at d1
        replace hxe := hide hxe
        replace hye := hide hye
        replace hE := hide hE
        by_cases hle : y ≤ x
        · go_wp2_with fail
          go_quiet (fail)
          go_wp2_with (go_at_call 13; (with_reducible refine (known14 _).mono ?_); rintro e w' ⟨rfl, hk⟩)
          go_ret
          exact ⟨rfl, hx.then (Ext.then (b := wr.drewN nq) ⟨rfl, rfl, rfl, Nat.le_refl _, fun _ _ => rfl⟩ hk)⟩
        · go_wp2_with fail
          go_quiet (fail)
          go_wp2_with fail
          replace hown : (wr.drewN nq).ownsRow W.heap.size 29 68 u7 k (rowsL (stepVt E) k) := hown
          replace hx : Ext W (wr.drewN nq) := hx.trans ⟨rfl, rfl, rfl, Nat.le_refl _, fun _ _ => rfl⟩
          replace d0 : (wr.drewN nq).cell? (ad.add k) = some (.int .u64 x) := d0
          replace d1 : (wr.drewN nq).cell? (ad.add m) = some (.int .u64 y) := d1
          generalize wr.drewN nq = w1 at hown hx d0 d1
          replace hown : w1.drew.ownsRow W.heap.size 29 68 u7 k (rowsL (stepVt E) k) := hown
          replace hx : Ext W w1.drew := hx.trans ⟨rfl, rfl, rfl, Nat.le_refl _, fun _ _ => rfl⟩
          go_region_law (first | (refine step_append_lies _ rfl _ _ 33 rfl W.heap.size 29 i0 _ 68 112 Try.underlying33 hi hz0 hz1 hz2 rfl (by decide) u7 _ _ (by simp [Act.eval, Act.put]) (hown.alloc _) ⟨w3.heap.size, 0, none⟩ 1 1 (vtCells (epVt x y)).toList (by simp [Act.eval, Act.put]) (by simp [size_vtCells]) (World.news_of_block (heap_alloc_new _ _)) (by intro u hu; exact Array.all_eq_true_iff_forall_mem.1 (one_vtCells (epVt x y)) u (by simpa using hu)) (by decide) (by unfold maxLen; omega) (by omega) (by simp; omega) _ rfl ?_; intro g cap2 w4 hown4 hgrow hat hlt4) | (go_simp; go_at_call 14; (with_reducible refine (vote_any _ _ _).mono ?_); rintro e w3 ⟨rfl, hv⟩; replace hown := own_ext hv hown; replace hx := hx.then hv; have hsz := hx.size))
          all_goals
            go_wp2_with fail
            go_roundw
            case rel =>
              have hgrow' : (w3.alloc (Obj.cells (vtCells (epVt x y)) 29)).grownBy w4 u7.ownBlock := hgrow
              obtain rfl := hm.out
              refine ⟨k + 1, .inr hlt, by simp, ?_, ?_, ext_grown (hx.alloc hx.size _) hgrow' (fun b hb => (hown.lt b hb).1)⟩
              · rw [hxe.out, hye.out] at hown4; exact hown4
              · intro j hj
                by_cases h : j = k
                · subst h; rw [← hxe.out, ← hye.out]; omega
                · exact hup j (by omega)
            case measure => simp [intOf]; omega
      · have hform : ∃ a7 c7, u7 = .slice a7 k c7 ∧ (0 < k → ∃ g, a7 = some ⟨g, 0, none⟩ ∧ ∀ j, j < k → rowAt wr g (j * 68) 68 = some (vtCells (epVt (E j) (E (j + 1))))) := by
          by_cases hk0 : k = 0
          · subst hk0
            rcases hown.2 with ⟨h, _⟩ | ⟨g, cap7, cur, h, _⟩
            · exact ⟨none, 0, h, fun h => absurd h (by omega)⟩
            · exact ⟨_, _, h, fun h => absurd h (by omega)⟩
          · obtain ⟨g, cap7, h, _, _⟩ := hown.form (by omega)
            subst h
            exact ⟨_, _, rfl, fun _ => ⟨g, rfl, fun j hj => rowAt_rows (size_stepVt E) hown j hj⟩⟩
        obtain ⟨a7, c7, rfl, hrows⟩ := hform
        have hkn : k = 0 ∨ k + 1 = n := by omega
        have hk40 : k ≤ 40 := by omega
        have hb1 : ¬ (k : Int) + 1 < n := by omega
        replace hrows := hide hrows
        replace hE := hide hE
        replace hnil := hide hnil
        replace hup := hide hup
        clear hown hi hz0 hz1 hz2
        go_wp2_with fail
        obtain ⟨w4, rfl⟩ : ∃ w4, w4 = wr := ⟨_, rfl⟩
        go_loopw [9, 10] (fun s9 s10 w5 => ∃ p : Nat, p ≤ k ∧ s9 = .int .i64 p ∧ Ext w4 w5) (fun i _ _ => (k - intOf i).toNat)
        case atStart => exact ⟨0, by omega, rfl, Below.refl _ _⟩
        case round =>
          obtain ⟨p, hp, rfl, hx5⟩ := hrel
          obtain ⟨w5, rfl⟩ : ∃ w5, w5 = wr := ⟨_, rfl⟩
          by_cases hlp : p < k
          · have hlp' : (p : Int) < k := by omega
            have hp0 : (0 : Int) ≤ p := by omega
            obtain ⟨g7, rfl, hrow⟩ := hrows.out (by omega)
            have q1 := rowAt_ext hx5 (hrow p hlp)
            go_wp2_with fail
            go_loopw [10] (fun s10 w6 => ∃ q : Nat, q ≤ k ∧ s10 = .int .i64 q ∧ Ext w5 w6) (fun i _ => (k - intOf i).toNat)
            case atStart => exact ⟨0, by omega, rfl, Below.refl _ _⟩
            case round =>
              obtain ⟨q, hq, rfl, hx6⟩ := hrel
              obtain ⟨w6, rfl⟩ : ∃ w6, w6 = wr := ⟨_, rfl⟩
              by_cases hlq : q < k
              · have hlq' : (q : Int) < k := by omega
                have hq0 : (0 : Int) ≤ q := by omega
                have q1 := rowAt_ext hx6 q1
                have q2 := rowAt_ext (hx5.then hx6) (hrow q hlq)
                go_wp2_with fail
                go_still_tail 8, (by kernel_rfl)
                change wpList _ _ _ _ _ w6.drew
                have hbr := steps_none hup.out p q hlp hlq
                replace q1 : rowAt w6.drew g7 (p * 68) 68 = _ := q1
                replace q2 : rowAt w6.drew g7 (q * 68) 68 = _ := q2
                replace hx6 : Ext w5 w6.drew := hx6.trans ⟨rfl, rfl, rfl, Nat.le_refl _, fun _ _ => rfl⟩
                generalize w6.drew = w7 at q1 q2 hx6
                go_wp2_with (go_at_call 12; (with_reducible refine (breaks_any _ _ _).mono ?_); rintro e w8 ⟨rfl, hb⟩)
                go_roundw
                case rel => exact ⟨q + 1, by omega, by go_num, hx6.then hb⟩
                case measure => simp [intOf]; omega
              · have hlq' : ¬ (q : Int) < k := by omega
                go_wp2_with fail
                go_roundw
                case rel => exact ⟨p + 1, by omega, by go_num, hx5.then hx6⟩
                case measure => simp [intOf]; omega
          · have hlp' : ¬ (p : Int) < k := by omega
            have hx := hx.then hx5
            have hrows5 : 0 < k → ∃ g, a7 = some ⟨g, 0, none⟩ ∧ ∀ j, j < k → rowAt w5 g (j * 68) 68 = some (vtCells (epVt (E j) (E (j + 1)))) := fun h => by
              obtain ⟨g, h1, h2⟩ := hrows.out h
              exact ⟨g, h1, fun j hj => rowAt_ext hx5 (h2 j hj)⟩
            replace hrows5 := hide hrows5
            clear hrows hup
            go_wp2_with (go_at_call 14; (with_reducible refine (vote_any _ _ _).mono ?_); rintro e w6 ⟨rfl, hv⟩)
            have hall : Ext W (w6.alloc (.cells (vtCells (epVt s t)) 29)) := (hx.then hv).alloc (hx.then hv).size _
            have q0 : rowAt (w6.alloc (.cells (vtCells (epVt s t)) 29)) w6.heap.size 0 68 = some (vtCells (epVt s t)) := by
              rw [rowAt_new _ _ _ _ _ _ _ rfl, size_vtCells]; simp [vt_whole]
            have hrows6 : 0 < k → ∃ g, a7 = some ⟨g, 0, none⟩ ∧ ∀ j, j < k → rowAt (w6.alloc (.cells (vtCells (epVt s t)) 29)) g (j * 68) 68 = some (vtCells (epVt (E j) (E (j + 1)))) := fun h => by
              obtain ⟨g, h1, h2⟩ := hrows5.out h
              exact ⟨g, h1, fun j hj => rowAt_ext (hv.alloc hv.size _) (h2 j hj)⟩
            obtain ⟨N, hN⟩ : ∃ N, N = w6.heap.size := ⟨_, rfl⟩
            rw [← hN] at q0 ⊢
            replace hN := hide hN
            generalize w6.alloc (.cells (vtCells (epVt s t)) 29) = w7 at hall q0 hrows6
            replace hrows6 := hide hrows6
            clear hrows5 hx hv hx5
            go_wp2_with fail
            go_loopw [12, 13, 14, 15, 16] (fun s12 s13 s14 _ _ w8 => ∃ (r : Nat) (c : Bool), r ≤ k ∧ s14 = .int .i64 r ∧ s12 = .bool c ∧ s13 = .bool c ∧ Ext w7 w8) (fun _ _ i _ _ _ => (k - intOf i).toNat)
            case atStart => exact ⟨0, false, by omega, rfl, rfl, rfl, Below.refl _ _⟩
            case round =>
              obtain ⟨r, c, hr, rfl, rfl, rfl, hx8⟩ := hrel
              obtain ⟨w8, rfl⟩ : ∃ w8, w8 = wr := ⟨_, rfl⟩
              by_cases hlr : r < k
              · have hlr' : (r : Int) < k := by omega
                have hr0 : (0 : Int) ≤ r := by omega
                obtain ⟨g7, rfl, hrow⟩ := hrows6.out (by omega)
                replace q0 := rowAt_ext hx8 q0
                have q1 := rowAt_ext hx8 (hrow r hlr)
                clear hrow
                have d1 : w8.cell? ⟨g7, r * 68 + 1, none⟩ = some (.int .u64 (E r)) := (cell_of_rowAt' q1 1 (by omega)).trans (vt_se _)
                have d2 : w8.cell? ⟨g7, r * 68 + 34, none⟩ = some (.int .u64 (E (r + 1))) := (cell_of_rowAt' q1 34 (by omega)).trans (vt_te _)
                have hm := law_mid (E r) (E (r + 1)) s t
                generalize E r = x at q1 hm d1
                generalize E (r + 1) = y at q1 hm d1 d2
                cases c with
                | true =>
                  clear hm
                  go_wp2_with fail
                  go_quiet (fail)
                  go_wp2_with fail
                  go_quiet (fail)
                  go_wp2_with fail
                  go_roundw
                  case rel => exact ⟨r + 1, true, by omega, by go_num, rfl, rfl, hx8.trans ⟨rfl, rfl, rfl, Nat.le_refl _, fun _ _ => rfl⟩⟩
                  case measure => simp [intOf]; omega
                | false =>
                  obtain ⟨B, hB⟩ : ∃ B, B = brB (epVt x y) (epVt s t) := ⟨_, rfl⟩
                  replace hm := hide (hB.trans hm)
                  go_wp2_with fail
                  go_still_tail 7, (by kernel_rfl)
                  change wpList _ _ _ _ _ w8.drew
                  replace q0 : rowAt w8.drew N 0 68 = _ := q0
                  replace q1 : rowAt w8.drew g7 (r * 68) 68 = _ := q1
                  replace d1 : w8.drew.cell? _ = _ := d1
                  replace d2 : w8.drew.cell? _ = _ := d2
                  replace hx8 : Ext w7 w8.drew := hx8.trans ⟨rfl, rfl, rfl, Nat.le_refl _, fun _ _ => rfl⟩
                  generalize w8.drew = w9 at q0 q1 d1 d2 hx8
                  go_wp2_with (go_at_call 12; (with_reducible refine (breaks_any _ _ _).mono ?_); rintro e w10 ⟨rfl, hb⟩; rw [← hB]; clear hB; replace d1 := (hb.cell (p := ⟨g7, r * 68 + 1, none⟩) (block_lt_of_cell d1)).trans d1; replace d2 := (hb.cell (p := ⟨g7, r * 68 + 34, none⟩) (block_lt_of_cell d2)).trans d2; replace hx8 := hx8.then hb)
                  go_quiet (fail)
                  clear q0 q1
                  have key : ∀ u : Bool, midB x y s t = u → B = u := fun u h => hm.out.trans h
                  replace key := hide key
                  clear hm
                  rcases (by omega : y < t ∨ y = t ∨ t < y) with hy | hy | hy <;> rcases (by omega : x < s ∨ x = s ∨ s < x) with hq | hq | hq
                  all_goals
                    first
                      | (have z1 : decide (y = t) = true := by simpa using hy)
                      | (have z1 : decide (y = t) = false := by simp; omega)
                    first
                      | (have z2 : decide (x = s) = true := by simpa using hq)
                      | (have z2 : decide (x = s) = false := by simp; omega)
                    first
                      | (have z3 : decide (x < s) = true := by simpa using hq)
                      | (have z3 : decide (x < s) = false := by simp; omega)
                    first
                      | (have z4 : decide (s < x) = true := by simpa using hq)
                      | (have z4 : decide (s < x) = false := by simp; omega)
                    first
                      | (have z5 : decide (y < t) = true := by simpa using hy)
                      | (have z5 : decide (y < t) = false := by simp; omega)
                    first
                      | (have z6 : decide (t < y) = true := by simpa using hy)
                      | (have z6 : decide (t < y) = false := by simp; omega)
                    go_wp2_with fail
                    go_roundw
                    case rel => exact ⟨r + 1, B, by omega, by go_num, rfl, congrArg Value.bool (key.out _ (by simp [midB]; omega)).symm, hx8.trans ⟨rfl, rfl, rfl, Nat.le_refl _, fun _ _ => rfl⟩⟩
                    case measure => simp [intOf]; omega
              · have hlr' : ¬ (r : Int) < k := by omega
                go_wp2_with (go_at_call 13; (with_reducible refine (known14 _).mono ?_); rintro e w9 ⟨rfl, hk⟩)
                go_ret
                exact ⟨by simp, hall.then (hx8.then hk)⟩
end Go.Proofs.Ytcbhpmpjabbniaa
