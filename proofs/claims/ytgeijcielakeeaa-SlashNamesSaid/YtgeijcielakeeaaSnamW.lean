/- The walk of the law on who is named. -/
import Derived.Test.YtgeijcielakeeaaFindsW
import Derived.Test.YtgeijcielakeeaaSnamP
import Derived.Deep.CutRange
namespace Go.Proofs.Ytgeijcielakeeaa
open Go.RowKit
set_option linter.unusedVariables false
set_option linter.unusedSimpArgs false
set_option maxRecDepth 100000
def sgsL (L : Nat → Sg) (ix : List Nat) : List Value := ix.flatMap fun x => (sgCells (L x)).toList
theorem sgsL_snoc (L : Nat → Sg) (ix : List Nat) (x : Nat) : sgsL L (ix ++ [x]) = sgsL L ix ++ (sgCells (L x)).toList := by simp [sgsL]
theorem info_sg : (Try.prog.info? 33).map (fun i => (i.zero, i.size, i.bytes)) = some (some (.agg (sgCells ⟨⟨0, 0, zeros 32, 0, zeros 32, none, 0, 0⟩, zeros 32, 0⟩)), 101, 152) := by kernel_rfl
theorem exec_slice_S (ρ : Operand → Value) (d : Option Tmp) (ps : Array (Nat × Operand)) (t : TypeId) (p : String) (af : Array Edge) (gd : Option (Nat × Bool)) (w : World) : (execOp ρ ⟨d, .buildSlice 22 1 ps, t, p, af, gd⟩).run Try.prog w = sliceStep Try.prog 22 1 (ps.map fun x => (x.1, ρ x.2)) w := exec_buildSlice 22 1 ρ d ps t p af gd w
theorem slice_S (w : World) (s : Sg) : sliceStep Try.prog 22 1 #[(0, .agg (sgCells s))] w = .ok (.value (.slice (some ⟨w.heap.size, 0, none⟩) 1 1)) (w.alloc (.cells (sgCells s) 33)) := by
  unfold sliceStep
  rw [run_buildSlice_one w 22 33 101 (.agg (sgCells ⟨⟨0, 0, zeros 32, 0, zeros 32, none, 0, 0⟩, zeros 32, 0⟩)) (sgCells s) Try.underlying22 (by kernel_rfl) (by decide) (by decide) (size_sgCells s)]
  rfl
/-- The number that an order tells, taken round. -/
theorem turn_of (x : Int) (n : Nat) (hn : 0 < n) (h40 : n ≤ 40) : ∃ t : Nat, t < n ∧ IntKind.i64.wrap (x.tmod n) = x.tmod n ∧ IntKind.i64.wrap (x.tmod n + n) = x.tmod n + n ∧ IntKind.i64.wrap ((x.tmod n + n).tmod n) = (x.tmod n + n).tmod n ∧ (x.tmod n + n).tmod n = (t : Int) := by
  have h1 : (x.tmod n).natAbs < n := by
    rw [Int.natAbs_tmod]
    simpa using Nat.mod_lt _ hn
  have h2 : 0 ≤ x.tmod n + n := by omega
  obtain ⟨u, hu⟩ := Int.eq_ofNat_of_zero_le h2
  refine ⟨u % n, Nat.mod_lt _ hn, by rw [IntKind.wrap_i64]; omega, by rw [IntKind.wrap_i64]; omega, ?_, ?_⟩
  · rw [hu, IntKind.wrap_i64]
    have : (u : Int).tmod n = ((u % n : Nat) : Int) := (Int.ofNat_tmod u n).symm
    have h3 := Nat.mod_lt u hn
    omega
  · rw [hu]; exact (Int.ofNat_tmod u n).symm
/-- Names in a slice: one of them is k. -/
theorem names_any (L : Nat → Sg) (P : List (Nat × Nat)) (m : Nat) (hm : m = P.length) (h : Bs 32) : ((List.range m).any fun t => bsEq (L (P.getD t (0, 0)).1).k h) = (P.map fun p => (L p.1).k).any fun x => bsEq x h := by
  subst hm
  rw [Bool.eq_iff_iff, range_any, List.any_eq_true]
  constructor
  · rintro ⟨t, ht, h1⟩
    refine ⟨_, List.mem_map.2 ⟨P[t], List.getElem_mem ht, rfl⟩, ?_⟩
    simpa [List.getD, ht] using h1
  · rintro ⟨x, hx, h1⟩
    obtain ⟨p, hp, rfl⟩ := List.mem_map.1 hx
    obtain ⟨t, ht, rfl⟩ := List.getElem_of_mem hp
    exact ⟨t, ht, by simpa [List.getD, ht] using h1⟩
attribute [local go_sem ↓] loadCells_blk exec_slice_S slice_S
set_option maxHeartbeats 32000000 in
theorem slashNames_main (a b : Option Addr) (n cap q capb : Nat) (L : Nat → Sg) (C : Nat → List UInt8) (E : Nat → Int) (w : World) (hn0 : 0 < n) (hn40 : n ≤ 40) (hq80 : q ≤ 80) (hcap : n ≤ cap) (hL : SignedIn w a n L) (hC : ∀ i, i < n → SigIn w (L i).v (C i)) (hqb : q ≤ capb) (hnilb : b = none → q = 0) (hE : ∀ ad, b = some ad → ∀ i, i < q → w.cell? (ad.add i) = some (.int .i64 (E i))) :
    Calls Try.prog 4 #[.slice a n cap, .slice b q capb] w fun r w' => r = .returned (.bool true) ∧ Ext w w' := by
  have hd1 : decide ((40 : Int) < n) = false := decide_eq_false (by omega)
  have hd2 : decide ((80 : Int) < q) = false := decide_eq_false (by omega)
  have hn1 : n ≤ 1000 := by omega
  obtain ⟨i1, hi1, hz0, hz1, hz2⟩ := info_parts info_sg
  replace hC := hide hC
  go_enter Try.func4, Try.ntmps4
  go_wp2_with fail
  go_loopw [5] (fun s3 wr => ∃ i : Nat, i ≤ n ∧ s3 = .int .i64 i ∧ (∀ j, j < i → (L j).v.sl ≤ 5000) ∧ wr = w) (fun s _ => (n - intOf s).toNat)
  case atStart => exact ⟨0, by omega, rfl, fun j hj => absurd hj (by omega), rfl⟩
  case round =>
    obtain ⟨i, hi, rfl, hA, hwr⟩ := hrel
    have hwr2 := hwr.symm
    clear hwr
    subst hwr2
    by_cases hlt : i < n
    · have hlt' : (i : Int) < n := by omega
      have hi0 : (0 : Int) ≤ i := by omega
      obtain ⟨ad, rfl, hc⟩ := hL (by omega)
      have hsc := sig_cell (hc i hlt)
      by_cases h5 : 5000 < (L i).v.sl
      · have hd5 : decide ((5000 : Int) < ((L i).v.sl : Nat)) = true := decide_eq_true (by omega)
        have h5' : (5000 : Int) < ((L i).v.sl : Nat) := by omega
        go_wp2_with (go_at_call 5; (with_reducible refine (known14 _).mono ?_); rintro r wk ⟨rfl, hxk⟩)
        go_ret
        exact ⟨rfl, hxk⟩
      · have hd5 : decide ((5000 : Int) < ((L i).v.sl : Nat)) = false := decide_eq_false (by omega)
        have h5' : ¬ (5000 : Int) < ((L i).v.sl : Nat) := by omega
        go_wp2_with fail
        exact ⟨⟨i + 1, by omega, by go_num, fun j hj => by
          by_cases e : j = i
          · subst e; omega
          · exact hA j (by omega), by first | rfl | trivial⟩, by simp [intOf]; omega⟩
    · obtain rfl : i = n := by omega
      have hlt' : ¬ (i : Int) < i := by omega
      go_wp2_with fail
      replace hA := hide hA
      go_loopw [6, 7] (fun s6 s7 w1 => ∃ (k : Nat) (ix : List Nat), k ≤ q ∧ s7 = .int .i64 k ∧ ix.length ≤ k ∧ (∀ x ∈ ix, x < i) ∧ w1.ownsRow w.heap.size 33 101 s6 ix.length (sgsL L ix) ∧ Ext w w1) (fun _ s _ => (q - intOf s).toNat)
      case atStart => exact ⟨0, [], by omega, rfl, by simp, by simp, World.ownsRow_nil _ _ _ _, Below.refl _ _⟩
      case round =>
        obtain ⟨k, ix, hk, rfl, hxl, hxi, hown, hx⟩ := hrel
        obtain ⟨w2, rfl⟩ : ∃ v, v = wr := ⟨_, rfl⟩
        replace hown := hide hown
        replace hxi := hide hxi
        by_cases hkq : k < q
        · have hkq' : (k : Int) < q := by omega
          have hk0 : (0 : Int) ≤ k := by omega
          have hd3 : decide ((k : Int) < q) = true := decide_eq_true hkq'
          have hd4 : decide ((0 : Int) < i) = true := decide_eq_true (by omega)
          have hd5 : decide (0 < i) = true := decide_eq_true hn0
          obtain ⟨adb, rfl⟩ : ∃ ad, b = some ad := by
            cases b with
            | none => exact absurd (hnilb rfl) (by omega)
            | some ad => exact ⟨ad, rfl⟩
          have hcE := hE adb rfl k hkq
          have hcE2 := (hx.cell (p := adb.add k) (block_lt_of_cell hcE)).trans hcE
          obtain ⟨t, ht, hr1, hr2, hr3, hr4⟩ := turn_of (E k) i hn0 hn40
          have ht' : (t : Int) < i := by omega
          have ht0 : (0 : Int) ≤ t := by omega
          have hi0' : ¬ (i : Int) = 0 := by omega
          obtain ⟨ad, rfl, hc⟩ := hL (by omega)
          have hld := load_cells ((hc t ht).ext hx) (size_sgCells _)
          have hxb := ext_alloc w2 (.cells (sgCells (L t)) 33)
          have hown2 := hide (own_ext hxb hown.out)
          have hx2 := hx.then hxb
          have hnE := hide (World.news_of_block (heap_alloc_new w2 (.cells (sgCells (L t)) 33)))
          have hYl : Hid ((sgCells (L t)).toList.length = 1 * 101) := hide (by rw [Array.length_toList, size_sgCells])
          have hY1 : Hid (∀ u ∈ (sgCells (L t)).toList, u.oneCell' = true) := hide fun u hu => Array.all_eq_true_iff_forall_mem.1 (one_sgCells (L t)) u (by simpa using hu)
          have h63 : ix.length + 1 ≤ maxLen := by unfold maxLen; omega
          have hby : (ix.length + 1) * 152 ≤ 140737488355328 := by omega
          go_wp2_with (at_builtin; (refine wpList_append_lies _ rfl _ _ 22 rfl w.heap.size 33 i1 (.agg (sgCells ⟨⟨0, 0, zeros 32, 0, zeros 32, none, 0, 0⟩, zeros 32, 0⟩)) 101 152 Try.underlying22 hi1 hz0 hz1 hz2 (size_sgCells _) (by decide) u6 ix.length (sgsL L ix) rfl hown2.out ⟨w2.heap.size, 0, none⟩ 1 1 (sgCells (L t)).toList rfl hYl.out hnE.out hY1.out (by decide) h63 hby hx2.size _ rfl ?_); intro g7 cp7 w7 hown7 hgrow7 hat7 hlt7; rw [← sgsL_snoc] at hown7; have hx7 := ext_grown hx2 hgrow7 (fun k hk => (hown2.out.lt k hk).1); clear hgrow7 hat7)
          exact ⟨⟨k + 1, ix ++ [t], by omega, by go_num, by simp; omega, fun x hx => by
            rcases List.mem_append.1 hx with h | h
            · exact hxi.out x h
            · simp at h; omega, by rw [List.length_append]; exact hown7, hx7⟩, by simp [intOf]; omega⟩
        · have hd3 : decide ((k : Int) < q) = false := decide_eq_false (by omega)
          have hkq' : ¬ (k : Int) < q := by omega
          have hi1' : IntKind.i64.wrap ((i : Int) - 1) = (i : Int) - 1 := by rw [IntKind.wrap_i64]; omega
          have hix80 : ix.length ≤ 80 := by omega
          replace hx := hide hx
          go_wp2_with fail
          go_loopw [6, 8] (fun s6 s8 w1 => ∃ (c : Nat) (z : Int) (ix : List Nat), c ≤ i ∧ s8 = .int .i64 z ∧ z = (c : Int) - 1 ∧ ix.length ≤ 80 + (i - c) ∧ (∀ x ∈ ix, x < i) ∧ (∀ j, c ≤ j → j < i → j ∈ ix) ∧ w1.ownsRow w.heap.size 33 101 s6 ix.length (sgsL L ix) ∧ Ext w w1) (fun _ s _ => (intOf s + 1).toNat)
          case atStart => exact ⟨i, _, ix, by omega, rfl, rfl, by omega, hxi.out, fun j h1 h2 => absurd h1 (by omega), hown.out, hx.out⟩
          case round =>
            clear hown hx hxi hxl hix80
            obtain ⟨c, z, ix, hci, rfl, hz, hxl, hxi, hxa, hown, hx⟩ := hrel
            obtain ⟨w2, rfl⟩ : ∃ v, v = wr := ⟨_, rfl⟩
            replace hown := hide hown
            replace hxi := hide hxi
            replace hxa := hide hxa
            by_cases hc0 : 0 < c
            · obtain ⟨d, rfl⟩ : ∃ d, c = d + 1 := ⟨c - 1, by omega⟩
              obtain rfl : z = (d : Int) := by omega
              have hdi : d < i := by omega
              have hd' : (d : Int) < i := by omega
              have hd0 : (0 : Int) ≤ d := by omega
              have hdw : IntKind.i64.wrap ((d : Int) - 1) = (d : Int) - 1 := by rw [IntKind.wrap_i64]; omega
              obtain ⟨ad, rfl, hc⟩ := hL (by omega)
              have hld := load_cells ((hc d hdi).ext hx) (size_sgCells _)
              have hxb := ext_alloc w2 (.cells (sgCells (L d)) 33)
              have hown2 := hide (own_ext hxb hown.out)
              have hx2 := hx.then hxb
              have hnE := hide (World.news_of_block (heap_alloc_new w2 (.cells (sgCells (L d)) 33)))
              have hYl : Hid ((sgCells (L d)).toList.length = 1 * 101) := hide (by rw [Array.length_toList, size_sgCells])
              have hY1 : Hid (∀ u ∈ (sgCells (L d)).toList, u.oneCell' = true) := hide fun u hu => Array.all_eq_true_iff_forall_mem.1 (one_sgCells (L d)) u (by simpa using hu)
              have h63 : ix.length + 1 ≤ maxLen := by unfold maxLen; omega
              have hby : (ix.length + 1) * 152 ≤ 140737488355328 := by omega
              replace hz := hide hz
              go_wp2_with (at_builtin; (refine wpList_append_lies _ rfl _ _ 22 rfl w.heap.size 33 i1 (.agg (sgCells ⟨⟨0, 0, zeros 32, 0, zeros 32, none, 0, 0⟩, zeros 32, 0⟩)) 101 152 Try.underlying22 hi1 hz0 hz1 hz2 (size_sgCells _) (by decide) u6 ix.length (sgsL L ix) rfl hown2.out ⟨w2.heap.size, 0, none⟩ 1 1 (sgCells (L d)).toList rfl hYl.out hnE.out hY1.out (by decide) h63 hby hx2.size _ rfl ?_); intro g7 cp7 w7 hown7 hgrow7 hat7 hlt7; rw [← sgsL_snoc] at hown7; have hx7 := ext_grown hx2 hgrow7 (fun k hk => (hown2.out.lt k hk).1); clear hgrow7 hat7)
              exact ⟨⟨d, _, ix ++ [d], by omega, rfl, rfl, by simp; omega, fun x hx => by
                rcases List.mem_append.1 hx with h | h
                · exact hxi.out x h
                · simp at h; omega, fun j h1 h2 => by
                by_cases e : j = d
                · subst e; simp
                · exact List.mem_append_left _ (hxa.out j (by omega) h2), by rw [List.length_append]; exact hown7, hx7⟩, by simp [intOf]⟩
            · obtain rfl : z = -1 := by omega
              have hxa2 : Hid (∀ j, j < i → j ∈ ix) := hide fun j hj => hxa.out j (by omega) hj
              have hl120 : ix.length ≤ 120 := by omega
              clear hxa hz
              obtain ⟨am, cm, rfl, hm1, hm2, _, hmc⟩ := own_cells (fun x => sgCells (L x)) (fun x => size_sgCells _) ix hown.out
              obtain ⟨M, hMd⟩ : ∃ M : Nat → Sg, M = fun t => L (ix.getD t 0) := ⟨_, rfl⟩
              obtain ⟨sg, hsd⟩ : ∃ sg : Nat → Nat, sg = fun t => ix.getD t 0 := ⟨_, rfl⟩
              obtain ⟨nm, hnm⟩ : ∃ nm, nm = ix.length := ⟨_, rfl⟩
              have hMs : ∀ t, t < nm → M t = L (sg t) := fun t ht => by rw [hMd, hsd]
              have hsi : ∀ t, t < nm → sg t < i := fun t ht => by
                rw [hsd]
                rw [hnm] at ht
                simp only [List.getD, List.getElem?_eq_getElem ht, Option.getD_some]
                exact hxi.out _ (List.getElem_mem ht)
              have hsa : ∀ j, j < i → ∃ t, t < nm ∧ sg t = j := fun j hj => by
                obtain ⟨t, ht, e⟩ := List.getElem_of_mem (hxa2.out j hj)
                exact ⟨t, by omega, by rw [hsd]; simp [List.getD, ht, e]⟩
              have hLm : SignedIn w2 am nm M := fun h0 => by
                obtain ⟨ad, e, h⟩ := hmc (by omega)
                refine ⟨ad, e, fun t ht => ?_⟩
                have h1 := h t ix[t] (List.getElem?_eq_getElem (by omega))
                rw [hMd]
                simp only [List.getD, List.getElem?_eq_getElem (show t < ix.length by omega), Option.getD_some]
                exact h1
              rw [← hnm] at hm1 hl120 ⊢
              have hCm : ∀ t, t < nm → SigIn w2 (M t).v (C (sg t)) := fun t ht => by rw [hMs t ht]; exact (hC.out _ (hsi t ht)).ext hx
              have hCm5 : ∀ t, t < nm → (M t).v.sl ≤ 5000 := fun t ht => by rw [hMs t ht]; exact hA.out _ (hsi t ht)
              have hw1 := fun j hj => keys_want L i j hj
              have hw2 := fun j hj => keys_want' hMs hsi hsa j hj
              have hw3 := keys_len hMs hsi hsa
              clear hMd hsd hmc hown hxi hxa2 hsa hsi hMs
              obtain ⟨P, hP⟩ : ∃ P, P = findP L i i := ⟨_, rfl⟩
              obtain ⟨m, hm⟩ : ∃ m, m = P.length := ⟨_, rfl⟩
              have hml : m ≤ i := by rw [hm, hP]; exact findP_len L i i
              obtain ⟨Q, hQ⟩ : ∃ Q, Q = findP M nm nm := ⟨_, rfl⟩
              have hmq : m = Q.length := by
                have h := hw3
                unfold keysP at h
                rw [List.length_map, List.length_map, ← hP, ← hQ] at h
                omega
              have hk1 : ∀ j, j < i → ((List.range m).any fun t => bsEq (L (P.getD t (0, 0)).1).k (L j).k) = wantB L i j := fun j hj => by rw [names_any L P m hm, ← hw1 j hj, hP]; rfl
              have hk2 : ∀ j, j < i → ((List.range m).any fun t => bsEq (M (Q.getD t (0, 0)).1).k (L j).k) = wantB L i j := fun j hj => by rw [names_any M Q m hmq, ← hw2 j hj, hQ]; rfl
              have hxr : Ext w2 w2 := Below.refl _ _
              have hF1 := hide fun (w' : World) (h : Ext w2 w') => find_m a i cap m L C w' P hP hm hn1 hcap (hL.ext (hx.then h)) (fun j hj => (hC.out j hj).ext (hx.then h)) hA.out
              have hF2 := hide fun (w' : World) (h : Ext w2 w') => find_m am nm cm m M (fun t => C (sg t)) w' Q hQ hmq (by omega) hm1 (hLm.ext h) (fun j hj => (hCm j hj).ext h) hCm5
              have hN1 := hide fun (ag : Option Addr) (cg : Nat) (es : List Ev) (w0 w1 : World) => named_m i m L C P hP hm (by omega) ag cg es w0 w1
              have hN2 := hide fun (ag : Option Addr) (cg : Nat) (es : List Ev) (w0 w1 : World) => named_m nm m M (fun t => C (sg t)) Q hQ hmq (by omega) ag cg es w0 w1
              replace hk1 := hide hk1
              replace hk2 := hide hk2
              replace hLm := hide hLm
              clear hw1 hw2 hw3 hP hm hQ hmq hCm hCm5 hnm hC hA hE
              obtain ⟨K1, hK1⟩ : ∃ K1 : Nat → Bs 32, K1 = fun t => (L (P.getD t (0, 0)).1).k := ⟨_, rfl⟩
              obtain ⟨K2, hK2⟩ : ∃ K2 : Nat → Bs 32, K2 = fun t => (M (Q.getD t (0, 0)).1).k := ⟨_, rfl⟩
              have hk1 : Hid (∀ j, j < i → ((List.range m).any fun t => bsEq (K1 t) (L j).k) = wantB L i j) := by rw [hK1]; exact hk1
              have hk2 : Hid (∀ j, j < i → ((List.range m).any fun t => bsEq (K2 t) (L j).k) = wantB L i j) := by rw [hK2]; exact hk2
              replace hK1 := hide hK1
              replace hK2 := hide hK2
              replace hx := hide hx
              go_wp2_with (first
                | (go_at_call 6; (with_reducible refine (hF1.out _ hxr).mono ?_); rintro r w3 ⟨⟨ag1, cg1, es1, rfl, hl1, _, hes1, hEv1, _⟩, hx3⟩; replace hl1 := hide hl1; replace hes1 := hide hes1; replace hEv1 := hide hEv1)
                | (go_at_call 8; (with_reducible refine (hN1.out ag1 cg1 es1 _ _ hl1.out hes1.out hEv1.out).mono ?_); rintro r w4 ⟨⟨an1, cn1, rfl, hnn1⟩, hx4⟩; have hx4' := hx3.then hx4; replace hnn1 := hide hnn1)
                | (go_at_call 6; (with_reducible refine (hF2.out _ hx4').mono ?_); rintro r w5 ⟨⟨ag2, cg2, es2, rfl, hl2, _, hes2, hEv2, _⟩, hx5⟩; replace hl2 := hide hl2; replace hes2 := hide hes2; replace hEv2 := hide hEv2)
                | (go_at_call 8; (with_reducible refine (hN2.out ag2 cg2 es2 _ _ hl2.out hes2.out hEv2.out).mono ?_); rintro r w6 ⟨⟨an2, cn2, rfl, hnn2⟩, hx6⟩; replace hnn2 := hide hnn2))
              have hx46 := hx4'.then (hx5.then hx6)
              have hxw := hx.out.then hx46
              obtain ⟨ad, rfl, hc⟩ := hL (by omega)
              have hcW : Hid (∀ w', Ext w6 w' → ∀ j, j < i → CellsIn w' (ad.add (j * 101)) (sgCells (L j))) := hide fun w' h j hj => (hc j hj).ext (hxw.then h)
              have hnA : Hid (HashIn w6 an1 m K1) := by rw [hK1.out]; exact hide (hnn1.out.ext (hx5.then hx6))
              have hnB : Hid (HashIn w6 an2 m K2) := by rw [hK2.out]; exact hnn2
              have huH := Try.underlying26
              have huV := Try.underlying31
              clear hc hL hF1 hF2 hN1 hN2 hnn1 hnn2 hLm hK1 hK2 hes1 hes2 hEv1 hEv2 hl1 hl2 hxr hm2 hx3 hx4 hx5 hx6 hx4' hx46 hx
              go_loopw [11] (fun s11 wr => ∃ j : Nat, j ≤ i ∧ s11 = .int .i64 j ∧ Ext w6 wr) (fun s _ => (i - intOf s).toNat)
              case atStart => exact ⟨0, by omega, rfl, Below.refl _ _⟩
              case round =>
                obtain ⟨j, hj, rfl, hx7⟩ := hrel
                obtain ⟨w7, rfl⟩ : ∃ v, v = wr := ⟨_, rfl⟩
                by_cases hji : j < i
                · have hji' : (j : Int) < i := by omega
                  have hj0 : (0 : Int) ≤ j := by omega
                  go_wp2_with fail
                  go_loopw [12, 13] (fun s12 s13 wr => ∃ k : Nat, k ≤ i ∧ s13 = .int .i64 k ∧ s12 = .bool ((List.range k).any fun k => rowQ L i j k) ∧ Ext w6 wr) (fun _ s _ => (i - intOf s).toNat)
                  case atStart => exact ⟨0, by omega, rfl, by simp, hx7⟩
                  case round =>
                    clear hx7
                    obtain ⟨k, hk, rfl, rfl, hx8⟩ := hrel
                    obtain ⟨w8, rfl⟩ : ∃ v, v = wr := ⟨_, rfl⟩
                    by_cases hki : k < i
                    · have hki' : (k : Int) < i := by omega
                      have hk0 : (0 : Int) ≤ k := by omega
                      have hsu := range_any_succ (fun k => rowQ L i j k) k
                      generalize (List.range k).any (fun k => rowQ L i j k) = qA at *
                      replace hsu := hide hsu
                      go_wp2_with fail
                      go_cut [12] from 99 to 177 (fun s12 wx => s12 = .bool (qA || firstB L j k) ∧ Ext w6 wx)
                      case first =>
                        have hca := fun m' => load_key (hcW.out _ (hx8.then (ext_drewN w8 m')) k hki)
                        have hcb := fun m' => load_key (hcW.out _ (hx8.then (ext_drewN w8 m')) j hji)
                        cases qA
                        · cases hb1 : bsEq (L k).k (L j).k
                          · have eq2 : ∀ w', (Op.equalIn 10000 26 (.agg (bcells (L k).k)) (.agg (bcells (L j).k))).run Try.prog w' = .ok false w' := fun w' => by rw [← hb1]; exact equal_hashF w' _ _
                            replace hb1 := hide hb1
                            go_quiet (fail)
                            go_wp2_with fail
                            go_meet
                            exact ⟨by simp [firstB, hb1.out], hx8.then (ext_drewN _ nq)⟩
                          · have eq2 : ∀ w', (Op.equalIn 10000 26 (.agg (bcells (L k).k)) (.agg (bcells (L j).k))).run Try.prog w' = .ok true w' := fun w' => by rw [← hb1]; exact equal_hashF w' _ _
                            replace hb1 := hide hb1
                            as_aux_lemma =>
                              have hSa : Hid (∀ w' : World, (CellsIn w' (ad.add (k * 101)) (sgCells (L k)) ∧ CellsIn w' (ad.add (j * 101)) (sgCells (L j))) → CellsIn w' ⟨(ad.add (k * 101)).block, (ad.add (k * 101)).off + 68, none⟩ (bcells (L k).k)) := hide (fun w' h => (by have h1 := h.1.sub 68 100; rw [sg_key, add_68] at h1; exact h1)); have hSb : Hid (∀ w' : World, (CellsIn w' (ad.add (k * 101)) (sgCells (L k)) ∧ CellsIn w' (ad.add (j * 101)) (sgCells (L j))) → CellsIn w' ⟨(ad.add (j * 101)).block, (ad.add (j * 101)).off + 68, none⟩ (bcells (L j).k)) := hide (fun w' h => (by have h1 := h.2.sub 68 100; rw [sg_key, add_68] at h1; exact h1)); have hSva : Hid (∀ w' : World, (CellsIn w' (ad.add (k * 101)) (sgCells (L k)) ∧ CellsIn w' (ad.add (j * 101)) (sgCells (L j))) → CellsIn w' (ad.add (k * 101)) (vtCells (L k).v)) := hide (fun w' h => (by have h1 := h.1.sub 0 68; rw [sg_vote, addr_add] at h1; exact h1)); have hSvb : Hid (∀ w' : World, (CellsIn w' (ad.add (k * 101)) (sgCells (L k)) ∧ CellsIn w' (ad.add (j * 101)) (sgCells (L j))) → CellsIn w' (ad.add (j * 101)) (vtCells (L j).v)) := hide (fun w' h => (by have h1 := h.2.sub 0 68; rw [sg_vote, addr_add] at h1; exact h1)); have hia : (Try.prog.info? 26).map (·.size) = some (bcells (L k).k).size := (by rw [size_bcells]; kernel_rfl); have hib : (Try.prog.info? 26).map (·.size) = some (bcells (L j).k).size := (by rw [size_bcells]; kernel_rfl); have hja : (Try.prog.info? 31).map (·.size) = some (vtCells (L k).v).size := (by rw [size_vtCells]; kernel_rfl); have hjb : (Try.prog.info? 31).map (·.size) = some (vtCells (L j).v).size := (by rw [size_vtCells]; kernel_rfl)
                              refine wp_region_held_drew (S := fun w' => CellsIn w' (ad.add (k * 101)) (sgCells (L k)) ∧ CellsIn w' (ad.add (j * 101)) (sgCells (L j))) (by kernel_rfl) ⟨hcW.out _ (hx8.then (ext_drew _)) k hki, hcW.out _ (hx8.then (ext_drew _)) j hji⟩ (fun hHeld => ?_)
                              (refine wpAnyH_take (i := 0) (v := ?_) (by simp only [List.getElem?_toArray, List.getElem?_cons_succ, List.getElem?_cons_zero]; exact rfl) (by kernel_rfl) (by kernel_rfl) (by kernel_rfl) (by exact fun _ _ _ h => h) (Or.inl ⟨by rfl, ?_⟩) (by assumption) ?_; rotate_left; (intro wz hSz; go_simp; try (with_reducible rfl)); simp only [Act.put, List.setIfInBounds_toArray, List.set_cons_zero, List.set_cons_succ])
                              (refine wpAnyH_take (i := 1) (v := ?_) (by simp only [List.getElem?_toArray, List.getElem?_cons_succ, List.getElem?_cons_zero]; exact rfl) (by kernel_rfl) (by kernel_rfl) (by kernel_rfl) (by exact fun _ _ _ h => h) (Or.inl ⟨by rfl, ?_⟩) (by assumption) ?_; rotate_left; (intro wz hSz; go_simp; try (with_reducible rfl)); simp only [Act.put, List.setIfInBounds_toArray, List.set_cons_zero, List.set_cons_succ])
                              (refine wpAnyH_take (i := 2) (v := ?_) (by simp only [List.getElem?_toArray, List.getElem?_cons_succ, List.getElem?_cons_zero]; exact rfl) (by kernel_rfl) (by kernel_rfl) (by kernel_rfl) (by exact fun _ _ _ h => h) (Or.inl ⟨by rfl, ?_⟩) (by assumption) ?_; rotate_left; (intro wz hSz; go_simp; try (with_reducible rfl)); simp only [Act.put, List.setIfInBounds_toArray, List.set_cons_zero, List.set_cons_succ])
                              (refine wpAnyH_take (i := 3) (v := ?_) (by simp only [List.getElem?_toArray, List.getElem?_cons_succ, List.getElem?_cons_zero]; exact rfl) (by kernel_rfl) (by kernel_rfl) (by kernel_rfl) (by exact fun _ _ _ h => h) (Or.inl ⟨by rfl, ?_⟩) (by assumption) ?_; rotate_left; (intro wz hSz; go_simp; try (with_reducible rfl)); simp only [Act.put, List.setIfInBounds_toArray, List.set_cons_zero, List.set_cons_succ])
                              (refine wpAnyH_take (i := 4) (v := ?_) (by simp only [List.getElem?_toArray, List.getElem?_cons_succ, List.getElem?_cons_zero]; exact rfl) (by kernel_rfl) (by kernel_rfl) (by kernel_rfl) (by exact fun _ _ _ h => h) (Or.inl ⟨by rfl, ?_⟩) (by assumption) ?_; rotate_left; (intro wz hSz; go_simp; try (with_reducible rfl)); simp only [Act.put, List.setIfInBounds_toArray, List.set_cons_zero, List.set_cons_succ])
                              (refine wpAnyH_take (i := 5) (v := ?_) (by simp only [List.getElem?_toArray, List.getElem?_cons_succ, List.getElem?_cons_zero]; exact rfl) (by kernel_rfl) (by kernel_rfl) (by kernel_rfl) (by exact fun _ _ _ h => h) (Or.inl ⟨by rfl, ?_⟩) (by assumption) ?_; rotate_left; (intro wz hSz; go_simp; try (with_reducible rfl)); simp only [Act.put, List.setIfInBounds_toArray, List.set_cons_zero, List.set_cons_succ])
                              (refine wpAnyH_take (i := 6) (v := _) (by simp only [List.getElem?_toArray, List.getElem?_cons_succ, List.getElem?_cons_zero]; exact rfl) (by kernel_rfl) (by kernel_rfl) (by kernel_rfl) (by exact fun _ _ _ h => h) (yieldsIf_load_cells (by rfl) _ _ rfl _ rfl _ _ hSa.out huH rfl hia) (by assumption) ?_; simp only [Act.put, List.setIfInBounds_toArray, List.set_cons_zero, List.set_cons_succ])
                              (refine wpAnyH_take (i := 7) (v := ?_) (by simp only [List.getElem?_toArray, List.getElem?_cons_succ, List.getElem?_cons_zero]; exact rfl) (by kernel_rfl) (by kernel_rfl) (by kernel_rfl) (by exact fun _ _ _ h => h) (Or.inl ⟨by rfl, ?_⟩) (by assumption) ?_; rotate_left; (intro wz hSz; go_simp; try (with_reducible rfl)); simp only [Act.put, List.setIfInBounds_toArray, List.set_cons_zero, List.set_cons_succ])
                              (refine wpAnyH_take (i := 8) (v := ?_) (by simp only [List.getElem?_toArray, List.getElem?_cons_succ, List.getElem?_cons_zero]; exact rfl) (by kernel_rfl) (by kernel_rfl) (by kernel_rfl) (by exact fun _ _ _ h => h) (Or.inl ⟨by rfl, ?_⟩) (by assumption) ?_; rotate_left; (intro wz hSz; go_simp; try (with_reducible rfl)); simp only [Act.put, List.setIfInBounds_toArray, List.set_cons_zero, List.set_cons_succ])
                              (refine wpAnyH_take (i := 9) (v := ?_) (by simp only [List.getElem?_toArray, List.getElem?_cons_succ, List.getElem?_cons_zero]; exact rfl) (by kernel_rfl) (by kernel_rfl) (by kernel_rfl) (by exact fun _ _ _ h => h) (Or.inl ⟨by rfl, ?_⟩) (by assumption) ?_; rotate_left; (intro wz hSz; go_simp; try (with_reducible rfl)); simp only [Act.put, List.setIfInBounds_toArray, List.set_cons_zero, List.set_cons_succ])
                              (refine wpAnyH_take (i := 10) (v := ?_) (by simp only [List.getElem?_toArray, List.getElem?_cons_succ, List.getElem?_cons_zero]; exact rfl) (by kernel_rfl) (by kernel_rfl) (by kernel_rfl) (by exact fun _ _ _ h => h) (Or.inl ⟨by rfl, ?_⟩) (by assumption) ?_; rotate_left; (intro wz hSz; go_simp; try (with_reducible rfl)); simp only [Act.put, List.setIfInBounds_toArray, List.set_cons_zero, List.set_cons_succ])
                              (refine wpAnyH_take (i := 11) (v := _) (by simp only [List.getElem?_toArray, List.getElem?_cons_succ, List.getElem?_cons_zero]; exact rfl) (by kernel_rfl) (by kernel_rfl) (by kernel_rfl) (by exact fun _ _ _ h => h) (yieldsIf_load_cells (by rfl) _ _ rfl _ rfl _ _ hSb.out huH rfl hib) (by assumption) ?_; simp only [Act.put, List.setIfInBounds_toArray, List.set_cons_zero, List.set_cons_succ])
                              (refine wpAnyH_take (i := 12) (v := ?_) (by simp only [List.getElem?_toArray, List.getElem?_cons_succ, List.getElem?_cons_zero]; exact rfl) (by kernel_rfl) (by kernel_rfl) (by kernel_rfl) (by exact fun _ _ _ h => h) (Or.inl ⟨by rfl, ?_⟩) (by assumption) ?_; rotate_left; (intro wz hSz; go_simp; try (with_reducible rfl)); simp only [Act.put, List.setIfInBounds_toArray, List.set_cons_zero, List.set_cons_succ])
                              (refine wpAnyH_take (i := 13) (v := ?_) (by simp only [List.getElem?_toArray, List.getElem?_cons_succ, List.getElem?_cons_zero]; exact rfl) (by kernel_rfl) (by kernel_rfl) (by kernel_rfl) (by exact fun _ _ _ h => h) (Or.inl ⟨by rfl, ?_⟩) (by assumption) ?_; rotate_left; (intro wz hSz; go_simp; try (with_reducible rfl)); simp only [Act.put, List.setIfInBounds_toArray, List.set_cons_zero, List.set_cons_succ])
                              (refine wpAnyH_take (i := 14) (v := ?_) (by simp only [List.getElem?_toArray, List.getElem?_cons_succ, List.getElem?_cons_zero]; exact rfl) (by kernel_rfl) (by kernel_rfl) (by kernel_rfl) (by exact fun _ _ _ h => h) (Or.inl ⟨by rfl, ?_⟩) (by assumption) ?_; rotate_left; (intro wz hSz; go_simp; try (with_reducible rfl)); simp only [Act.put, List.setIfInBounds_toArray, List.set_cons_zero, List.set_cons_succ])
                              (refine wpAnyH_take (i := 15) (v := ?_) (by simp only [List.getElem?_toArray, List.getElem?_cons_succ, List.getElem?_cons_zero]; exact rfl) (by kernel_rfl) (by kernel_rfl) (by kernel_rfl) (by exact fun _ _ _ h => h) (Or.inl ⟨by rfl, ?_⟩) (by assumption) ?_; rotate_left; (intro wz hSz; go_simp; try (with_reducible rfl)); simp only [Act.put, List.setIfInBounds_toArray, List.set_cons_zero, List.set_cons_succ])
                              (refine wpAnyH_take (i := 16) (v := ?_) (by simp only [List.getElem?_toArray, List.getElem?_cons_succ, List.getElem?_cons_zero]; exact rfl) (by kernel_rfl) (by kernel_rfl) (by kernel_rfl) (by exact fun _ _ _ h => h) (Or.inl ⟨by rfl, ?_⟩) (by assumption) ?_; rotate_left; (intro wz hSz; go_simp; try (with_reducible rfl)); simp only [Act.put, List.setIfInBounds_toArray, List.set_cons_zero, List.set_cons_succ])
                              (refine wpAnyH_take (i := 17) (v := ?_) (by simp only [List.getElem?_toArray, List.getElem?_cons_succ, List.getElem?_cons_zero]; exact rfl) (by kernel_rfl) (by kernel_rfl) (by kernel_rfl) (by exact fun _ _ _ h => h) (Or.inl ⟨by rfl, ?_⟩) (by assumption) ?_; rotate_left; (intro wz hSz; go_simp; try (with_reducible rfl)); simp only [Act.put, List.setIfInBounds_toArray, List.set_cons_zero, List.set_cons_succ])
                              (refine wpAnyH_take (i := 18) (v := _) (by simp only [List.getElem?_toArray, List.getElem?_cons_succ, List.getElem?_cons_zero]; exact rfl) (by kernel_rfl) (by kernel_rfl) (by kernel_rfl) (by exact fun _ _ _ h => h) (yieldsIf_load_cells (by rfl) _ _ rfl _ rfl _ _ hSvb.out huV rfl hjb) (by assumption) ?_; simp only [Act.put, List.setIfInBounds_toArray, List.set_cons_zero, List.set_cons_succ])
                              (refine wpAnyH_take (i := 19) (v := ?_) (by simp only [List.getElem?_toArray, List.getElem?_cons_succ, List.getElem?_cons_zero]; exact rfl) (by kernel_rfl) (by kernel_rfl) (by kernel_rfl) (by exact fun _ _ _ h => h) (Or.inl ⟨by rfl, ?_⟩) (by assumption) ?_; rotate_left; (intro wz hSz; go_simp; try (with_reducible rfl)); simp only [Act.put, List.setIfInBounds_toArray, List.set_cons_zero, List.set_cons_succ])
                              (refine wpAnyH_take (i := 20) (v := ?_) (by simp only [List.getElem?_toArray, List.getElem?_cons_succ, List.getElem?_cons_zero]; exact rfl) (by kernel_rfl) (by kernel_rfl) (by kernel_rfl) (by exact fun _ _ _ h => h) (Or.inl ⟨by rfl, ?_⟩) (by assumption) ?_; rotate_left; (intro wz hSz; go_simp; try (with_reducible rfl)); simp only [Act.put, List.setIfInBounds_toArray, List.set_cons_zero, List.set_cons_succ])
                              (refine wpAnyH_take (i := 21) (v := ?_) (by simp only [List.getElem?_toArray, List.getElem?_cons_succ, List.getElem?_cons_zero]; exact rfl) (by kernel_rfl) (by kernel_rfl) (by kernel_rfl) (by exact fun _ _ _ h => h) (Or.inl ⟨by rfl, ?_⟩) (by assumption) ?_; rotate_left; (intro wz hSz; go_simp; try (with_reducible rfl)); simp only [Act.put, List.setIfInBounds_toArray, List.set_cons_zero, List.set_cons_succ])
                              (refine wpAnyH_take (i := 22) (v := ?_) (by simp only [List.getElem?_toArray, List.getElem?_cons_succ, List.getElem?_cons_zero]; exact rfl) (by kernel_rfl) (by kernel_rfl) (by kernel_rfl) (by exact fun _ _ _ h => h) (Or.inl ⟨by rfl, ?_⟩) (by assumption) ?_; rotate_left; (intro wz hSz; go_simp; try (with_reducible rfl)); simp only [Act.put, List.setIfInBounds_toArray, List.set_cons_zero, List.set_cons_succ])
                              (refine wpAnyH_take (i := 23) (v := _) (by simp only [List.getElem?_toArray, List.getElem?_cons_succ, List.getElem?_cons_zero]; exact rfl) (by kernel_rfl) (by kernel_rfl) (by kernel_rfl) (by exact fun _ _ _ h => h) (yieldsIf_load_cells (by rfl) _ _ rfl _ rfl _ _ hSva.out huV rfl hja) (by assumption) ?_; simp only [Act.put, List.setIfInBounds_toArray, List.set_cons_zero, List.set_cons_succ])
                              refine wpAnyH_ready (rs := [24]) (by kernel_rfl) (by simp) (AllReadyH.cons (o := _) (by simp only [List.getElem?_toArray, List.getElem?_cons_succ, List.getElem?_cons_zero]; exact rfl) (fun K' hK' => ?_) AllReadyH.nil); go_simp
                              go_at_call 10
                              (with_reducible refine (refBreaks_any (L j).v (L k).v _).mono ?_)
                              rintro r w9 ⟨rfl, hx9⟩
                              have hx9' := hx8.then ((ext_drew w8).then hx9)
                              go_wp2_with fail
                              refine hK'.out _ _ ⟨hcW.out _ hx9' k hki, hcW.out _ hx9' j hji⟩ (fun hHeld => ?_); clear hK' K'; try simp only [Act.put, List.setIfInBounds_toArray, List.set_cons_zero, List.set_cons_succ]
                              (refine wpAnyH_take (i := 25) (v := ?_) (by simp only [List.getElem?_toArray, List.getElem?_cons_succ, List.getElem?_cons_zero]; exact rfl) (by kernel_rfl) (by kernel_rfl) (by kernel_rfl) (by exact fun _ _ _ h => h) (Or.inl ⟨by rfl, ?_⟩) (by assumption) ?_; rotate_left; (intro wz hSz; go_simp; try (with_reducible rfl)); simp only [Act.put, List.setIfInBounds_toArray, List.set_cons_zero, List.set_cons_succ])
                              (refine wpAnyH_take (i := 26) (v := ?_) (by simp only [List.getElem?_toArray, List.getElem?_cons_succ, List.getElem?_cons_zero]; exact rfl) (by kernel_rfl) (by kernel_rfl) (by kernel_rfl) (by exact fun _ _ _ h => h) (Or.inl ⟨by rfl, ?_⟩) (by assumption) ?_; rotate_left; (intro wz hSz; go_simp; try (with_reducible rfl)); simp only [Act.put, List.setIfInBounds_toArray, List.set_cons_zero, List.set_cons_succ])
                              (refine wpAnyH_take (i := 27) (v := ?_) (by simp only [List.getElem?_toArray, List.getElem?_cons_succ, List.getElem?_cons_zero]; exact rfl) (by kernel_rfl) (by kernel_rfl) (by kernel_rfl) (by exact fun _ _ _ h => h) (Or.inl ⟨by rfl, ?_⟩) (by assumption) ?_; rotate_left; (intro wz hSz; go_simp; try (with_reducible rfl)); simp only [Act.put, List.setIfInBounds_toArray, List.set_cons_zero, List.set_cons_succ])
                              refine wpAnyH_done (by kernel_rfl) ?_ _
                              go_wp2_with fail
                              go_meet
                              exact ⟨by simp [firstB, hb1.out], hx9'⟩
                        · go_quiet (fail)
                          go_wp2_with fail
                          go_meet
                          exact ⟨by simp, hx8.then (ext_drewN _ nq)⟩
                      case rest =>
                        obtain ⟨rfl, hx9⟩ := hcut
                        obtain ⟨qB, hqB⟩ : ∃ q, q = (qA || firstB L j k) := ⟨_, rfl⟩
                        rw [← hqB]
                        replace hqB := hide hqB
                        clear hx8
                        go_wp2_with fail
                        go_loopw [12, 14] (fun s12 s14 wr => ∃ x : Nat, x ≤ i ∧ s14 = .int .i64 x ∧ s12 = .bool (qB || (List.range x).any fun x => breakB L j k x) ∧ Ext w6 wr) (fun _ s _ => (i - intOf s).toNat)
                        case atStart => exact ⟨0, by omega, rfl, by simp, hx9⟩
                        case round =>
                          clear hx9
                          obtain ⟨x, hxi, rfl, rfl, hx8⟩ := hrel
                          obtain ⟨w8, rfl⟩ : ∃ v, v = wr := ⟨_, rfl⟩
                          by_cases hxl : x < i
                          · have hxl' : (x : Int) < i := by omega
                            have hx0 : (0 : Int) ≤ x := by omega
                            have hsv := range_any_succ (fun x => breakB L j k x) x
                            generalize (List.range x).any (fun x => breakB L j k x) = qC at *
                            obtain ⟨qD, hqD⟩ : ∃ q, q = (qB || qC) := ⟨_, rfl⟩
                            rw [← hqD]
                            have hfin : (qB || (List.range (x + 1)).any fun x => breakB L j k x) = (qD || breakB L j k x) := by rw [hsv, hqD, Bool.or_assoc]
                            replace hfin := hide hfin
                            clear hsv hqD
                            go_wp2_with fail
                            have hca := fun m' => load_key (hcW.out _ (hx8.then (ext_drewN w8 m')) k hki)
                            have hcb := fun m' => load_key (hcW.out _ (hx8.then (ext_drewN w8 m')) j hji)
                            have hcc := fun m' => load_key (hcW.out _ (hx8.then (ext_drewN w8 m')) x hxl)
                            cases qD
                            · cases hb1 : bsEq (L k).k (L j).k
                              · have eq2 : ∀ w', (Op.equalIn 10000 26 (.agg (bcells (L k).k)) (.agg (bcells (L j).k))).run Try.prog w' = .ok false w' := fun w' => by rw [← hb1]; exact equal_hashF w' _ _
                                replace hb1 := hide hb1
                                go_quiet (fail)
                                go_wp2_with fail
                                exact ⟨⟨x + 1, by omega, by go_num, by rw [hfin.out]; simp [breakB, hb1.out], hx8.then (ext_drewN _ nq)⟩, by simp [intOf]; omega⟩
                              · have eq2 : ∀ w', (Op.equalIn 10000 26 (.agg (bcells (L k).k)) (.agg (bcells (L j).k))).run Try.prog w' = .ok true w' := fun w' => by rw [← hb1]; exact equal_hashF w' _ _
                                replace hb1 := hide hb1
                                cases hb2 : bsEq (L x).k (L j).k
                                · have eq3 : ∀ w', (Op.equalIn 10000 26 (.agg (bcells (L x).k)) (.agg (bcells (L j).k))).run Try.prog w' = .ok false w' := fun w' => by rw [← hb2]; exact equal_hashF w' _ _
                                  replace hb2 := hide hb2
                                  go_quiet (fail)
                                  go_wp2_with fail
                                  exact ⟨⟨x + 1, by omega, by go_num, by rw [hfin.out]; simp [breakB, hb2.out], hx8.then (ext_drewN _ nq)⟩, by simp [intOf]; omega⟩
                                · have eq3 : ∀ w', (Op.equalIn 10000 26 (.agg (bcells (L x).k)) (.agg (bcells (L j).k))).run Try.prog w' = .ok true w' := fun w' => by rw [← hb2]; exact equal_hashF w' _ _
                                  replace hb2 := hide hb2
                                  clear hca hcb hcc
                                  as_aux_lemma =>
                                    have hSall : Hid (∀ w', Ext w6 w' → (CellsIn w' (ad.add (k * 101)) (sgCells (L k)) ∧ CellsIn w' (ad.add (j * 101)) (sgCells (L j)) ∧ CellsIn w' (ad.add (x * 101)) (sgCells (L x)))) := hide (fun w' h => ⟨hcW.out _ h k (by omega), hcW.out _ h j (by omega), hcW.out _ h x (by omega)⟩); have hSa : Hid (∀ w' : World, (CellsIn w' (ad.add (k * 101)) (sgCells (L k)) ∧ CellsIn w' (ad.add (j * 101)) (sgCells (L j)) ∧ CellsIn w' (ad.add (x * 101)) (sgCells (L x))) → CellsIn w' ⟨(ad.add (k * 101)).block, (ad.add (k * 101)).off + 68, none⟩ (bcells (L k).k)) := hide (fun w' h => (by have h1 := (h.1).sub 68 100; rw [sg_key, add_68] at h1; exact h1)); have hSva : Hid (∀ w' : World, (CellsIn w' (ad.add (k * 101)) (sgCells (L k)) ∧ CellsIn w' (ad.add (j * 101)) (sgCells (L j)) ∧ CellsIn w' (ad.add (x * 101)) (sgCells (L x))) → CellsIn w' (ad.add (k * 101)) (vtCells (L k).v)) := hide (fun w' h => (by have h1 := (h.1).sub 0 68; rw [sg_vote, addr_add] at h1; exact h1)); have hia : (Try.prog.info? 26).map (·.size) = some (bcells (L k).k).size := (by rw [size_bcells]; kernel_rfl); have hja : (Try.prog.info? 31).map (·.size) = some (vtCells (L k).v).size := (by rw [size_vtCells]; kernel_rfl); have hSb : Hid (∀ w' : World, (CellsIn w' (ad.add (k * 101)) (sgCells (L k)) ∧ CellsIn w' (ad.add (j * 101)) (sgCells (L j)) ∧ CellsIn w' (ad.add (x * 101)) (sgCells (L x))) → CellsIn w' ⟨(ad.add (j * 101)).block, (ad.add (j * 101)).off + 68, none⟩ (bcells (L j).k)) := hide (fun w' h => (by have h1 := (h.2.1).sub 68 100; rw [sg_key, add_68] at h1; exact h1)); have hSvb : Hid (∀ w' : World, (CellsIn w' (ad.add (k * 101)) (sgCells (L k)) ∧ CellsIn w' (ad.add (j * 101)) (sgCells (L j)) ∧ CellsIn w' (ad.add (x * 101)) (sgCells (L x))) → CellsIn w' (ad.add (j * 101)) (vtCells (L j).v)) := hide (fun w' h => (by have h1 := (h.2.1).sub 0 68; rw [sg_vote, addr_add] at h1; exact h1)); have hib : (Try.prog.info? 26).map (·.size) = some (bcells (L j).k).size := (by rw [size_bcells]; kernel_rfl); have hjb : (Try.prog.info? 31).map (·.size) = some (vtCells (L j).v).size := (by rw [size_vtCells]; kernel_rfl); have hSc : Hid (∀ w' : World, (CellsIn w' (ad.add (k * 101)) (sgCells (L k)) ∧ CellsIn w' (ad.add (j * 101)) (sgCells (L j)) ∧ CellsIn w' (ad.add (x * 101)) (sgCells (L x))) → CellsIn w' ⟨(ad.add (x * 101)).block, (ad.add (x * 101)).off + 68, none⟩ (bcells (L x).k)) := hide (fun w' h => (by have h1 := (h.2.2).sub 68 100; rw [sg_key, add_68] at h1; exact h1)); have hSvc : Hid (∀ w' : World, (CellsIn w' (ad.add (k * 101)) (sgCells (L k)) ∧ CellsIn w' (ad.add (j * 101)) (sgCells (L j)) ∧ CellsIn w' (ad.add (x * 101)) (sgCells (L x))) → CellsIn w' (ad.add (x * 101)) (vtCells (L x).v)) := hide (fun w' h => (by have h1 := (h.2.2).sub 0 68; rw [sg_vote, addr_add] at h1; exact h1)); have hic : (Try.prog.info? 26).map (·.size) = some (bcells (L x).k).size := (by rw [size_bcells]; kernel_rfl); have hjc : (Try.prog.info? 31).map (·.size) = some (vtCells (L x).v).size := (by rw [size_vtCells]; kernel_rfl)
                                    refine wp_region_held_drew (S := fun w' => CellsIn w' (ad.add (k * 101)) (sgCells (L k)) ∧ CellsIn w' (ad.add (j * 101)) (sgCells (L j)) ∧ CellsIn w' (ad.add (x * 101)) (sgCells (L x))) (by kernel_rfl) (hSall.out _ (hx8.then (ext_drew _))) (fun hHeld => ?_)
                                    (refine wpAnyH_take (i := 0) (v := ?_) (by simp only [List.getElem?_toArray, List.getElem?_cons_succ, List.getElem?_cons_zero]; exact rfl) (by kernel_rfl) (by kernel_rfl) (by kernel_rfl) (by exact fun _ _ _ h => h) (Or.inl ⟨by rfl, ?_⟩) (by assumption) ?_; rotate_left; (intro wz hSz; go_simp; try (with_reducible rfl)); simp only [Act.put, List.setIfInBounds_toArray, List.set_cons_zero, List.set_cons_succ])
                                    (refine wpAnyH_take (i := 1) (v := ?_) (by simp only [List.getElem?_toArray, List.getElem?_cons_succ, List.getElem?_cons_zero]; exact rfl) (by kernel_rfl) (by kernel_rfl) (by kernel_rfl) (by exact fun _ _ _ h => h) (Or.inl ⟨by rfl, ?_⟩) (by assumption) ?_; rotate_left; (intro wz hSz; go_simp; try (with_reducible rfl)); simp only [Act.put, List.setIfInBounds_toArray, List.set_cons_zero, List.set_cons_succ])
                                    (refine wpAnyH_take (i := 2) (v := ?_) (by simp only [List.getElem?_toArray, List.getElem?_cons_succ, List.getElem?_cons_zero]; exact rfl) (by kernel_rfl) (by kernel_rfl) (by kernel_rfl) (by exact fun _ _ _ h => h) (Or.inl ⟨by rfl, ?_⟩) (by assumption) ?_; rotate_left; (intro wz hSz; go_simp; try (with_reducible rfl)); simp only [Act.put, List.setIfInBounds_toArray, List.set_cons_zero, List.set_cons_succ])
                                    (refine wpAnyH_take (i := 3) (v := ?_) (by simp only [List.getElem?_toArray, List.getElem?_cons_succ, List.getElem?_cons_zero]; exact rfl) (by kernel_rfl) (by kernel_rfl) (by kernel_rfl) (by exact fun _ _ _ h => h) (Or.inl ⟨by rfl, ?_⟩) (by assumption) ?_; rotate_left; (intro wz hSz; go_simp; try (with_reducible rfl)); simp only [Act.put, List.setIfInBounds_toArray, List.set_cons_zero, List.set_cons_succ])
                                    (refine wpAnyH_take (i := 4) (v := ?_) (by simp only [List.getElem?_toArray, List.getElem?_cons_succ, List.getElem?_cons_zero]; exact rfl) (by kernel_rfl) (by kernel_rfl) (by kernel_rfl) (by exact fun _ _ _ h => h) (Or.inl ⟨by rfl, ?_⟩) (by assumption) ?_; rotate_left; (intro wz hSz; go_simp; try (with_reducible rfl)); simp only [Act.put, List.setIfInBounds_toArray, List.set_cons_zero, List.set_cons_succ])
                                    (refine wpAnyH_take (i := 5) (v := ?_) (by simp only [List.getElem?_toArray, List.getElem?_cons_succ, List.getElem?_cons_zero]; exact rfl) (by kernel_rfl) (by kernel_rfl) (by kernel_rfl) (by exact fun _ _ _ h => h) (Or.inl ⟨by rfl, ?_⟩) (by assumption) ?_; rotate_left; (intro wz hSz; go_simp; try (with_reducible rfl)); simp only [Act.put, List.setIfInBounds_toArray, List.set_cons_zero, List.set_cons_succ])
                                    (refine wpAnyH_take (i := 6) (v := _) (by simp only [List.getElem?_toArray, List.getElem?_cons_succ, List.getElem?_cons_zero]; exact rfl) (by kernel_rfl) (by kernel_rfl) (by kernel_rfl) (by exact fun _ _ _ h => h) (yieldsIf_load_cells (by rfl) _ _ rfl _ rfl _ _ hSa.out huH rfl hia) (by assumption) ?_; simp only [Act.put, List.setIfInBounds_toArray, List.set_cons_zero, List.set_cons_succ])
                                    (refine wpAnyH_take (i := 7) (v := ?_) (by simp only [List.getElem?_toArray, List.getElem?_cons_succ, List.getElem?_cons_zero]; exact rfl) (by kernel_rfl) (by kernel_rfl) (by kernel_rfl) (by exact fun _ _ _ h => h) (Or.inl ⟨by rfl, ?_⟩) (by assumption) ?_; rotate_left; (intro wz hSz; go_simp; try (with_reducible rfl)); simp only [Act.put, List.setIfInBounds_toArray, List.set_cons_zero, List.set_cons_succ])
                                    (refine wpAnyH_take (i := 8) (v := ?_) (by simp only [List.getElem?_toArray, List.getElem?_cons_succ, List.getElem?_cons_zero]; exact rfl) (by kernel_rfl) (by kernel_rfl) (by kernel_rfl) (by exact fun _ _ _ h => h) (Or.inl ⟨by rfl, ?_⟩) (by assumption) ?_; rotate_left; (intro wz hSz; go_simp; try (with_reducible rfl)); simp only [Act.put, List.setIfInBounds_toArray, List.set_cons_zero, List.set_cons_succ])
                                    (refine wpAnyH_take (i := 9) (v := ?_) (by simp only [List.getElem?_toArray, List.getElem?_cons_succ, List.getElem?_cons_zero]; exact rfl) (by kernel_rfl) (by kernel_rfl) (by kernel_rfl) (by exact fun _ _ _ h => h) (Or.inl ⟨by rfl, ?_⟩) (by assumption) ?_; rotate_left; (intro wz hSz; go_simp; try (with_reducible rfl)); simp only [Act.put, List.setIfInBounds_toArray, List.set_cons_zero, List.set_cons_succ])
                                    (refine wpAnyH_take (i := 10) (v := ?_) (by simp only [List.getElem?_toArray, List.getElem?_cons_succ, List.getElem?_cons_zero]; exact rfl) (by kernel_rfl) (by kernel_rfl) (by kernel_rfl) (by exact fun _ _ _ h => h) (Or.inl ⟨by rfl, ?_⟩) (by assumption) ?_; rotate_left; (intro wz hSz; go_simp; try (with_reducible rfl)); simp only [Act.put, List.setIfInBounds_toArray, List.set_cons_zero, List.set_cons_succ])
                                    (refine wpAnyH_take (i := 11) (v := _) (by simp only [List.getElem?_toArray, List.getElem?_cons_succ, List.getElem?_cons_zero]; exact rfl) (by kernel_rfl) (by kernel_rfl) (by kernel_rfl) (by exact fun _ _ _ h => h) (yieldsIf_load_cells (by rfl) _ _ rfl _ rfl _ _ hSb.out huH rfl hib) (by assumption) ?_; simp only [Act.put, List.setIfInBounds_toArray, List.set_cons_zero, List.set_cons_succ])
                                    (refine wpAnyH_take (i := 12) (v := ?_) (by simp only [List.getElem?_toArray, List.getElem?_cons_succ, List.getElem?_cons_zero]; exact rfl) (by kernel_rfl) (by kernel_rfl) (by kernel_rfl) (by exact fun _ _ _ h => h) (Or.inl ⟨by rfl, ?_⟩) (by assumption) ?_; rotate_left; (intro wz hSz; go_simp; try (with_reducible rfl)); simp only [Act.put, List.setIfInBounds_toArray, List.set_cons_zero, List.set_cons_succ])
                                    (refine wpAnyH_take (i := 13) (v := ?_) (by simp only [List.getElem?_toArray, List.getElem?_cons_succ, List.getElem?_cons_zero]; exact rfl) (by kernel_rfl) (by kernel_rfl) (by kernel_rfl) (by exact fun _ _ _ h => h) (Or.inl ⟨by rfl, ?_⟩) (by assumption) ?_; rotate_left; (intro wz hSz; go_simp; try (with_reducible rfl)); simp only [Act.put, List.setIfInBounds_toArray, List.set_cons_zero, List.set_cons_succ])
                                    (refine wpAnyH_take (i := 14) (v := ?_) (by simp only [List.getElem?_toArray, List.getElem?_cons_succ, List.getElem?_cons_zero]; exact rfl) (by kernel_rfl) (by kernel_rfl) (by kernel_rfl) (by exact fun _ _ _ h => h) (Or.inl ⟨by rfl, ?_⟩) (by assumption) ?_; rotate_left; (intro wz hSz; go_simp; try (with_reducible rfl)); simp only [Act.put, List.setIfInBounds_toArray, List.set_cons_zero, List.set_cons_succ])
                                    (refine wpAnyH_take (i := 15) (v := ?_) (by simp only [List.getElem?_toArray, List.getElem?_cons_succ, List.getElem?_cons_zero]; exact rfl) (by kernel_rfl) (by kernel_rfl) (by kernel_rfl) (by exact fun _ _ _ h => h) (Or.inl ⟨by rfl, ?_⟩) (by assumption) ?_; rotate_left; (intro wz hSz; go_simp; try (with_reducible rfl)); simp only [Act.put, List.setIfInBounds_toArray, List.set_cons_zero, List.set_cons_succ])
                                    (refine wpAnyH_take (i := 16) (v := ?_) (by simp only [List.getElem?_toArray, List.getElem?_cons_succ, List.getElem?_cons_zero]; exact rfl) (by kernel_rfl) (by kernel_rfl) (by kernel_rfl) (by exact fun _ _ _ h => h) (Or.inl ⟨by rfl, ?_⟩) (by assumption) ?_; rotate_left; (intro wz hSz; go_simp; try (with_reducible rfl)); simp only [Act.put, List.setIfInBounds_toArray, List.set_cons_zero, List.set_cons_succ])
                                    (refine wpAnyH_take (i := 17) (v := ?_) (by simp only [List.getElem?_toArray, List.getElem?_cons_succ, List.getElem?_cons_zero]; exact rfl) (by kernel_rfl) (by kernel_rfl) (by kernel_rfl) (by exact fun _ _ _ h => h) (Or.inl ⟨by rfl, ?_⟩) (by assumption) ?_; rotate_left; (intro wz hSz; go_simp; try (with_reducible rfl)); simp only [Act.put, List.setIfInBounds_toArray, List.set_cons_zero, List.set_cons_succ])
                                    (refine wpAnyH_take (i := 18) (v := _) (by simp only [List.getElem?_toArray, List.getElem?_cons_succ, List.getElem?_cons_zero]; exact rfl) (by kernel_rfl) (by kernel_rfl) (by kernel_rfl) (by exact fun _ _ _ h => h) (yieldsIf_load_cells (by rfl) _ _ rfl _ rfl _ _ hSc.out huH rfl hic) (by assumption) ?_; simp only [Act.put, List.setIfInBounds_toArray, List.set_cons_zero, List.set_cons_succ])
                                    (refine wpAnyH_take (i := 19) (v := ?_) (by simp only [List.getElem?_toArray, List.getElem?_cons_succ, List.getElem?_cons_zero]; exact rfl) (by kernel_rfl) (by kernel_rfl) (by kernel_rfl) (by exact fun _ _ _ h => h) (Or.inl ⟨by rfl, ?_⟩) (by assumption) ?_; rotate_left; (intro wz hSz; go_simp; try (with_reducible rfl)); simp only [Act.put, List.setIfInBounds_toArray, List.set_cons_zero, List.set_cons_succ])
                                    (refine wpAnyH_take (i := 20) (v := ?_) (by simp only [List.getElem?_toArray, List.getElem?_cons_succ, List.getElem?_cons_zero]; exact rfl) (by kernel_rfl) (by kernel_rfl) (by kernel_rfl) (by exact fun _ _ _ h => h) (Or.inl ⟨by rfl, ?_⟩) (by assumption) ?_; rotate_left; (intro wz hSz; go_simp; try (with_reducible rfl)); simp only [Act.put, List.setIfInBounds_toArray, List.set_cons_zero, List.set_cons_succ])
                                    (refine wpAnyH_take (i := 21) (v := ?_) (by simp only [List.getElem?_toArray, List.getElem?_cons_succ, List.getElem?_cons_zero]; exact rfl) (by kernel_rfl) (by kernel_rfl) (by kernel_rfl) (by exact fun _ _ _ h => h) (Or.inl ⟨by rfl, ?_⟩) (by assumption) ?_; rotate_left; (intro wz hSz; go_simp; try (with_reducible rfl)); simp only [Act.put, List.setIfInBounds_toArray, List.set_cons_zero, List.set_cons_succ])
                                    (refine wpAnyH_take (i := 22) (v := ?_) (by simp only [List.getElem?_toArray, List.getElem?_cons_succ, List.getElem?_cons_zero]; exact rfl) (by kernel_rfl) (by kernel_rfl) (by kernel_rfl) (by exact fun _ _ _ h => h) (Or.inl ⟨by rfl, ?_⟩) (by assumption) ?_; rotate_left; (intro wz hSz; go_simp; try (with_reducible rfl)); simp only [Act.put, List.setIfInBounds_toArray, List.set_cons_zero, List.set_cons_succ])
                                    (refine wpAnyH_take (i := 23) (v := _) (by simp only [List.getElem?_toArray, List.getElem?_cons_succ, List.getElem?_cons_zero]; exact rfl) (by kernel_rfl) (by kernel_rfl) (by kernel_rfl) (by exact fun _ _ _ h => h) (yieldsIf_load_cells (by rfl) _ _ rfl _ rfl _ _ hSb.out huH rfl hib) (by assumption) ?_; simp only [Act.put, List.setIfInBounds_toArray, List.set_cons_zero, List.set_cons_succ])
                                    (refine wpAnyH_take (i := 24) (v := ?_) (by simp only [List.getElem?_toArray, List.getElem?_cons_succ, List.getElem?_cons_zero]; exact rfl) (by kernel_rfl) (by kernel_rfl) (by kernel_rfl) (by exact fun _ _ _ h => h) (Or.inl ⟨by rfl, ?_⟩) (by assumption) ?_; rotate_left; (intro wz hSz; go_simp; try (with_reducible rfl)); simp only [Act.put, List.setIfInBounds_toArray, List.set_cons_zero, List.set_cons_succ])
                                    (refine wpAnyH_take (i := 25) (v := ?_) (by simp only [List.getElem?_toArray, List.getElem?_cons_succ, List.getElem?_cons_zero]; exact rfl) (by kernel_rfl) (by kernel_rfl) (by kernel_rfl) (by exact fun _ _ _ h => h) (Or.inl ⟨by rfl, ?_⟩) (by assumption) ?_; rotate_left; (intro wz hSz; go_simp; try (with_reducible rfl)); simp only [Act.put, List.setIfInBounds_toArray, List.set_cons_zero, List.set_cons_succ])
                                    (refine wpAnyH_take (i := 26) (v := ?_) (by simp only [List.getElem?_toArray, List.getElem?_cons_succ, List.getElem?_cons_zero]; exact rfl) (by kernel_rfl) (by kernel_rfl) (by kernel_rfl) (by exact fun _ _ _ h => h) (Or.inl ⟨by rfl, ?_⟩) (by assumption) ?_; rotate_left; (intro wz hSz; go_simp; try (with_reducible rfl)); simp only [Act.put, List.setIfInBounds_toArray, List.set_cons_zero, List.set_cons_succ])
                                    (refine wpAnyH_take (i := 27) (v := ?_) (by simp only [List.getElem?_toArray, List.getElem?_cons_succ, List.getElem?_cons_zero]; exact rfl) (by kernel_rfl) (by kernel_rfl) (by kernel_rfl) (by exact fun _ _ _ h => h) (Or.inl ⟨by rfl, ?_⟩) (by assumption) ?_; rotate_left; (intro wz hSz; go_simp; try (with_reducible rfl)); simp only [Act.put, List.setIfInBounds_toArray, List.set_cons_zero, List.set_cons_succ])
                                    (refine wpAnyH_take (i := 28) (v := ?_) (by simp only [List.getElem?_toArray, List.getElem?_cons_succ, List.getElem?_cons_zero]; exact rfl) (by kernel_rfl) (by kernel_rfl) (by kernel_rfl) (by exact fun _ _ _ h => h) (Or.inl ⟨by rfl, ?_⟩) (by assumption) ?_; rotate_left; (intro wz hSz; go_simp; try (with_reducible rfl)); simp only [Act.put, List.setIfInBounds_toArray, List.set_cons_zero, List.set_cons_succ])
                                    (refine wpAnyH_take (i := 29) (v := ?_) (by simp only [List.getElem?_toArray, List.getElem?_cons_succ, List.getElem?_cons_zero]; exact rfl) (by kernel_rfl) (by kernel_rfl) (by kernel_rfl) (by exact fun _ _ _ h => h) (Or.inl ⟨by rfl, ?_⟩) (by assumption) ?_; rotate_left; (intro wz hSz; go_simp; try (with_reducible rfl)); simp only [Act.put, List.setIfInBounds_toArray, List.set_cons_zero, List.set_cons_succ])
                                    (refine wpAnyH_take (i := 30) (v := ?_) (by simp only [List.getElem?_toArray, List.getElem?_cons_succ, List.getElem?_cons_zero]; exact rfl) (by kernel_rfl) (by kernel_rfl) (by kernel_rfl) (by exact fun _ _ _ h => h) (Or.inl ⟨by rfl, ?_⟩) (by assumption) ?_; rotate_left; (intro wz hSz; go_simp; try (with_reducible rfl)); simp only [Act.put, List.setIfInBounds_toArray, List.set_cons_zero, List.set_cons_succ])
                                    (refine wpAnyH_take (i := 31) (v := _) (by simp only [List.getElem?_toArray, List.getElem?_cons_succ, List.getElem?_cons_zero]; exact rfl) (by kernel_rfl) (by kernel_rfl) (by kernel_rfl) (by exact fun _ _ _ h => h) (yieldsIf_load_cells (by rfl) _ _ rfl _ rfl _ _ hSvc.out huV rfl hjc) (by assumption) ?_; simp only [Act.put, List.setIfInBounds_toArray, List.set_cons_zero, List.set_cons_succ])
                                    (refine wpAnyH_take (i := 32) (v := ?_) (by simp only [List.getElem?_toArray, List.getElem?_cons_succ, List.getElem?_cons_zero]; exact rfl) (by kernel_rfl) (by kernel_rfl) (by kernel_rfl) (by exact fun _ _ _ h => h) (Or.inl ⟨by rfl, ?_⟩) (by assumption) ?_; rotate_left; (intro wz hSz; go_simp; try (with_reducible rfl)); simp only [Act.put, List.setIfInBounds_toArray, List.set_cons_zero, List.set_cons_succ])
                                    (refine wpAnyH_take (i := 33) (v := ?_) (by simp only [List.getElem?_toArray, List.getElem?_cons_succ, List.getElem?_cons_zero]; exact rfl) (by kernel_rfl) (by kernel_rfl) (by kernel_rfl) (by exact fun _ _ _ h => h) (Or.inl ⟨by rfl, ?_⟩) (by assumption) ?_; rotate_left; (intro wz hSz; go_simp; try (with_reducible rfl)); simp only [Act.put, List.setIfInBounds_toArray, List.set_cons_zero, List.set_cons_succ])
                                    (refine wpAnyH_take (i := 34) (v := ?_) (by simp only [List.getElem?_toArray, List.getElem?_cons_succ, List.getElem?_cons_zero]; exact rfl) (by kernel_rfl) (by kernel_rfl) (by kernel_rfl) (by exact fun _ _ _ h => h) (Or.inl ⟨by rfl, ?_⟩) (by assumption) ?_; rotate_left; (intro wz hSz; go_simp; try (with_reducible rfl)); simp only [Act.put, List.setIfInBounds_toArray, List.set_cons_zero, List.set_cons_succ])
                                    (refine wpAnyH_take (i := 35) (v := ?_) (by simp only [List.getElem?_toArray, List.getElem?_cons_succ, List.getElem?_cons_zero]; exact rfl) (by kernel_rfl) (by kernel_rfl) (by kernel_rfl) (by exact fun _ _ _ h => h) (Or.inl ⟨by rfl, ?_⟩) (by assumption) ?_; rotate_left; (intro wz hSz; go_simp; try (with_reducible rfl)); simp only [Act.put, List.setIfInBounds_toArray, List.set_cons_zero, List.set_cons_succ])
                                    (refine wpAnyH_take (i := 36) (v := _) (by simp only [List.getElem?_toArray, List.getElem?_cons_succ, List.getElem?_cons_zero]; exact rfl) (by kernel_rfl) (by kernel_rfl) (by kernel_rfl) (by exact fun _ _ _ h => h) (yieldsIf_load_cells (by rfl) _ _ rfl _ rfl _ _ hSva.out huV rfl hja) (by assumption) ?_; simp only [Act.put, List.setIfInBounds_toArray, List.set_cons_zero, List.set_cons_succ])
                                    refine wpAnyH_ready (rs := [37]) (by kernel_rfl) (by simp) (AllReadyH.cons (o := _) (by simp only [List.getElem?_toArray, List.getElem?_cons_succ, List.getElem?_cons_zero]; exact rfl) (fun K' hK' => ?_) AllReadyH.nil); go_simp
                                    go_at_call 10
                                    (with_reducible refine (refBreaks_any (L x).v (L k).v _).mono ?_)
                                    rintro r w9 ⟨rfl, hx9⟩
                                    have hx9' := hx8.then ((ext_drew w8).then hx9)
                                    go_wp2_with fail
                                    refine hK'.out _ _ (hSall.out _ hx9') (fun hHeld => ?_); clear hK' K'; try simp only [Act.put, List.setIfInBounds_toArray, List.set_cons_zero, List.set_cons_succ]
                                    (refine wpAnyH_take (i := 38) (v := ?_) (by simp only [List.getElem?_toArray, List.getElem?_cons_succ, List.getElem?_cons_zero]; exact rfl) (by kernel_rfl) (by kernel_rfl) (by kernel_rfl) (by exact fun _ _ _ h => h) (Or.inl ⟨by rfl, ?_⟩) (by assumption) ?_; rotate_left; (intro wz hSz; go_simp; try (with_reducible rfl)); simp only [Act.put, List.setIfInBounds_toArray, List.set_cons_zero, List.set_cons_succ])
                                    (refine wpAnyH_take (i := 39) (v := ?_) (by simp only [List.getElem?_toArray, List.getElem?_cons_succ, List.getElem?_cons_zero]; exact rfl) (by kernel_rfl) (by kernel_rfl) (by kernel_rfl) (by exact fun _ _ _ h => h) (Or.inl ⟨by rfl, ?_⟩) (by assumption) ?_; rotate_left; (intro wz hSz; go_simp; try (with_reducible rfl)); simp only [Act.put, List.setIfInBounds_toArray, List.set_cons_zero, List.set_cons_succ])
                                    (refine wpAnyH_take (i := 40) (v := ?_) (by simp only [List.getElem?_toArray, List.getElem?_cons_succ, List.getElem?_cons_zero]; exact rfl) (by kernel_rfl) (by kernel_rfl) (by kernel_rfl) (by exact fun _ _ _ h => h) (Or.inl ⟨by rfl, ?_⟩) (by assumption) ?_; rotate_left; (intro wz hSz; go_simp; try (with_reducible rfl)); simp only [Act.put, List.setIfInBounds_toArray, List.set_cons_zero, List.set_cons_succ])
                                    refine wpAnyH_done (by kernel_rfl) ?_ _
                                    go_wp2_with fail
                                    exact ⟨⟨x + 1, by omega, by go_num, by rw [hfin.out]; simp [breakB, hb1.out, hb2.out], hx9'⟩, by simp [intOf]; omega⟩
                            · go_quiet (fail)
                              go_wp2_with fail
                              exact ⟨⟨x + 1, by omega, by go_num, by rw [hfin.out]; simp, hx8.then (ext_drewN _ nq)⟩, by simp [intOf]; omega⟩
                          · obtain rfl : x = i := by omega
                            have hxl' : ¬ (x : Int) < x := by omega
                            go_wp2_with fail
                            exact ⟨⟨k + 1, by omega, by go_num, by rw [hsu.out, hqB.out, Bool.or_assoc]; rfl, hx8⟩, by simp [intOf]; omega⟩
                    · obtain rfl : k = i := by omega
                      have hki' : ¬ (k : Int) < k := by omega
                      have hq1 := hk1.out j hji
                      have hq2 := hk2.out j hji
                      rw [show (List.range k).any (fun x => rowQ L k j x) = wantB L k j from rfl]
                      generalize wantB L k j = qW at *
                      replace hq1 := hide hq1
                      replace hq2 := hide hq2
                      go_wp2_with fail
                      obtain ⟨W, hW⟩ : ∃ W, W = w8 := ⟨_, rfl⟩
                      rw [← hW]
                      have hxW : Ext w6 W := by rw [hW]; exact hx8
                      clear hW hx8
                      go_loopw [15, 17] (fun sb sc wr => ∃ t y : Nat, t ≤ m ∧ sc = .int .i64 t ∧ sb = .bool ((List.range t).any fun t => bsEq (K1 t) (L j).k) ∧ wr = W.drewN y) (fun _ s _ => (m - intOf s).toNat)
                      case atStart => exact ⟨0, 0, by omega, rfl, by simp, rfl⟩
                      case round =>
                        obtain ⟨t, y, ht, rfl, rfl, rfl⟩ := hrel
                        by_cases htm : t < m
                        · have htm' : (t : Int) < m := by omega
                          have ht0 : (0 : Int) ≤ t := by omega
                          obtain ⟨adn, rfl, hnc⟩ := hnA.out (by omega)
                          have hsu := range_any_succ (fun t => bsEq (K1 t) (L j).k) t
                          generalize (List.range t).any (fun t => bsEq (K1 t) (L j).k) = qT at *
                          have hcb := fun m' => load_key (hcW.out _ (hxW.then (ext_drewN W m')) j hji)
                          have hcn := fun m' => load_cells ((hnc t htm).ext (hxW.then (ext_drewN W m'))) (size_bcells _)
                          cases qT
                          · cases hb1 : bsEq (K1 t) (L j).k
                            · have eq2 : ∀ w', (Op.equalIn 10000 26 (.agg (bcells (K1 t))) (.agg (bcells (L j).k))).run Try.prog w' = .ok false w' := fun w' => by rw [← hb1]; exact equal_hashF w' _ _
                              replace hb1 := hide hb1
                              replace hsu := hide hsu
                              go_wp2_with fail
                              go_quiet (fail)
                              go_wp2_with fail
                              exact ⟨⟨t + 1, y + nq, by omega, by go_num, by rw [hsu.out, hb1.out]; rfl, rfl⟩, by simp [intOf]; omega⟩
                            · have eq2 : ∀ w', (Op.equalIn 10000 26 (.agg (bcells (K1 t))) (.agg (bcells (L j).k))).run Try.prog w' = .ok true w' := fun w' => by rw [← hb1]; exact equal_hashF w' _ _
                              replace hb1 := hide hb1
                              replace hsu := hide hsu
                              go_wp2_with fail
                              go_quiet (fail)
                              go_wp2_with fail
                              exact ⟨⟨t + 1, y + nq, by omega, by go_num, by rw [hsu.out, hb1.out]; rfl, rfl⟩, by simp [intOf]; omega⟩
                          · replace hsu := hide hsu
                            go_wp2_with fail
                            go_quiet (fail)
                            go_wp2_with fail
                            exact ⟨⟨t + 1, y + nq, by omega, by go_num, by rw [hsu.out]; rfl, rfl⟩, by simp [intOf]; omega⟩
                        · obtain rfl : m = t := by omega
                          have htm' : ¬ (m : Int) < m := by omega
                          rw [show (List.range m).any (fun y => bsEq (K1 y) (L j).k) = qW from hq1.out]
                          go_wp2_with fail
                          go_loopw [16, 18] (fun sb sc wr => ∃ t y : Nat, t ≤ m ∧ sc = .int .i64 t ∧ sb = .bool ((List.range t).any fun t => bsEq (K2 t) (L j).k) ∧ wr = W.drewN y) (fun _ s _ => (m - intOf s).toNat)
                          case atStart => exact ⟨0, y, by omega, rfl, by simp, rfl⟩
                          case round =>
                            obtain ⟨t, y, ht, rfl, rfl, rfl⟩ := hrel
                            by_cases htm : t < m
                            · have htm' : (t : Int) < m := by omega
                              have ht0 : (0 : Int) ≤ t := by omega
                              obtain ⟨adn, rfl, hnc⟩ := hnB.out (by omega)
                              have hsu := range_any_succ (fun t => bsEq (K2 t) (L j).k) t
                              generalize (List.range t).any (fun t => bsEq (K2 t) (L j).k) = qT at *
                              have hcb := fun m' => load_key (hcW.out _ (hxW.then (ext_drewN W m')) j hji)
                              have hcn := fun m' => load_cells ((hnc t htm).ext (hxW.then (ext_drewN W m'))) (size_bcells _)
                              cases qT
                              · cases hb1 : bsEq (K2 t) (L j).k
                                · have eq2 : ∀ w', (Op.equalIn 10000 26 (.agg (bcells (K2 t))) (.agg (bcells (L j).k))).run Try.prog w' = .ok false w' := fun w' => by rw [← hb1]; exact equal_hashF w' _ _
                                  replace hb1 := hide hb1
                                  replace hsu := hide hsu
                                  go_wp2_with fail
                                  go_quiet (fail)
                                  go_wp2_with fail
                                  exact ⟨⟨t + 1, y + nq, by omega, by go_num, by rw [hsu.out, hb1.out]; rfl, rfl⟩, by simp [intOf]; omega⟩
                                · have eq2 : ∀ w', (Op.equalIn 10000 26 (.agg (bcells (K2 t))) (.agg (bcells (L j).k))).run Try.prog w' = .ok true w' := fun w' => by rw [← hb1]; exact equal_hashF w' _ _
                                  replace hb1 := hide hb1
                                  replace hsu := hide hsu
                                  go_wp2_with fail
                                  go_quiet (fail)
                                  go_wp2_with fail
                                  exact ⟨⟨t + 1, y + nq, by omega, by go_num, by rw [hsu.out, hb1.out]; rfl, rfl⟩, by simp [intOf]; omega⟩
                              · replace hsu := hide hsu
                                go_wp2_with fail
                                go_quiet (fail)
                                go_wp2_with fail
                                exact ⟨⟨t + 1, y + nq, by omega, by go_num, by rw [hsu.out]; rfl, rfl⟩, by simp [intOf]; omega⟩
                            · obtain rfl : m = t := by omega
                              have htm' : ¬ (m : Int) < m := by omega
                              rw [show (List.range m).any (fun y => bsEq (K2 y) (L j).k) = qW from hq2.out]
                              cases qW
                              all_goals
                                go_wp2_with fail
                                exact ⟨⟨j + 1, by omega, by go_num, hxW.then (ext_drewN _ _)⟩, by simp [intOf]; omega⟩
                · obtain rfl : j = i := by omega
                  have hji' : ¬ (j : Int) < j := by omega
                  have hdm : decide ((m : Int) = m) = true := decide_eq_true rfl
                  go_wp2_with (go_at_call 5; (with_reducible refine (known14 _).mono ?_); rintro r wk ⟨rfl, hxk⟩)
                  go_ret
                  exact ⟨rfl, hxw.then (hx7.then hxk)⟩
end Go.Proofs.Ytgeijcielakeeaa
