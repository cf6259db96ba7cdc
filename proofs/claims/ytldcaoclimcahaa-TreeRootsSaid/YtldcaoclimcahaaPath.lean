/- The walk of tree.Path. -/
import Derived.Test.YtldcaoclimcahaaRev
import Derived.Test.YtldcaoclimcahaaDown
namespace Go.Proofs.Ytldcaoclimcahaa
open Go.RowKit
set_option linter.unusedVariables false
set_option linter.unusedSimpArgs false

/-- The neighbours' roots on the way down to a leaf, the highest first; a leaf's path. -/
def pathT : Nat → (Nat → Bs 32) → Nat → List (Bs 32)
  | 0, H, i => []
  | k + 1, H, i => if i < p2 k then rootT k (fun j => H (p2 k + j)) :: pathT k H i else rootT k H :: pathT k (fun j => H (p2 k + j)) (i - p2 k)
theorem length_pathT : ∀ (k : Nat) (H : Nat → Bs 32) (i : Nat), (pathT k H i).length = k
  | 0, H, i => rfl
  | k + 1, H, i => by unfold pathT; split <;> simp [length_pathT k]
/-- How long the slice in a block of one cell is. -/
def lenIn (w : World) (g : Nat) : Nat := match w.heap[g]? with
  | some (Obj.cells cs _ _) => (match (cs[0]? : Option Value) with | some (Value.slice _ n _) => n | _ => 0)
  | _ => 0
theorem lenIn_of {w : World} {g n cap : Nat} {a : Option Addr} {t : TypeId} (h : w.heap[g]? = some (.cells #[.slice a n cap] t (0, 0))) : lenIn w g = n := by
  unfold lenIn; rw [h]; rfl
/-- What Path answers: a row of its own, of so many hashes. -/
def PathIs (B K : Nat) (l : List (Bs 32)) (r : Ending) (w' : World) : Prop := ∃ v, r = .returned (.tuple #[v, .int .i64 0]) ∧ w'.ownsRow B 28 32 v K (rowB l)
/-- What holds on the way down. -/
def PathInv (w : World) (gl K i : Nat) (H : Nat → Bs 32) (s1 : Value) (wr : World) : Prop := ∃ (k ic : Nat) (l : List (Bs 32)) (v : Value) (ac : Option Addr) (cc : Nat) (Hc : Nat → Bs 32), k ≤ K ∧ s1 = .int .i64 ic ∧ ic < p2 k ∧ wr.heap[gl]? = some (.cells #[.slice ac (p2 k) cc] 40 (0, 0)) ∧ p2 k ≤ cc ∧ cc ≤ maxLen ∧ HashesIn w ac (p2 k) Hc ∧ wr.heap[gl + 1]? = some (.cells #[v] 40 (0, 0)) ∧ wr.ownsRow (gl + 2) 28 32 v l.length (rowB l) ∧ l ++ pathT k Hc ic = pathT K H i ∧ gl + 2 ≤ wr.heap.size ∧ Ext w wr
set_option maxHeartbeats 8000000 in
set_option maxRecDepth 100000 in
theorem path_any (K : Nat) (hK : K ≤ 8) (a : Option Addr) (n cap : Nat) (hnK : n = p2 K) (hmay : mayN n = true) (H : Nat → Bs 32) (i : Nat) (hi : i < n) (w : World) (hn : n ≤ cap) (hcap : cap ≤ maxLen) (hH : HashesIn w a n H) :
    Calls Try.prog 34 #[.slice a n cap, .int .i64 (i : Int)] w fun r w' => PathIs w.heap.size K (pathT K H i).reverse r w' ∧ Ext w w' := by
  have hmy := may_any n (by omega)
  rw [hmay] at hmy
  have hd1 : decide ((i : Int) < 0) = false := by simp
  have hi2 : ¬ (n : Int) ≤ i := by omega
  have hd2 : decide ((n : Int) ≤ i) = false := by simpa using hi2
  have hd3 : decide (n ≤ i) = false := by simp; omega
  have hmf : ∀ (fn : Fn) (first cap : Array Value) (w : World), (Instr.makeFunc fn first cap).run Try.prog w = .ok (.func fn first cap) w := fun _ _ _ _ => rfl
  have hL := heap_alloc2_old w (.cells #[.slice a n cap] 40) (.cells #[.slice none 0 0] 40)
  have hO := heap_alloc2_new w (.cells #[.slice a n cap] 40) (.cells #[.slice none 0 0] 40)
  have hx := ext_two w (.cells #[.slice a n cap] 40) (.cells #[.slice none 0 0] 40)
  have hsz : ((w.alloc (.cells #[.slice a n cap] 40)).alloc (.cells #[.slice none 0 0] 40)).heap.size = w.heap.size + 2 := by simp
  replace hL := hide hL
  replace hO := hide hO
  replace hx := hide hx
  replace hsz := hide hsz
  replace hmy := hide hmy
  replace hmay := hide hmay
  replace hnK := hide hnK
  go_enter Try.func34, Try.ntmps34
  go_wp2_with (first | (go_at_call 37; (with_reducible refine (hmy.out _).mono ?_); rintro r w3 ⟨rfl, rfl⟩))
  have hL := hL.out
  have hO := hO.out
  have hx := hx.out
  have hsz := hsz.out
  generalize (w.alloc (.cells #[.slice a n cap] 40)).alloc (.cells #[.slice none 0 0] 40) = W at *
  obtain ⟨gl, hgl⟩ : ∃ g, g = w.heap.size := ⟨_, rfl⟩
  rw [← hgl] at hL hO hsz ⊢
  have hwl : w.heap.size ≤ gl := by omega
  have hwo : w.heap.size ≤ gl + 1 := by omega
  have hwB : w.heap.size ≤ gl + 2 := by omega
  have hWB : gl + 2 ≤ W.heap.size := by omega
  replace hgl := hide hgl
  clear hsz
  go_loopw [1] (fun s1 wr => PathInv w gl K i H s1 wr) (fun _ wr => lenIn wr gl)
  case atStart =>
    have hnK := hnK.out
    subst hnK
    exact ⟨K, i, [], _, a, cap, H, Nat.le_refl _, rfl, hi, hL, hn, hcap, hH, hO, World.ownsRow_nil _ _ _ _, rfl, hWB, hx⟩
  case round =>
    clear hL hO hx hWB
    obtain ⟨k, ic, l, v, ac, cc, Hc, hk, rfl, hic, hL, hcc, hccm, hHc, hO, hown, hpath, hWB, hx⟩ := hrel
    obtain ⟨w2, rfl⟩ : ∃ w2, w2 = wr := ⟨_, rfl⟩
    have c1 := cell_of_one hL
    have hlen := congrArg List.length hpath
    rw [List.length_append, length_pathT, length_pathT] at hlen
    have hll := lenIn_of hL
    cases k with
    | zero =>
      have hp1 : p2 0 = 1 := rfl
      rw [hp1] at c1 hL
      have c2 := cell_of_one hO
      obtain rfl : l.length = K := by omega
      have hlp : l = pathT l.length H i := by rw [← hpath]; simp [pathT]
      have hown0 := hown
      rcases hown.2 with ⟨rfl, hl0⟩ | ⟨g, cp, cur, rfl, hg, hh, hlc, hcm, hcs, htk⟩
      · have hfin : w2.ownsRow w.heap.size 28 32 (.slice none 0 0) l.length (rowB (pathT l.length H i).reverse) := by
          have hl : l = [] := List.eq_nil_of_length_eq_zero hl0
          have h3 := congrArg List.reverse hlp
          rw [← h3, hl]
          exact World.ownsRow_nil _ _ _ _
        replace hfin := hide hfin
        replace hown := hide hown
        clear hown0 hpath hlen hlp hll hHc
        go_wp2_with (go_at_call 55; (with_reducible refine (reverse_none _).mono ?_); rintro r w3 ⟨rfl, rfl⟩)
        go_ret2
        exact ⟨⟨_, rfl, hfin.out⟩, hx⟩
      · have hlc2 : l.length ≤ cp := hlc
        have hrev := reverse_any w w2 g (cp * 32) l.length cp (fun x => l.getD x (zeros 32)) (by omega) hlc hcm hx (by omega) (rowF_own hown0)
        have hne : gl + 1 ≠ g := by omega
        have hgw : w.heap.size ≤ g := by omega
        have hfin : ∀ w3 : World, RowF w3 g (cp * 32) l.length (fun x => l.getD (l.length - 1 - x) (zeros 32)) → w3.ownsRow w.heap.size 28 32 (.slice (some ⟨g, 0, none⟩) l.length cp) l.length (rowB (pathT l.length H i).reverse) := fun w3 hr => by
          have h1 := own_rowF hr hgw hlc hcm
          have h2 : (List.range l.length).map (fun x => l.getD (l.length - 1 - x) (zeros 32)) = l.reverse := by
            apply List.ext_getElem (by simp)
            intro j hj1 hj2
            simp only [List.length_map, List.length_range] at hj1
            simp [List.getD, List.getElem?_eq_getElem (show l.length - 1 - j < l.length by omega)]
          rw [h2] at h1
          have h3 := congrArg List.reverse hlp
          rw [← h3]
          exact h1
        replace hfin := hide hfin
        replace hrev := hide hrev
        replace hown := hide hown
        clear hown0 hpath hlen hlp hll hHc htk hcs
        go_wp2_with (go_at_call 55; (with_reducible refine hrev.out.mono ?_); rintro r w3 ⟨rfl, hr3, hk3, hx3⟩; have c3 := cell_of_one ((hk3 (gl + 1) hne).trans hO))
        go_ret2
        exact ⟨⟨_, rfl, hfin.out _ hr3⟩, hx3⟩
    | succ k =>
      have hpp := p2_pos k
      have hps := p2_succ k
      have hp8 := p2_le (k + 1) (by omega)
      obtain ⟨ad, rfl, _⟩ := hHc (by omega)
      have hHl : HashesIn w (some ad) (p2 k) Hc := hashes_take hHc _ (by omega)
      have hHr : HashesIn w (some (ad.add (p2 k * 32))) (p2 k) (fun j => Hc (p2 k + j)) := hashes_drop hHc (p2 k) (p2 k) (by omega)
      have hpt : pathT (k + 1) Hc ic = if ic < p2 k then rootT k (fun j => Hc (p2 k + j)) :: pathT k Hc ic else rootT k Hc :: pathT k (fun j => Hc (p2 k + j)) (ic - p2 k) := rfl
      rw [hpt] at hpath
      have hdl := fun (w' : World) (hxx : Ext w w') (h1 : gl + 2 ≤ w'.heap.size) (h2 : w'.heap[gl + 1]? = _) (h3 : w'.heap[gl]? = _) (h4 : w'.ownsRow (gl + 2) 28 32 v l.length (rowB l)) => down_any w w' (gl + 2) (gl + 1) gl v (.slice (some ad) (p2 (k + 1)) cc) (some ad) (p2 k) cc l k (by omega) (by omega) (some (ad.add (p2 k * 32))) (cc - p2 k) (fun j => Hc (p2 k + j)) (by omega) (by omega) hxx hwB h1 hwo hwl (by omega) (by omega) (by omega) h2 h3 h4 hHr
      have hdr := fun (w' : World) (hxx : Ext w w') (h1 : gl + 2 ≤ w'.heap.size) (h2 : w'.heap[gl + 1]? = _) (h3 : w'.heap[gl]? = _) (h4 : w'.ownsRow (gl + 2) 28 32 v l.length (rowB l)) => down_any w w' (gl + 2) (gl + 1) gl v (.slice (some ad) (p2 (k + 1)) cc) (some (ad.add (p2 k * 32))) (p2 k) (cc - p2 k) l k (by omega) (by omega) (some ad) cc Hc (by omega) (by omega) hxx hwB h1 hwo hwl (by omega) (by omega) (by omega) h2 h3 h4 hHl
      have hcm : cc ≤ 9223372036854775807 := by unfold maxLen at hccm; omega
      obtain ⟨m, hm⟩ : ∃ m, m = p2 (k + 1) := ⟨_, rfl⟩
      obtain ⟨q, hq⟩ : ∃ q, q = p2 k := ⟨_, rfl⟩
      rw [← hm] at hL c1 hdl hdr hcc hps hp8 hic hll
      rw [← hq] at hdl hdr hps hpp hpath hHl hHr
      have e1 : (m : Int).tdiv 2 = (q : Int) := by rw [hps]; show ((q * 2 / 2 : Nat) : Int) = q; rw [Nat.mul_div_cancel _ (by omega)]
      have e2 : m - q = q := by omega
      have n1 : (1 : Int) < m := by omega
      have n3 : ¬ q = cc := by omega
      have n4 : ¬ cc = q := by omega
      have hq0 : (0 : Int) ≤ q := by omega
      have hqm : (q : Int) ≤ m := by omega
      have hqc : (q : Int) ≤ cc := by omega
      have hqc2 : q ≤ cc := by omega
      have hw1 : IntKind.i64.wrap (q : Int) = q := by rw [IntKind.wrap_i64]; omega
      have hxD := hx.then (ext_drew w2)
      have hWBD : gl + 2 ≤ w2.drew.heap.size := hWB
      have hOD : w2.drew.heap[gl + 1]? = some (.cells #[v] 40 (0, 0)) := hO
      have hLD : w2.drew.heap[gl]? = some (.cells #[.slice (some ad) m cc] 40 (0, 0)) := hL
      have hownD : w2.drew.ownsRow (gl + 2) 28 32 v l.length (rowB l) := hown.drew
      replace hOD := hide hOD
      replace hLD := hide hLD
      replace hownD := hide hownD
      replace hps := hide hps
      replace hdl := hide hdl
      replace hdr := hide hdr
      replace hm := hide hm
      replace hq := hide hq
      replace hO := hide hO
      replace hL := hide hL
      replace hown := hide hown
      replace hll := hide hll
      clear hpt hHc
      by_cases hlt : ic < q
      · have hlt' : (ic : Int) < q := by omega
        rw [if_pos hlt] at hpath
        replace hpath := hide hpath
        go_wp2_with fail
        go_region_with (go_at_call 54; go_loud ((with_reducible refine (hdl.out _ hxD hWBD hOD.out hLD.out hownD.out).mono ?_)); rintro r w3 ⟨rfl, ⟨v', hO3, hown3⟩, hL3, hx3⟩)
        all_goals
          go_wp2_with fail
          go_roundw
          case rel => exact ⟨k, ic, l ++ [rootT k fun j => Hc (p2 k + j)], v', some ad, cc, Hc, by omega, rfl, by rw [← hq.out]; exact hlt, by rw [← hq.out]; exact hL3, by rw [← hq.out]; exact hqc2, hccm, by rw [← hq.out]; exact hHl, hO3, by rw [List.length_append, ← hq.out]; exact hown3, by rw [List.append_assoc, ← hq.out]; exact hpath.out, Nat.le_trans (Nat.succ_le_of_lt (lt_of_block hO3)) (Nat.le_refl _), hx3⟩
          case measure => rw [lenIn_of hL3, hll.out]; have := hps.out; omega
      · have hlt' : ¬ (ic : Int) < q := by omega
        rw [if_neg hlt] at hpath
        have e5 : IntKind.i64.wrap ((ic : Int) - q) = ((ic - q : Nat) : Int) := by rw [IntKind.wrap_i64]; omega
        have e6 : (ic : Int) - q = ((ic - q : Nat) : Int) := by omega
        replace hpath := hide hpath
        go_wp2_with fail
        go_region_with (go_at_call 54; go_loud ((with_reducible refine (hdr.out _ hxD hWBD hOD.out hLD.out hownD.out).mono ?_)); rintro r w3 ⟨rfl, ⟨v', hO3, hown3⟩, hL3, hx3⟩)
        all_goals
          go_wp2_with fail
          go_roundw
          case rel => exact ⟨k, ic - q, l ++ [rootT k Hc], v', some (ad.add (q * 32)), cc - q, fun j => Hc (q + j), by omega, by first | rfl | go_num, by have := hps.out; rw [← hq.out]; omega, by rw [← hq.out]; exact hL3, by rw [← hq.out]; have := hps.out; omega, by omega, by rw [← hq.out]; exact hHr, hO3, by rw [List.length_append]; exact hown3, by rw [List.append_assoc]; exact hpath.out, Nat.le_trans (Nat.succ_le_of_lt (lt_of_block hO3)) (Nat.le_refl _), hx3⟩
          case measure => rw [lenIn_of hL3, hll.out]; have := hps.out; omega
set_option maxHeartbeats 4000000 in
set_option maxRecDepth 100000 in
theorem path_no (a : Option Addr) (n cap : Nat) (i : Int) (w : World) (hn : n ≤ cap) (hcap : cap ≤ maxLen) (h : mayN n = false ∨ i < 0 ∨ (n : Int) ≤ i) :
    Calls Try.prog 34 #[.slice a n cap, .int .i64 i] w fun r w' => r = .returned (.tuple #[.slice none 0 0, .int .i64 2]) ∧ Ext w w' := by
  have hmy := may_any n (by omega)
  have hL := heap_alloc_new w (.cells #[.slice a n cap] 40)
  have hx := ext_alloc w (.cells #[.slice a n cap] 40)
  have c1 := cell_of_one hL
  cases hm : mayN n
  · rw [hm] at hmy
    replace hmy := hide hmy
    replace hm := hide hm
    go_enter Try.func34, Try.ntmps34
    go_wp2_with (first | (go_at_call 37; (with_reducible refine (hmy.out _).mono ?_); rintro r w3 ⟨rfl, rfl⟩))
    go_ret2
    exact ⟨rfl, hx⟩
  · rw [hm] at hmy h
    replace hmy := hide hmy
    replace hm := hide hm
    by_cases h0 : i < 0
    · have hd1 : decide (i < 0) = true := by simpa using h0
      go_enter Try.func34, Try.ntmps34
      go_wp2_with (first | (go_at_call 37; (with_reducible refine (hmy.out _).mono ?_); rintro r w3 ⟨rfl, rfl⟩))
      go_ret2
      exact ⟨rfl, hx⟩
    · have hd1 : decide (i < 0) = false := by simpa using h0
      have h2 : (n : Int) ≤ i := by
        rcases h with h | h | h
        · cases h
        · exact absurd h h0
        · exact h
      have hd2 : decide ((n : Int) ≤ i) = true := by simpa using h2
      go_enter Try.func34, Try.ntmps34
      go_wp2_with (first | (go_at_call 37; (with_reducible refine (hmy.out _).mono ?_); rintro r w3 ⟨rfl, rfl⟩))
      go_ret2
      exact ⟨rfl, hx⟩
end Go.Proofs.Ytldcaoclimcahaa
