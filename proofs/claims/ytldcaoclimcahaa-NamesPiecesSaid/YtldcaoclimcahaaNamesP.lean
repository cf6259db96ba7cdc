/- The walk of the law on pieces. -/
import Derived.Test.YtldcaoclimcahaaJoin
import Derived.Deep.RegionWith
import Derived.Deep.DeepCutAuto
namespace Go.Proofs.Ytldcaoclimcahaa
open Go.RowKit
set_option linter.unusedVariables false
set_option linter.unusedSimpArgs false

/-- Four pieces, in a slice that is made for them. -/
theorem four_pieces {w : World} {a b c d : Option Addr} {p q r s p' q' r' s' : Nat} {x y z u : List UInt8} (hx : BytesIn w a p x) (hy : BytesIn w b q y) (hz : BytesIn w c r z) (hu : BytesIn w d s u) (hp : p ≤ p') (hq : q ≤ q') (hr : r ≤ r') (hs : s ≤ s') (mp : p' ≤ maxLen) (mq : q' ≤ maxLen) (mr : r' ≤ maxLen) (ms : s' ≤ maxLen) (N : Nat) (hN : w.heap.size = N) :
    PiecesIn (w.alloc (.cells #[.slice a p p', .slice b q q', .slice c r r', .slice d s s'] 25)) (some ⟨N, 0, none⟩) 4 [x, y, z, u] := by
  subst hN
  have hE := ext_alloc w (.cells #[.slice a p p', .slice b q q', .slice c r r', .slice d s s'] 25)
  have hn := heap_alloc_new w (.cells #[.slice a p p', .slice b q q', .slice c r r', .slice d s s'] 25)
  refine ⟨rfl, fun _ => ⟨_, rfl, fun i hi => ?_⟩⟩
  have hadd : (⟨w.heap.size, 0, none⟩ : Addr).add i = ⟨w.heap.size, i, none⟩ := by unfold Addr.add; split <;> simp_all
  rw [hadd, cell_of_row _ _ i _ _ _ hn]
  rcases (by omega : i = 0 ∨ i = 1 ∨ i = 2 ∨ i = 3) with rfl | rfl | rfl | rfl
  · exact ⟨a, p, p', rfl, hp, mp, hx.ext hE⟩
  · exact ⟨b, q, q', rfl, hq, mq, hy.ext hE⟩
  · exact ⟨c, r, r', rfl, hr, mr, hz.ext hE⟩
  · exact ⟨d, s, s', rfl, hs, ms, hu.ext hE⟩
theorem bytes_take {w : World} {a : Option Addr} {n : Nat} {c : List UInt8} (h : BytesIn w a n c) (p : Nat) (hp : p ≤ n) : BytesIn w a p (c.take p) := by
  have hl := h.1
  refine ⟨by rw [List.length_take]; omega, fun h0 => ?_⟩
  obtain ⟨ad, e1, e2⟩ := h.2 (by omega)
  refine ⟨ad, e1, fun j hj => ?_⟩
  rw [e2 j (by omega)]
  simp [List.getD, List.getElem?_take_of_lt hj]
theorem bytes_drop {w : World} {g : Nat} {n : Nat} {c : List UInt8} (h : BytesIn w (some ⟨g, 0, none⟩) n c) (p : Nat) (hp : p ≤ n) : BytesIn w (some ⟨g, p, none⟩) (n - p) (c.drop p) := by
  have hl := h.1
  refine ⟨by rw [List.length_drop]; omega, fun h0 => ?_⟩
  obtain ⟨ad, e1, e2⟩ := h.2 (by omega)
  obtain rfl := Option.some.inj e1
  refine ⟨_, rfl, fun j hj => ?_⟩
  have h1 := e2 (p + j) (by omega)
  rw [add_flat, Nat.zero_add] at h1
  rw [add_flat, h1]
  simp [List.getD]
theorem lt_of_rowP {w : World} {g o n : Nat} {cs : Array Value} (h : rowAt w g o n = some cs) : g < w.heap.size := by
  unfold rowAt at h
  split at h
  · rename_i hg; exact lt_of_block hg
  · cases h
theorem bytes_none (w : World) (a : Option Addr) : BytesIn w a 0 [] := ⟨rfl, fun h => absurd h (by omega)⟩
attribute [local go_sem ↓] exec_store_Hash equal_hash
attribute [local go_sem ↓] loadCells_blk
attribute [local go_sem] run_blkLoad rowAt_drew rowAt_old rowAt_new bsEq_self
set_option maxHeartbeats 4000000 in
set_option maxRecDepth 100000 in
theorem namesPieces_walk (a : Option Addr) (n cap : Nat) (ps : List (List UInt8)) (k : Int) (w : World) (hn : n ≤ cap) (hcap : cap ≤ maxLen) (h : PiecesIn w a n ps) :
    Calls Try.prog 3 #[.slice a n cap, .int .i64 k] w fun r w' => r = .returned (.bool true) ∧ Ext w w' := by
  have hmu : Hid (Calls Try.prog 12 #[.slice a n cap, .int .i64 2500] w fun r w' => MuchIs n 2500 ps r ∧ w' = w) := hide (much_any a n cap 2500 ps w hn hcap (by omega) h)
  obtain ⟨F, hF⟩ : ∃ F, ps.flatten = F := ⟨_, rfl⟩
  replace h := hide h
  go_enter Try.func3, Try.ntmps3
  go_wp2_with (go_at_call 12; (with_reducible refine (hmu.out).mono ?_); rintro r w1 ⟨⟨m, rfl, hm⟩, rfl⟩; replace hm := hide hm; cases m)
  · have hl : F.length ≤ 2500 := by have := hm.out trivial; rw [hF] at this; omega
    clear hm
    have hstH : ∀ (w : World) (o : Bs 32), storeStep Try.prog 28 (.pointer (some ⟨w.heap.size, 0, none⟩)) (.agg (bcells o)) (w.alloc (.cells (bcells (zeros 32)) 28)) = .ok .skip (w.alloc (.cells (bcells o) 28)) := fun w o => store_new_H o w _ rfl _ (size_bcells _)
    rw [bcells_zeros] at hstH
    go_wp2_with (first
      | (go_at_call 14; (with_reducible refine (join_any a n cap ps _ hn hcap h.out F hF (by omega)).mono ?_); rintro r w2 ⟨⟨g, cp, rfl, hb, hc1, hc2⟩, hx2⟩)
      | (go_at_call 15; (with_reducible refine (refS_any (some ⟨g, 0, none⟩) F.length cp F _ (by omega) hb (fun h => by cases h)).mono ?_); rintro r w3 ⟨⟨o, ho, rfl⟩, hx3⟩))
    have hx4 := (hx2.then hx3).then (ext_alloc w3 (.cells (bcells o) 28))
    have hb4 := hide (hb.ext (hx3.then (ext_alloc w3 (.cells (bcells o) 28))))
    have h4 := hide (h.out.ext hx4)
    have r1 := rowAt_whole (heap_alloc_new w3 (.cells (bcells o) 28)) (size_bcells o)
    obtain ⟨gw, hgw⟩ : ∃ g, g = w3.heap.size := ⟨_, rfl⟩
    rw [← hgw] at r1 ⊢
    generalize w3.alloc (.cells (bcells o) 28) = W at *
    clear hstH hx2 hx3 hb h hmu
    replace hgw := hide hgw
    have hgW := lt_of_rowP r1
    have hmx : 1 ≤ maxLen := by unfold maxLen; omega
    have hfl : [F].flatten = F := by simp
    replace hfl := hide hfl
    replace hF := hide hF
    go_cut [24] from 14 to 24 (fun s24 wx => s24 = .bool false ∧ Ext W wx)
    case first =>
      have hxD := ext_drew W
      go_region_with (first
        | (go_at_call 16; (with_reducible refine (sum_any a n cap ps _ hn hcap (h4.out.ext hxD)).mono ?_); rintro r w4 ⟨⟨o1, ho1, rfl⟩, hx4⟩; obtain rfl := sumK_one ho (ho1.trans (congrArg sumL hF.out)); have heq := bsEq_self o1; have hx4 := hxD.then hx4; have r4 := rowAt_ext hx4 r1; have hg4 := lt_of_rowP r4; have hb5 := hide (hb4.out.ext hx4); have hx5 := hide (hx4.then (ext_alloc w4 (.cells #[.slice (some ⟨g, 0, none⟩) F.length cp] 25))))
        | (go_at_call 16; (with_reducible refine (sum_any (some ⟨w4.heap.size, 0, none⟩) 1 1 [F] _ (Nat.le_refl _) hmx (one_piece hb5.out hc1 hc2 _ rfl)).mono ?_); rintro r w6 ⟨⟨o2, ho2, rfl⟩, hx6⟩; obtain rfl := sumK_one ho (ho2.trans (congrArg sumL hfl.out)); have heq := bsEq_self o2; have hx6 := hx5.out.then hx6; have r6 := rowAt_ext hx6 r1))
      all_goals
        go_wp2_with fail
        go_meet
        exact ⟨rfl, hx6⟩
    case rest =>
      obtain ⟨rfl, hx5⟩ := hcut
      obtain ⟨w4, rfl⟩ : ∃ v, v = wc := ⟨_, rfl⟩
      have hx := hx4.then hx5
      have r1 := rowAt_ext hx5 r1
      have hb := hb4.out.ext hx5
      clear h4 hb4 hx4 hgW hx5
      have hgW := lt_of_rowP r1
      by_cases hk : k < 0 ∨ (F.length : Int) < k
      · rcases hk with hk | hk
        · have hd : decide (k < 0) = true := by simpa using hk
          go_wp2_with (go_at_call 13; (with_reducible refine (known03_any _).mono ?_); rintro r w7 ⟨rfl, hx7⟩)
          go_ret
          exact ⟨rfl, hx.then hx7⟩
        · have hk0 : ¬ k < 0 := by omega
          have hd : decide (k < 0) = false := by simpa using hk0
          have hd2 : decide ((F.length : Int) < k) = true := by simpa using hk
          go_wp2_with (go_at_call 13; (with_reducible refine (known03_any _).mono ?_); rintro r w7 ⟨rfl, hx7⟩)
          go_ret
          exact ⟨rfl, hx.then hx7⟩
      · obtain ⟨p, rfl⟩ := Int.eq_ofNat_of_zero_le (show 0 ≤ k by omega)
        have hk0 : ¬ (p : Int) < 0 := by omega
        have hk1 : ¬ (F.length : Int) < p := by omega
        have hd : decide ((p : Int) < 0) = false := by simp
        have hd2 : decide ((F.length : Int) < p) = false := by simpa using hk1
        have hp0 : (0 : Int) ≤ p := by omega
        have hpl : p ≤ F.length := by omega
        have hpi : (p : Int) ≤ F.length := by omega
        have hpc : (p : Int) ≤ cp := by omega
        have hmx4 : 4 ≤ maxLen := by unfold maxLen; omega
        have hm0 : 0 ≤ maxLen := Nat.zero_le _
        have hcj : F.take p ++ F.drop p = F := List.take_append_drop p F
        have hE := ext_alloc w4 (.cells #[] 5)
        have hxA := fun X => hide ((hE.then (ext_alloc (w4.alloc (.cells #[] 5)) X)).then (ext_drew _))
        have hgW1 : gw < (w4.alloc (.cells #[] 5)).heap.size := by simp; omega
        by_cases hpe : cp = p
        · have hpF : F.length = p := by omega
          subst hpe
          have hj : [F.take cp, [], [], []].flatten = F := by rw [← hpF]; simp
          have hp4 := four_pieces ((bytes_take hb cp hpl).ext hE) (bytes_none _ none) (bytes_none _ (some ⟨g, 0, none⟩)) (bytes_none _ (some ⟨w4.heap.size, 0, none⟩)) (Nat.le_refl cp) (Nat.le_refl 0) (Nat.le_refl 0) (Nat.le_refl 0) hc2 hm0 hm0 hm0 (w4.heap.size + 1) (by simp)
          have hp4 := hp4.ext (ext_drew _)
          replace hp4 := hide hp4
          replace hj := hide hj
          go_wp2_with fail
          go_region_with (first | (go_at_call 16; (with_reducible refine (sum_any (some ⟨w4.heap.size + 1, 0, none⟩) 4 4 [F.take cp, [], [], []] _ (Nat.le_refl _) hmx4 hp4.out).mono ?_); rintro r w6 ⟨⟨o2, ho2, rfl⟩, hx6⟩; obtain rfl := sumK_one ho (ho2.trans (congrArg sumL hj.out)); have heq := bsEq_self o2; have hx6 := (hxA _).out.then hx6; have r6 := rowAt_ext hx6 r1) | (go_at_call 13; (with_reducible refine (known03_any _).mono ?_); rintro r w7 ⟨rfl, hx7⟩; have hx7 := hx6.then hx7))
          all_goals
            go_wp2_with fail
            go_ret
            exact ⟨rfl, hx.then hx7⟩
        · have hpe2 : ¬ p = cp := fun h => hpe h.symm
          have hj : [F.take p, [], F.drop p, []].flatten = F := by simp
          have hp4 := four_pieces ((bytes_take hb p hpl).ext hE) (bytes_none _ none) ((bytes_drop hb p hpl).ext hE) (bytes_none _ (some ⟨w4.heap.size, 0, none⟩)) (show p ≤ cp by omega) (Nat.le_refl 0) (show F.length - p ≤ cp - p by omega) (Nat.le_refl 0) hc2 hm0 (show cp - p ≤ maxLen by omega) hm0 (w4.heap.size + 1) (by simp)
          have hp4 := hp4.ext (ext_drew _)
          replace hp4 := hide hp4
          replace hj := hide hj
          go_wp2_with fail
          go_region_with (first | (go_at_call 16; (with_reducible refine (sum_any (some ⟨w4.heap.size + 1, 0, none⟩) 4 4 [F.take p, [], F.drop p, []] _ (Nat.le_refl _) hmx4 hp4.out).mono ?_); rintro r w6 ⟨⟨o2, ho2, rfl⟩, hx6⟩; obtain rfl := sumK_one ho (ho2.trans (congrArg sumL hj.out)); have heq := bsEq_self o2; have hx6 := (hxA _).out.then hx6; have r6 := rowAt_ext hx6 r1) | (go_at_call 13; (with_reducible refine (known03_any _).mono ?_); rintro r w7 ⟨rfl, hx7⟩; have hx7 := hx6.then hx7))
          all_goals
            go_wp2_with fail
            go_ret
            exact ⟨rfl, hx.then hx7⟩
  · go_wp2_with (go_at_call 13; (with_reducible refine (known03_any _).mono ?_); rintro r w7 ⟨rfl, hx7⟩)
    go_ret
    exact ⟨rfl, hx7⟩
end Go.Proofs.Ytldcaoclimcahaa
