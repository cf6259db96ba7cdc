/- The walk of the law on texts of bytes. -/
import Derived.Test.YtoiiapjmmjmeoaaKnown1
import Derived.Test.YtoiiapjmmjmeoaaBackW
import Derived.Test.YtoiiapjmmjmeoaaHexR
import Derived.Test.YtoiiapjmmjmeoaaUnhex
namespace Go.Proofs.Ytoiiapjmmjmeoaa
open Go.RowKit
set_option linter.unusedVariables false
set_option linter.unusedSimpArgs false

/-- Is it an even number of signs? -/
def goodL (l : List UInt8) : Bool := l.length % 2 == 0 && l.all isSg
theorem unhex_good : ∀ l, goodL l = true → ∃ c, unhexL l = some c ∧ hexL c = l ∧ 2 * c.length = l.length
  | [], _ => ⟨[], rfl, rfl, rfl⟩
  | [x], h => by simp [goodL] at h
  | x :: y :: t, h => by
    have h1 : goodL t = true ∧ isSg x = true ∧ isSg y = true := by
      simp only [goodL, List.length_cons, Bool.and_eq_true, beq_iff_eq, List.all_cons] at h ⊢
      exact ⟨⟨by omega, h.2.2.2⟩, h.2.1, h.2.2.1⟩
    obtain ⟨c, hc1, hc2, hc3⟩ := unhex_good t h1.1
    have hx := ix_lt x h1.2.1
    have hy := ix_lt y h1.2.2
    have hz : (UInt8.ofNat (16 * ixN x + ixN y)).toNat = 16 * ixN x + ixN y := by rw [UInt8.toNat_ofNat']; omega
    refine ⟨UInt8.ofNat (16 * ixN x + ixN y) :: c, by simp [unhexL, h1.2, hc1], ?_, by simp; omega⟩
    rw [hexL, hz, hc2, show (16 * ixN x + ixN y) / 16 = ixN x by omega, show (16 * ixN x + ixN y) % 16 = ixN y by omega, hx.2, hy.2]
theorem unhex_bad : ∀ l, goodL l = false → unhexL l = none
  | [], h => by simp [goodL] at h
  | [x], _ => rfl
  | x :: y :: t, h => by
    rw [unhexL]
    by_cases h1 : isSg x = true ∧ isSg y = true
    · rw [if_pos h1, unhex_bad t ?_]
      · rfl
      · cases hg : goodL t
        · rfl
        · exfalso
          simp only [goodL, List.length_cons, Bool.and_eq_true, beq_iff_eq, List.all_cons] at h hg
          have : (decide ((t.length + 1 + 1) % 2 = 0)) = true := decide_eq_true (by omega)
          simp [h1.1, h1.2, hg.2] at h
          omega
    · rw [if_neg h1]
theorem sg_int (b : UInt8) : isSg b = (decide ((48 : Int) ≤ b.toNat) && decide ((b.toNat : Int) ≤ 57) || decide ((97 : Int) ≤ b.toNat) && decide ((b.toNat : Int) ≤ 102)) := by
  have h1 : decide ((48 : Int) ≤ b.toNat) = decide (48 ≤ b.toNat) := by congr 1; simp; omega
  have h2 : decide ((b.toNat : Int) ≤ 57) = decide (b.toNat ≤ 57) := by congr 1; simp; omega
  have h3 : decide ((97 : Int) ≤ b.toNat) = decide (97 ≤ b.toNat) := by congr 1; simp; omega
  have h4 : decide ((b.toNat : Int) ≤ 102) = decide (b.toNat ≤ 102) := by congr 1; simp; omega
  rw [h1, h2, h3, h4]; rfl
def goodK (l : List UInt8) (k : Nat) : Bool := (l.length % 2 == 0) && (l.take k).all isSg
theorem goodK_succ (l : List UInt8) (k : Nat) (h : k < l.length) : goodK l (k + 1) = (goodK l k && isSg (l.getD k 0)) := by
  unfold goodK
  rw [List.take_succ_eq_append_getElem h, List.all_append]
  simp [List.getD, List.getElem?_eq_getElem h, Bool.and_assoc]
theorem goodK_all (l : List UInt8) : goodK l l.length = goodL l := by unfold goodK goodL; rw [List.take_length]
theorem goodK_zero (l : List UInt8) : ((l.length : Int) % 2 == 0) = goodK l 0 := by
  unfold goodK
  simp
  rw [Bool.eq_iff_iff]
  simp
  omega
set_option maxHeartbeats 8000000 in
set_option maxRecDepth 100000 in
theorem fieldTexts_walk (l : List UInt8) (a b : Option Addr) (p cp q cq : Nat) (x y : List UInt8) (w : World) (hpc : p ≤ cp) (hcp : cp ≤ maxLen) (hqc : q ≤ cq) (hcq : cq ≤ maxLen) (hx : BytesIn w a p x) (hy : BytesIn w b q y) :
    Calls Try.prog 8 #[.string ⟨l.toArray⟩, .slice a p cp, .slice b q cq] w fun r w' => r = .returned (.bool true) ∧ Ext w w' := by
  have hls : (⟨l.toArray⟩ : ByteArray).size = l.length := rfl
  have hx' := hide hx
  have hy' := hide hy
  clear hx hy
  by_cases hbig : 4000 < l.length ∨ 4000 < p ∨ 4000 < q
  · by_cases h1 : 4000 < l.length
    all_goals by_cases h2 : 4000 < p
    all_goals by_cases h3 : 4000 < q
    all_goals
      (first | have hd1 : decide ((4000 : Int) < l.length) = true := decide_eq_true (by omega) | have hd1 : decide ((4000 : Int) < l.length) = false := decide_eq_false (by omega))
      (first | have hd2 : decide ((4000 : Int) < p) = true := decide_eq_true (by omega) | have hd2 : decide ((4000 : Int) < p) = false := decide_eq_false (by omega))
      (first | have hd3 : decide ((4000 : Int) < q) = true := decide_eq_true (by omega) | have hd3 : decide ((4000 : Int) < q) = false := decide_eq_false (by omega))
    all_goals first | (exfalso; omega) | (go_enter Try.func8, Try.ntmps8; go_wp2_with (first | (go_at_call 9; (with_reducible refine (known1_any _).mono ?_); rintro r wk ⟨rfl, hxk⟩)); go_ret; exact ⟨rfl, hxk⟩)
  · have h1 : l.length ≤ 4000 := by omega
    have h2 : p ≤ 4000 := by omega
    have h3 : q ≤ 4000 := by omega
    have hd1 : decide ((4000 : Int) < l.length) = false := decide_eq_false (by omega)
    have hd2 : decide ((4000 : Int) < p) = false := decide_eq_false (by omega)
    have hd3 : decide ((4000 : Int) < q) = false := decide_eq_false (by omega)
    clear hbig
    obtain ⟨L, hL⟩ : ∃ L : ByteArray, L = ⟨l.toArray⟩ := ⟨_, rfl⟩
    rw [← hL] at hls ⊢
    have hat := fun k hk W => str_at l k hk W
    rw [← hL] at hat
    replace hat := hide hat
    replace hL := hide hL
    go_enter Try.func8, Try.ntmps8
    go_wp2_with fail
    go_loopw [7, 8] (fun s7 s8 wr => ∃ k m : Nat, k ≤ l.length ∧ s8 = .int .i64 k ∧ s7 = .bool (goodK l k) ∧ wr = w.drewN m) (fun _ s _ => (l.length - intOf s).toNat)
    case atStart => exact ⟨0, 0, Nat.zero_le _, rfl, by rw [goodK_zero], rfl⟩
    case round =>
      obtain ⟨k, m, hk, rfl, rfl, rfl⟩ := hrel
      by_cases hlt : k < l.length
      · have hlt' : (k : Int) < l.length := by omega
        have hbx := hat.out k hlt
        have hgs := goodK_succ l k hlt
        have hsg := sg_int (l.getD k 0)
        generalize l.getD k 0 = c at *
        have hk0 : (0 : Int) ≤ k := by omega
        generalize goodK l k = G at *
        obtain ⟨G2, hG2⟩ : ∃ G2, G2 = goodK l (k + 1) := ⟨_, rfl⟩
        rw [← hG2] at hgs
        replace hG2 := hide hG2
        cases G
        · replace hgs := hide hgs
          replace hsg := hide hsg
          go_wp2_with fail
          exact ⟨⟨k + 1, m, by omega, by go_num, by rw [← hG2.out, hgs.out]; rfl, rfl⟩, by simp [intOf]; omega⟩
        · by_cases c1 : (48 : Int) ≤ c.toNat
          all_goals by_cases c2 : (c.toNat : Int) ≤ 57
          all_goals by_cases c3 : (97 : Int) ≤ c.toNat
          all_goals by_cases c4 : (c.toNat : Int) ≤ 102
          all_goals
            simp only [c1, c2, c3, c4, decide_true, decide_false, Bool.true_and, Bool.and_true, Bool.false_and, Bool.and_false, Bool.or_false, Bool.or_true, Bool.false_or, Bool.true_or, Bool.and_self, Bool.or_self] at hsg
            rw [hsg] at hgs
            replace hgs := hide hgs
            replace hsg := hide hsg
            (first | have e0 : decide ((48 : Int) ≤ c.toNat) = true := decide_eq_true (by omega) | have e0 : decide ((48 : Int) ≤ c.toNat) = false := decide_eq_false (by omega))
            (first | have e1 : decide ((c.toNat : Int) ≤ 57) = true := decide_eq_true (by omega) | have e1 : decide ((c.toNat : Int) ≤ 57) = false := decide_eq_false (by omega))
            (first | have e2 : decide ((97 : Int) ≤ c.toNat) = true := decide_eq_true (by omega) | have e2 : decide ((97 : Int) ≤ c.toNat) = false := decide_eq_false (by omega))
            (first | have e3 : decide ((c.toNat : Int) ≤ 102) = true := decide_eq_true (by omega) | have e3 : decide ((c.toNat : Int) ≤ 102) = false := decide_eq_false (by omega))
            (first | have e4 : decide (48 ≤ c.toNat) = true := decide_eq_true (by omega) | have e4 : decide (48 ≤ c.toNat) = false := decide_eq_false (by omega))
            (first | have e5 : decide (c.toNat ≤ 57) = true := decide_eq_true (by omega) | have e5 : decide (c.toNat ≤ 57) = false := decide_eq_false (by omega))
            (first | have e6 : decide (97 ≤ c.toNat) = true := decide_eq_true (by omega) | have e6 : decide (97 ≤ c.toNat) = false := decide_eq_false (by omega))
            (first | have e7 : decide (c.toNat ≤ 102) = true := decide_eq_true (by omega) | have e7 : decide (c.toNat ≤ 102) = false := decide_eq_false (by omega))
            go_wp2_with fail
            exact ⟨⟨k + 1, m, by omega, by go_num, by rw [← hG2.out, hgs.out]; rfl, rfl⟩, by simp [intOf]; omega⟩
      · obtain rfl : k = l.length := by omega
        have hlt' : ¬ (l.length : Int) < l.length := by omega
        rw [goodK_all]
        have hun := fun w => unhex_any l w (by omega)
        rw [← hL.out] at hun
        have hpx := hx'.out.1
        have hqy := hy'.out.1
        have hjn : ∀ (w0 : World) (m : Nat), Ext w w0 → Calls Try.prog 25 #[.slice (some ⟨w0.heap.size, 0, none⟩) 2 2] ((w0.drewN m).alloc (.cells #[.slice a p cp, .slice b q cq] 22)) fun r w' => ∃ a' cap', r = .returned (.slice a' (p + q) cap') ∧ BytesIn w' a' (p + q) (x ++ y) ∧ Ext w w' := fun w0 m h0 => by
          have hpp := pieces2 ((hx'.out.ext h0).drewN m) ((hy'.out.ext h0).drewN m) hpc hqc hcp hcq
          have hl : (x ++ y).length = p + q := by rw [List.length_append, hpx, hqy]
          refine (wjoin_any _ 2 2 [x, y] _ (Nat.le_refl _) (by decide) hpp (by rw [show [x, y].flatten = x ++ y by simp, hl]; omega)).mono fun r w' hp => ?_
          obtain ⟨v, hr, hv, hxx⟩ := hp
          rw [show [x, y].flatten = x ++ y by simp] at hv
          obtain ⟨a', cap', hv1, hv2, hv3, _, hv5⟩ := hv
          rw [hl] at hv1 hv2 hv5
          exact ⟨a', cap', by rw [hr, hv1], hv5, ((h0.then (ext_drewN w0 m)).then (ext_alloc _ _)).then hxx⟩
        have hjn0 : ∀ (w0 : World), Ext w w0 → Calls Try.prog 25 #[.slice (some ⟨w0.heap.size, 0, none⟩) 2 2] (w0.alloc (.cells #[.slice a p cp, .slice b q cq] 22)) fun r w' => ∃ a' cap', r = .returned (.slice a' (p + q) cap') ∧ BytesIn w' a' (p + q) (x ++ y) ∧ Ext w w' := fun w0 h0 => hjn w0 0 h0
        replace hjn0 := hide hjn0
        have hX : ∀ w0, Ext w w0 → Calls Try.prog 31 #[.slice a p cp] w0 fun r w' => r = .returned (.string ⟨(hexL x).toArray⟩) ∧ Ext w w' := fun w0 h0 => (whex_any a p cp x w0 (by omega) (hx'.out.ext h0)).mono fun r w' hp => ⟨hp.1, h0.then hp.2⟩
        have hY : ∀ w0, Ext w w0 → Calls Try.prog 31 #[.slice b q cq] w0 fun r w' => r = .returned (.string ⟨(hexL y).toArray⟩) ∧ Ext w w' := fun w0 h0 => (whex_any b q cq y w0 (by omega) (hy'.out.ext h0)).mono fun r w' hp => ⟨hp.1, h0.then hp.2⟩
        have hRX : ∀ w0, Ext w w0 → Calls Try.prog 32 #[.slice a p cp] w0 fun r w' => r = .returned (.string ⟨(hexL x).toArray⟩) ∧ Ext w w' := fun w0 h0 => (rhex_any a p cp x w0 (by omega) (hx'.out.ext h0)).mono fun r w' hp => ⟨hp.1, h0.then hp.2⟩
        have hRY : ∀ w0, Ext w w0 → Calls Try.prog 32 #[.slice b q cq] w0 fun r w' => r = .returned (.string ⟨(hexL y).toArray⟩) ∧ Ext w w' := fun w0 h0 => (rhex_any b q cq y w0 (by omega) (hy'.out.ext h0)).mono fun r w' hp => ⟨hp.1, h0.then hp.2⟩
        have hXY : ∀ w0 a' cap', BytesIn w0 a' (p + q) (x ++ y) → Calls Try.prog 31 #[.slice a' (p + q) cap'] w0 fun r w' => r = .returned (.string ⟨(hexL (x ++ y)).toArray⟩) ∧ Ext w0 w' := fun w0 a' cap' h => whex_any a' (p + q) cap' (x ++ y) w0 (by omega) h
        have hcat : (⟨(hexL x).toArray⟩ : ByteArray) ++ ⟨(hexL y).toArray⟩ = ⟨(hexL (x ++ y)).toArray⟩ := by rw [hexL_append]; apply ByteArray.ext; simp
        have hs1 : (⟨(hexL x).toArray⟩ : ByteArray).size = 2 * p := by rw [← hpx]; exact length_hexL x
        have hs2 : (⟨(hexL y).toArray⟩ : ByteArray).size = 2 * q := by rw [← hqy]; exact length_hexL y
        have hs3 : (⟨(hexL (x ++ y)).toArray⟩ : ByteArray).size = 2 * (p + q) := by
          have := length_hexL (x ++ y)
          rw [List.length_append, hpx, hqy] at this
          exact this
        generalize (⟨(hexL x).toArray⟩ : ByteArray) = S1 at *
        generalize (⟨(hexL y).toArray⟩ : ByteArray) = S2 at *
        generalize (⟨(hexL (x ++ y)).toArray⟩ : ByteArray) = S3 at *
        have hW : Ext w (w.drewN m) := ext_drewN w m
        have hov : ¬ 9223372036854775807 < S1.size + S2.size := by omega
        have hov2 : ¬ 9223372036854775807 < 2 * p + 2 * q := by omega
        have w1 : IntKind.i64.wrap ((p : Int) + q) = (p : Int) + q := by rw [IntKind.wrap_i64]; omega
        have w2 : IntKind.i64.wrap (2 * ((p : Int) + q)) = 2 * ((p : Int) + q) := by rw [IntKind.wrap_i64]; omega
        replace hjn := hide hjn
        replace hX := hide hX
        replace hY := hide hY
        replace hRX := hide hRX
        replace hRY := hide hRY
        replace hXY := hide hXY
        clear hpx hqy hat
        cases hg : goodL l
        · have hb := unhex_bad l hg
          have hunB : ∀ w, Calls Try.prog 30 #[.string L] w fun r w' => r = .returned (.tuple #[.slice none 0 0, .int .i64 4]) ∧ Ext w w' := fun w => (hun w).mono fun r w' hp => by
            obtain ⟨⟨c, v, e, _, _⟩ | ⟨_, hr⟩, hxx⟩ := hp
            · rw [hb] at e; cases e
            · exact ⟨hr, hxx⟩
          replace hunB := hide hunB
          clear hun
          go_wp2_with (first
            | (go_at_call 9; (with_reducible refine (known1_any _).mono ?_); rintro r wk ⟨rfl, hxk⟩) | (go_at_call 20; (with_reducible refine (code_any _ _).mono ?_); rintro r wc ⟨rfl, rfl⟩)
            | (go_at_call 30; (with_reducible refine (hunB.out _).mono ?_); rintro r w1 ⟨rfl, hx1⟩; have hx1 := hW.then hx1)
            | (go_at_call 25; (with_reducible refine (hjn0.out _ hx1).mono ?_); rintro r w2 ⟨a', cap', rfl, hin2, hx2⟩)
            | (go_at_call 25; (with_reducible refine (hjn.out _ _ hx1).mono ?_); rintro r w2 ⟨a', cap', rfl, hin2, hx2⟩)
            | (go_at_call 31; (with_reducible refine (hXY.out _ _ _ hin2).mono ?_); rintro r w3 ⟨rfl, hx3⟩; have hx3 := hx2.then hx3)
            | (go_at_call 31; (with_reducible refine (hX.out _ hx3).mono ?_); rintro r w4 ⟨rfl, hx4⟩)
            | (go_at_call 31; (with_reducible refine (hY.out _ hx4).mono ?_); rintro r w5 ⟨rfl, hx5⟩)
            | (go_at_call 32; (with_reducible refine (hRX.out _ hx5).mono ?_); rintro r w6 ⟨rfl, hx6⟩)
            | (go_at_call 32; (with_reducible refine (hRY.out _ hx6).mono ?_); rintro r w7 ⟨rfl, hx7⟩))
          go_ret
          exact ⟨rfl, hx7.then hxk⟩
        · obtain ⟨c, hc1, hc2, hc3⟩ := unhex_good l hg
          have hunG : ∀ w, Calls Try.prog 30 #[.string L] w fun r w' => ∃ ax cx, r = .returned (.tuple #[.slice ax c.length cx, .int .i64 0]) ∧ BytesIn w' ax c.length c ∧ Ext w w' := fun w => (hun w).mono fun r w' hp => by
            obtain ⟨⟨c', v, e, hr, ho⟩ | ⟨e, _⟩, hxx⟩ := hp
            · rw [hc1] at e
              obtain rfl := Option.some.inj e
              obtain ⟨ax, cx, rfl, _, _, _, hin, _⟩ := own_in ho
              exact ⟨ax, cx, hr, hin, hxx⟩
            · rw [hc1] at e; cases e
          have hHC : ∀ w0 ax cx, BytesIn w0 ax c.length c → Calls Try.prog 31 #[.slice ax c.length cx] w0 fun r w' => r = .returned (.string L) ∧ Ext w0 w' := fun w0 ax cx h => by
            have := whex_any ax c.length cx c w0 (by omega) h
            rw [hc2, ← hL.out] at this
            exact this
          have hhalf : (l.length : Int) / 2 = (c.length : Int) := by omega
          replace hunG := hide hunG
          replace hHC := hide hHC
          clear hun hc1 hc2
          replace hc3 := hide hc3
          go_wp2_with (first
            | (go_at_call 9; (with_reducible refine (known1_any _).mono ?_); rintro r wk ⟨rfl, hxk⟩) | (go_at_call 20; (with_reducible refine (code_any _ _).mono ?_); rintro r wc ⟨rfl, rfl⟩)
            | (go_at_call 30; (with_reducible refine (hunG.out _).mono ?_); rintro r w1 ⟨ax, cx, rfl, hin1, hx1⟩; have hx1 := hW.then hx1)
            | (go_at_call 31; (with_reducible refine (hHC.out _ _ _ hin1).mono ?_); rintro r wh ⟨rfl, hxh⟩; have hx1 := hx1.then hxh)
            | (go_at_call 25; (with_reducible refine (hjn0.out _ hx1).mono ?_); rintro r w2 ⟨a', cap', rfl, hin2, hx2⟩)
            | (go_at_call 25; (with_reducible refine (hjn.out _ _ hx1).mono ?_); rintro r w2 ⟨a', cap', rfl, hin2, hx2⟩)
            | (go_at_call 31; (with_reducible refine (hXY.out _ _ _ hin2).mono ?_); rintro r w3 ⟨rfl, hx3⟩; have hx3 := hx2.then hx3)
            | (go_at_call 31; (with_reducible refine (hX.out _ hx3).mono ?_); rintro r w4 ⟨rfl, hx4⟩)
            | (go_at_call 31; (with_reducible refine (hY.out _ hx4).mono ?_); rintro r w5 ⟨rfl, hx5⟩)
            | (go_at_call 32; (with_reducible refine (hRX.out _ hx5).mono ?_); rintro r w6 ⟨rfl, hx6⟩)
            | (go_at_call 32; (with_reducible refine (hRY.out _ hx6).mono ?_); rintro r w7 ⟨rfl, hx7⟩))
          go_ret
          exact ⟨rfl, hx7.then hxk⟩
theorem fieldTexts_all (s : ByteArray) (a b : Option Addr) (p cp q cq : Nat) (x y : List UInt8) (w : World) (hpc : p ≤ cp) (hcp : cp ≤ maxLen) (hqc : q ≤ cq) (hcq : cq ≤ maxLen) (hx : BytesIn w a p x) (hy : BytesIn w b q y) :
    Calls Try.prog 8 #[.string s, .slice a p cp, .slice b q cq] w fun r w' => r = .returned (.bool true) ∧ Ext w w' := by
  have h := fieldTexts_walk s.data.toList a b p cp q cq x y w hpc hcp hqc hcq hx hy
  rwa [show (⟨s.data.toList.toArray⟩ : ByteArray) = s by simp] at h
end Go.Proofs.Ytoiiapjmmjmeoaa
