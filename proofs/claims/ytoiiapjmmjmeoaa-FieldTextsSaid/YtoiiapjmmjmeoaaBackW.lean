/- The walk of the law on rows told back. -/
import Derived.Test.YtoiiapjmmjmeoaaKnown1
import Derived.Test.YtoiiapjmmjmeoaaMuch
import Derived.Test.YtoiiapjmmjmeoaaBackL
import Derived.Deep.RegionHeld3
namespace Go.Proofs.Ytoiiapjmmjmeoaa
open Go.RowKit
set_option linter.unusedVariables false
set_option linter.unusedSimpArgs false

theorem info_int : (Try.prog.info? 3).map (fun i => (i.zero, i.size, i.bytes)) = some (some (.int .i64 0), 1, 8) := by kernel_rfl
/-- Where blobs end, as cells. -/
def endC (s : Nat) (ps : List (List UInt8)) (k : Nat) : List Value := (List.range k).map fun i => .int .i64 (endL s ps (i + 1) : Int)
theorem endC_succ (s : Nat) (ps : List (List UInt8)) (k : Nat) : endC s ps (k + 1) = endC s ps k ++ [.int .i64 (endL s ps (k + 1) : Int)] := by
  unfold endC; rw [List.range_succ, List.map_append]; rfl
/-- Two pieces, in a slice that is made for them. -/
theorem pieces2 {w : World} {a b : Option Addr} {p q p' q' : Nat} {x y : List UInt8} (hx : BytesIn w a p x) (hy : BytesIn w b q y) (hp : p ≤ p') (hq : q ≤ q') (mp : p' ≤ maxLen) (mq : q' ≤ maxLen) :
    PiecesIn (w.alloc (.cells #[.slice a p p', .slice b q q'] 22)) (some ⟨w.heap.size, 0, none⟩) 2 [x, y] := by
  have hE := ext_alloc w (.cells #[.slice a p p', .slice b q q'] 22)
  have hn := heap_alloc_new w (.cells #[.slice a p p', .slice b q q'] 22)
  refine ⟨rfl, fun _ => ⟨_, rfl, fun i hi => ?_⟩⟩
  have hadd : (⟨w.heap.size, 0, none⟩ : Addr).add i = ⟨w.heap.size, i, none⟩ := by unfold Addr.add; split <;> simp_all
  rw [hadd, cell_of_row _ _ i _ _ _ hn]
  rcases (by omega : i = 0 ∨ i = 1) with rfl | rfl
  · exact ⟨a, p, p', rfl, hp, mp, hx.ext hE⟩
  · exact ⟨b, q, q', rfl, hq, mq, hy.ext hE⟩
theorem BytesIn.kept {w w' : World} {a : Option Addr} {n : Nat} {c : List UInt8} {row : Option Nat} (h : BytesIn w a n c) (hg : w.grownBy w' row) (hne : ∀ ad, a = some ad → some ad.block ≠ row) : BytesIn w' a n c := by
  refine ⟨h.1, fun h0 => ?_⟩
  obtain ⟨ad, e, hc⟩ := h.2 h0
  refine ⟨ad, e, fun j hj => ?_⟩
  rw [← hc j hj]
  have hb := block_lt_of_cell (hc j hj)
  rw [block_add] at hb
  refine World.cell?_of_block ?_
  rw [block_add]
  exact hg.block _ hb (hne ad e)
/-- Has a number room in a width? -/
def RoomIs (n : Nat) (size : Int) (r : Ending) : Prop := ∃ b : Bool, r = .returned (.bool b) ∧ (b = true → ∃ s : Nat, size = s ∧ 1 ≤ s ∧ s ≤ 8 ∧ n < p256 s)
set_option maxHeartbeats 2000000 in
theorem room_any (n : Nat) (size : Int) (w : World) (hn : n < 18446744073709551616) :
    Calls Try.prog 29 #[.int .u64 (n : Int), .int .i64 size] w fun r w' => RoomIs n size r ∧ w' = w := by
  by_cases h8 : size = 8
  · subst h8
    go_enter Try.func29, Try.ntmps29
    go_wp2_with fail
    go_ret
    exact ⟨⟨true, rfl, fun _ => ⟨8, rfl, by decide, by decide, by rw [p256_8]; exact hn⟩⟩, rfl⟩
  · have hd0 : (size == 8) = false := beq_eq_false_iff_ne.2 h8
    by_cases h1 : 1 ≤ size
    · have hd1 : decide (1 ≤ size) = true := decide_eq_true h1
      by_cases h2 : size < 8
      · have hd2 : decide (size < 8) = true := decide_eq_true h2
        obtain ⟨s, rfl⟩ := Int.eq_ofNat_of_zero_le (show 0 ≤ size by omega)
        have hpow := fun w => power_any s (by omega) w
        go_enter Try.func29, Try.ntmps29
        go_wp2_with (first | (go_at_call 26; (with_reducible refine (hpow _).mono ?_); rintro r w1 ⟨rfl, rfl⟩))
        go_ret
        exact ⟨⟨_, rfl, fun h => ⟨s, rfl, by omega, by omega, of_decide_eq_true h⟩⟩, rfl⟩
      · have hd2 : decide (size < 8) = false := decide_eq_false h2
        go_enter Try.func29, Try.ntmps29
        go_wp2_with fail
        go_ret
        exact ⟨⟨_, rfl, fun h => by cases h⟩, rfl⟩
    · have hd1 : decide (1 ≤ size) = false := decide_eq_false h1
      go_enter Try.func29, Try.ntmps29
      go_wp2_with fail
      go_ret
      exact ⟨⟨_, rfl, fun h => by cases h⟩, rfl⟩
set_option maxHeartbeats 8000000 in
set_option maxRecDepth 100000 in
theorem rowsBack_walk (n : Nat) (size cut : Int) (ad : Option Addr) (q cap : Nat) (ps : List (List UInt8)) (w : World) (hn : n < 18446744073709551616) (hq : q ≤ cap) (hcap : cap ≤ maxLen) (hps : PiecesIn w ad q ps) :
    Calls Try.prog 7 #[.int .u64 (n : Int), .int .i64 size, .slice ad q cap, .int .i64 cut] w fun r w' => r = .returned (.bool true) ∧ Ext w w' := by
  have hmu : Calls Try.prog 27 #[.slice ad q cap, .int .i64 3000] w fun r w' => MuchIs q 3000 ps r ∧ w' = w := much_any ad q cap 3000 ps w hq hcap (by omega) hps
  have hps' := hide hps
  clear hps
  by_cases hR : ∃ s : Nat, size = s ∧ 1 ≤ s ∧ s ≤ 8 ∧ n < p256 s
  · obtain ⟨s, rfl, h1, h8, hns⟩ := hR
    have hput := fun w => put_ok n s w h1 h8 hns
    go_enter Try.func7, Try.ntmps7
    go_wp2_with (first
      | (go_at_call 9; (with_reducible refine (known1_any _).mono ?_); rintro r wk ⟨rfl, hxk⟩) | (go_at_call 20; (with_reducible refine (code_any _ _).mono ?_); rintro r wc ⟨rfl, rfl⟩) | (go_at_call 27; (with_reducible refine hmu.mono ?_); rintro r wm ⟨⟨mb, rfl, hmb⟩, rfl⟩; replace hmb := hide hmb; cases mb)
      | (go_at_call 29; (with_reducible refine (room_any n s _ hn).mono ?_); rintro r wm ⟨⟨rb, rfl, hrb⟩, rfl⟩; clear hrb; cases rb)
      | (go_at_call 23; (with_reducible refine (hput _).mono ?_); rintro r w1 ⟨v, rfl, hown, hx1⟩))
    all_goals first | (go_ret; exact ⟨rfl, hxk⟩) | skip
    have hv0 := (own_fresh hown).held
    have hmm := hmb.out (by trivial)
    have hE0 : w1.ownsRow wm.heap.size 3 1 (.slice none 0 0) 0 (endC s ps 0) := World.ownsRow_nil _ _ _ _
    have hbd := endL_bound s ps
    have hql := hps'.out.1
    rw [hql] at hbd
    clear hmu hown hmb
    replace hbd := hide hbd
    obtain ⟨i0, hi0, hz0, hz1, hz2⟩ := info_parts info_int
    go_loopw [11, 12, 13] (fun s11 s12 s13 wr => ∃ k : Nat, k ≤ q ∧ s13 = .int .i64 k ∧ Held s11 (rowL n s (ps.take k)) wr ∧ wr.ownsRow wm.heap.size 3 1 s12 k (endC s ps k) ∧ Ext wm wr) (fun _ _ s _ => (q - intOf s).toNat)
    case atStart => exact ⟨0, Nat.zero_le _, rfl, by simpa [rowL] using hv0, hE0, hx1⟩
    case round =>
      obtain ⟨k, hk, rfl, hR, hE, hx⟩ := hrel
      obtain ⟨w2, rfl⟩ : ∃ w2, w2 = wr := ⟨_, rfl⟩
      by_cases hlt : k < q
      · obtain ⟨ad0, rfl, hpc0⟩ := (hps'.out.ext hx).2 (by omega)
        obtain ⟨a', q', c', d1, q1, q2, hb⟩ := hpc0 k hlt
        have hlt' : (k : Int) < q := by omega
        have hql' := hql
        have hfl := flat_take ps k (by omega)
        have hfl2 := flat_take_le ps (k + 1)
        have hsucc := rowL_succ n s ps k (by omega)
        have hlen := length_row_take n s ps (k + 1) (by omega)
        have hle := endL_le s ps (k + 1) (by omega)
        rw [hql, hbd.out] at hle
        obtain ⟨aR, cR, rfl, r1, r2, r3, hRb⟩ := hR
        generalize ps.getD k [] = x at *
        have hxb : x.length ≤ 65535 := by omega
        have hbl := fun w' h => blob_ok a' q' c' x w' (hb.ext h) hxb
        generalize rowL n s (ps.take k) = R at *
        generalize hR2 : rowL n s (ps.take (k + 1)) = R2 at *
        replace hR2 := hide hR2
        have hRR : R2.length ≤ 100000 := by rw [hlen]; omega
        have hjn : ∀ w3, Ext w2 w3 → ∀ af cf, BytesIn w3 af (2 + x.length) (blobL x) → 2 + x.length ≤ cf → cf ≤ maxLen → Calls Try.prog 25 #[.slice (some ⟨w3.heap.size, 0, none⟩) 2 2] (w3.alloc (.cells #[.slice aR R.length cR, .slice af (2 + x.length) cf] 22)) fun r w' => ∃ a4 c4, r = .returned (.slice a4 R2.length c4) ∧ Held (.slice a4 R2.length c4) R2 w' ∧ Ext w2 w' ∧ ∀ ad, a4 = some ad → w2.heap.size ≤ ad.block := fun w3 h3 af cf f1 f2 f3 => by
          have hp := pieces2 (hRb.ext h3) f1 r1 f2 r2 f3
          have hff : [R, blobL x].flatten = R2 := by rw [hsucc]; simp
          refine (wjoin_all _ 2 2 [R, blobL x] _ (Nat.le_refl _) (by decide) hp (by rw [hff]; omega)).mono fun r w' hp => ?_
          obtain ⟨v, hr, hv, hxx, hnew⟩ := hp
          rw [hff] at hv
          obtain ⟨a4, c4, rfl, g1, g2, g3, g4⟩ := hv
          have hE3 := h3.then (ext_alloc w3 (.cells #[.slice aR R.length cR, .slice af (2 + x.length) cf] 22))
          exact ⟨a4, c4, hr, ⟨a4, c4, rfl, g1, g2, g3, g4⟩, hE3.then hxx, fun ad e => by subst e; exact Nat.le_trans hE3.size (hnew ad _ _ rfl)⟩
        replace hjn := hide hjn
        replace hbl := hide hbl
        replace hsucc := hide hsucc
        replace hlen := hide hlen
        replace hRb := hide hRb
        replace hE := hide hE
        replace hb := hide hb
        clear hpc0 hfl hfl2 hle
        go_wp2_with (first
          | (go_at_call 20; (with_reducible refine (code_any _ _).mono ?_); rintro r wc ⟨rfl, rfl⟩)
          | (go_at_call 28; (with_reducible refine (hbl.out _ (Below.refl _ _)).mono ?_); rintro r w3 ⟨v, rfl, hown3, hx3⟩; obtain ⟨af, cf, rfl, f1, f2, _, hfin, _⟩ := own_in hown3; clear hown3; replace hfin := hide hfin)
          | (go_at_call 25; (with_reducible refine (hjn.out _ hx3 _ _ hfin.out f1 f2).mono ?_); rintro r w4 ⟨a4, c4, rfl, hv4, hx4, hnew4⟩; replace hv4 := hide hv4; replace hnew4 := hide hnew4)
          | (at_builtin; (refine wpList_append_own _ rfl _ _ 55 rfl wm.heap.size 3 i0 (.int .i64 0) 1 8 Try.underlying55 hi0 hz0 hz1 hz2 rfl (by decide) u12 k (endC s ps k) rfl ((own_ext hx4 hE.out).alloc _) ⟨w4.heap.size, 0, none⟩ 1 1 [.int .i64 (R2.length : Int)] rfl rfl (World.news_of_block (heap_alloc_new _ _)) (by intro u hu; simp at hu; subst hu; rfl) (by unfold maxLen; omega) (by omega) ((hx.then hx4).then (ext_alloc _ _)).size ?_); intro v5 w5 hown5 hgrow5 hnil5; replace hgrow5 := hide hgrow5; replace hown5 := hide hown5; clear hnil5))
        obtain ⟨a4', c4', e4, g1, g2, g3, g4⟩ := hv4.out
        simp only [Value.slice.injEq] at e4
        obtain ⟨rfl, _, rfl⟩ := e4
        have g5 := (g4.ext (ext_alloc w4 (.cells #[.int .i64 (R2.length : Int)] 3))).kept hgrow5.out (fun ad e h => by
          have h1 := (hE.out.lt ad.block h.symm).2
          have h2 := hnew4.out ad e
          omega)
        exact ⟨⟨k + 1, by omega, by go_num, by rw [hR2.out]; exact ⟨_, _, rfl, g1, g2, g3, g5⟩, by rw [endC_succ, ← hlen.out]; exact hown5.out, ext_grown ((hx.then hx4).then (ext_alloc _ _)) hgrow5.out (fun k hk => (hE.out.lt k hk).1)⟩, by simp [intOf]; omega⟩
      · obtain rfl : k = q := by omega
        have hlt' : ¬ (k : Int) < k := by omega
        have hall : ps.take k = ps := by rw [← hql, List.take_length]
        rw [hall] at hR
        have hRlen : (rowL n s ps).length = s + (2 * k + ps.flatten.length) := by rw [length_rowL, hql, hbd.out]
        have hRb : (rowL n s ps).length ≤ 65535 := by omega
        obtain ⟨R, hRe⟩ : ∃ R, R = rowL n s ps := ⟨_, rfl⟩
        rw [← hRe] at hR hRlen hRb
        replace hRe := hide hRe
        replace hRlen := hide hRlen
        obtain ⟨aR, cR, rfl, r1, r2, r3, hRin⟩ := hR
        have hbl := fun w' h => blob_ok aR R.length cR R w' (hRin.ext h) hRb
        have hbw := blob_whole R hRb
        have hrd := fun (w' : World) (af : Option Addr) (cf : Nat) (f : af = none → 2 + R.length = 0 ∧ cf = 0) (h : BytesIn w' af (2 + R.length) (blobL R)) => read_any af (2 + R.length) cf (blobL R) w' f (by omega) h
        have hbr := fun (w' : World) (p g : Nat) (h : RdrIs w' p g 0 (some (blobL R))) => blobR_any p g 0 _ w' h
        rw [hbw] at hbr
        replace hbl := hide hbl
        replace hrd := hide hrd
        replace hbr := hide hbr
        replace hRin := hide hRin
        replace hE := hide hE
        clear hbw
        have hcut3 : ∃ C : Nat, C ≤ R.length ∧ (cut = C ∨ cut < 0 ∧ C = R.length ∨ (R.length : Int) < cut ∧ C = R.length) := by
          by_cases hc1 : cut < 0
          · exact ⟨R.length, Nat.le_refl _, .inr (.inl ⟨hc1, rfl⟩)⟩
          · by_cases hc2 : (R.length : Int) < cut
            · exact ⟨R.length, Nat.le_refl _, .inr (.inr ⟨hc2, rfl⟩)⟩
            · exact ⟨cut.toNat, by omega, .inl (by omega)⟩
        obtain ⟨C, hCR, hcut3⟩ := hcut3
        have hC0 : (0 : Int) ≤ C := by omega
        have hCR' : (C : Int) ≤ R.length := by omega
        rcases hcut3 with rfl | ⟨hlt0, hCe⟩ | ⟨hgt0, hCe⟩
        all_goals
          (try replace hCe := hide hCe)
          (first | have hd1 : decide ((C : Int) < 0) = false := decide_eq_false (by omega) | skip)
          (first | have hd1 : decide (cut < 0) = true := decide_eq_true (by omega) | have hd1 : decide (cut < 0) = false := decide_eq_false (by omega) | skip)
          (first | have hd2 : decide ((R.length : Int) < cut) = true := decide_eq_true (by omega) | have hd2 : decide ((R.length : Int) < C) = false := decide_eq_false (by omega))
          go_wp2_with (first
            | (go_at_call 20; (with_reducible refine (code_any _ _).mono ?_); rintro r wc ⟨rfl, rfl⟩)
            | (go_at_call 28; (with_reducible refine (hbl.out _ (Below.refl _ _)).mono ?_); rintro r w3 ⟨v, rfl, hown3, hx3⟩; obtain ⟨af, cf, rfl, f1, f2, f3, hfin, _⟩ := own_in hown3; clear hown3; replace hfin := hide hfin; replace f3 := hide f3)
            | (go_at_call 10; (with_reducible refine (hrd.out _ af cf f3.out hfin.out).mono ?_); rintro r w4 ⟨p, g, rfl, hp1, hp2, hg1, hg2, hr4, hx4⟩; replace hg2 := hide hg2; have hx4 := hx3.then hx4)
            | (go_at_call 13; (with_reducible refine (hbr.out _ p g hr4).mono ?_); rintro r w5 ⟨a5, c5, rfl, c51, c52, c53, hin5, hpl5, hr5, hg5⟩; have hx5 := ext_grown hx4 hg5 (fun k hk => by cases hk; have := hx3.size; omega); have cv5 := conv_bytes (cap := c5) hin5; have cv6 := conv_bytes (cap := cR) (hRin.out.ext hx5); replace hin5 := hide hin5))
          have hin6 := bytes_take hin5.out C hCR
          (first | (have hh := hCe; generalize hCI : ((R.length : Nat) : Int) = CI; obtain rfl : CI = (C : Int) := (by rw [← hCI, hCe.out]); have hin7 : BytesIn w5 a5 R.length (R.take C) := by rw [hCe.out, List.take_length]; exact hin5.out) | have hin7 := hin6)
          go_at_call 10
          (with_reducible refine (read_any a5 _ c5 (R.take C) w5 (fun e => by have := c53 e; omega) (by omega) hin7).mono ?_)
          rintro r w6 ⟨p2, g2, rfl, hp21, hp22, hg21, hg22, hr6, hx6⟩
          obtain ⟨x0, hx0, hgx0⟩ := head_read n s ps C h1 h8 (by rw [← hRe.out]; exact hCR) hns
          have hnum := number_any p2 g2 0 _ (s : Int) w6 hr6
          rw [hRe.out, hx0] at hnum
          unfold NumIs at hnum
          simp only [hgx0] at hnum
          have hE5 := hide (own_ext hx5 hE.out)
          have hps5 := hide (hps'.out.ext (hx.then hx5))
          have hx05 := hx.then hx5
          have hCq : C ≤ (rowL n s ps).length := by rw [← hRe.out]; exact hCR
          clear hin6 hin7 hg22 hin5 hr5 hpl5 cv5 cv6
          replace hnum := hide hnum
          by_cases hsC : s ≤ C
          all_goals
            (first | rw [if_pos hsC] at hnum | rw [if_neg hsC] at hnum)
            (first | have hd3 : decide ((s : Int) ≤ C) = true := decide_eq_true (by omega) | have hd3 : decide ((s : Int) ≤ C) = false := decide_eq_false (by omega))
            (first | have hd4 : decide ((C : Int) < s) = true := decide_eq_true (by omega) | have hd4 : decide ((C : Int) < s) = false := decide_eq_false (by omega))
            go_wp2_with (first
              | (go_at_call 11; (with_reducible refine hnum.out.mono ?_); rintro r w7 ⟨rfl, hr7, hg7⟩; have hx7 := ext_grown hx6 hg7 (fun k hk => by cases hk; exact hp21)))
            go_loopw [21] (fun s21 wr => ∃ j o : Nat, j ≤ k ∧ s21 = .int .i64 j ∧ RdrIs wr p2 g2 o (stL n s ps C j) ∧ Ext w5 wr) (fun v _ => (k - intOf v).toNat)
            case atStart => exact ⟨0, _, Nat.zero_le _, rfl, hr7, hx7⟩
            case round =>
              obtain ⟨j, o, hj, rfl, hrj, hxj⟩ := hrel
              obtain ⟨w8, rfl⟩ : ∃ w8, w8 = wr := ⟨_, rfl⟩
              by_cases hjk : j < k
              · have hjk' : (j : Int) < k := by omega
                have hxl : (ps.getD j []).length ≤ 65535 := by
                  have h1 := flat_take ps j (by omega)
                  have h2 := flat_take_le ps (j + 1)
                  omega
                have hbN := blob_read n s ps C j (by omega) hxl hCq
                have hbc := blobR_any p2 g2 o (stL n s ps C j) w8 hrj
                rw [hbN] at hbc
                generalize hxe : ps.getD j [] = x at hbc hxl
                replace hxe := hide hxe
                clear hbN
                obtain ⟨gE, cE, rfl, _, _⟩ := hE5.out.form (by omega)
                by_cases hEj : endL s ps (j + 1) ≤ C
                all_goals
                  (first | rw [if_pos hEj] at hbc | rw [if_neg hEj] at hbc)
                  (first | have hd5 : decide ((endL s ps (j + 1) : Int) ≤ C) = true := decide_eq_true (by omega) | have hd5 : decide ((endL s ps (j + 1) : Int) ≤ C) = false := decide_eq_false (by omega))
                  (first | have hd6 : decide ((C : Int) < endL s ps (j + 1)) = true := decide_eq_true (by omega) | have hd6 : decide ((C : Int) < endL s ps (j + 1)) = false := decide_eq_false (by omega))
                  unfold TakeIs at hbc
                  replace hbc := hide hbc
                  go_wp2_with (first
                    | (go_at_call 13; (with_reducible refine hbc.out.mono ?_); rintro r w9 ⟨a9, c9, rfl, c91, c92, c93, hin9, hpl9, hr9, hg9⟩; have hx9 := ext_grown hxj hg9 (fun k hk => by cases hk; exact hp21); replace hin9 := hide hin9; clear hpl9 c93; replace hr9 := hide hr9))
                  obtain ⟨ad0, rfl, hpc0⟩ := (hps5.out.ext hx9).2 (by omega)
                  obtain ⟨a', q', c', d1, q1, q2, hb⟩ := hpc0 j hjk
                  rw [hxe.out] at hb
                  have dE : w9.cell? ⟨gE, j, none⟩ = some (.int .i64 (endL s ps (j + 1) : Int)) := by
                    rw [(own_ext hx9 hE5.out).cellAt j (by omega)]
                    simp [endC, hjk]
                  have cvx := fun m => conv_bytes (cap := c9) (hin9.out.drewN m)
                  have cvy := fun m => conv_bytes (cap := c') (hb.drewN m)
                  have hj0 : (0 : Int) ≤ j := by omega
                  replace hb := hide hb
                  generalize hEE : endL s ps (j + 1) = E at dE hd5 hd6 hEj
                  replace hEE := hide hEE
                  (first | have hd7 : decide (E ≤ C) = true := decide_eq_true hEj | have hd7 : decide (E ≤ C) = false := decide_eq_false hEj)
                  (first | have hd8 : decide (C < E) = true := decide_eq_true (by omega) | have hd8 : decide (C < E) = false := decide_eq_false (by omega))
                  clear hpc0 hg9
                  go_quiet (fail)
                  go_wp2_with fail
                  exact ⟨⟨j + 1, _, by omega, by go_num, hr9.out.drewN nq, hx9.then (ext_drewN _ _)⟩, by simp [intOf]; omega⟩
              · obtain rfl : k = j := by omega
                have hjk' : ¬ (k : Int) < k := by omega
                have hse := st_end n s ps C hCq
                rw [hql] at hse
                rw [hse, ← hRe.out] at hrj
                clear hse
                by_cases hCN : C = R.length
                all_goals try (exact absurd hCe.out hCN)
                all_goals
                  (first | rw [if_pos hCN] at hrj | rw [if_neg hCN] at hrj)
                  (first | have hd9 : decide ((C : Int) < R.length) = true := decide_eq_true (by omega) | have hd9 : decide ((C : Int) < R.length) = false := decide_eq_false (by omega))
                  (first | have hd10 : decide (C < R.length) = true := decide_eq_true (by omega) | have hd10 : decide (C < R.length) = false := decide_eq_false (by omega))
                  (first | have hd11 : ((C : Int) == (R.length : Int)) = false := beq_eq_false_iff_ne.2 (by omega) | skip)
                  have hd12 : ((endN none : Int) == 0) = false := by decide
                  have hd13 : ((endN (some []) : Int) == 0) = true := by decide
                  have hrj' := hide hrj
                  clear hrj
                  go_wp2_with (first
                    | (go_at_call 17; (with_reducible refine (failed_any p2 g2 _ _ _ hrj'.out).mono ?_); rintro r wf ⟨rfl, rfl⟩)
                    | (go_at_call 21; (with_reducible refine (end_any p2 g2 _ _ _ hrj'.out).mono ?_); rintro r we ⟨rfl, rfl⟩)
                    | (go_at_call 20; (with_reducible refine (code_any _ _).mono ?_); rintro r wc ⟨rfl, rfl⟩) | (go_at_call 9; (with_reducible refine (known1_any _).mono ?_); rintro r wk ⟨rfl, hxk⟩))
                  go_ret
                  exact ⟨rfl, (hx05.then hxj).then hxk⟩
  · have hroom : ∀ w0, Calls Try.prog 29 #[.int .u64 (n : Int), .int .i64 size] w0 fun r w' => r = .returned (.bool false) ∧ w' = w0 := fun w0 => (room_any n size w0 hn).mono fun r w' hp => by
      obtain ⟨⟨rb, hr, hrb⟩, hw⟩ := hp
      cases rb
      · exact ⟨hr, hw⟩
      · exact absurd (hrb rfl) hR
    clear hR
    go_enter Try.func7, Try.ntmps7
    go_wp2_with (first
      | (go_at_call 9; (with_reducible refine (known1_any _).mono ?_); rintro r wk ⟨rfl, hxk⟩) | (go_at_call 27; (with_reducible refine hmu.mono ?_); rintro r wm ⟨⟨mb, rfl, hmb⟩, rfl⟩; replace hmb := hide hmb; cases mb)
      | (go_at_call 29; (with_reducible refine (hroom _).mono ?_); rintro r wm ⟨rfl, rfl⟩))
    all_goals (go_ret; exact ⟨rfl, hxk⟩)
end Go.Proofs.Ytoiiapjmmjmeoaa
