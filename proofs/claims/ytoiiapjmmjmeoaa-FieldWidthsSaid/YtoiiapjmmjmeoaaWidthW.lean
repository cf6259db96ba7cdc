/- The walk of the law on a number's widths. -/
import Derived.Test.YtoiiapjmmjmeoaaKnown1
import Derived.Test.YtoiiapjmmjmeoaaWjoin
import Derived.Test.YtoiiapjmmjmeoaaWidthL
namespace Go.Proofs.Ytoiiapjmmjmeoaa
open Go.RowKit
set_option linter.unusedVariables false
set_option linter.unusedSimpArgs false

/-- Two pieces, in a slice that is made for them. -/
theorem two_pieces {w : World} {a b : Option Addr} {p q p' q' : Nat} {x y : List UInt8} (hx : BytesIn w a p x) (hy : BytesIn w b q y) (hp : p ≤ p') (hq : q ≤ q') (mp : p' ≤ maxLen) (mq : q' ≤ maxLen) :
    PiecesIn (w.alloc (.cells #[.slice a p p', .slice b q q'] 22)) (some ⟨w.heap.size, 0, none⟩) 2 [x, y] := by
  have hE := ext_alloc w (.cells #[.slice a p p', .slice b q q'] 22)
  have hn := heap_alloc_new w (.cells #[.slice a p p', .slice b q q'] 22)
  refine ⟨rfl, fun _ => ⟨_, rfl, fun i hi => ?_⟩⟩
  have hadd : (⟨w.heap.size, 0, none⟩ : Addr).add i = ⟨w.heap.size, i, none⟩ := by unfold Addr.add; split <;> simp_all
  rw [hadd, cell_of_row _ _ i _ _ _ hn]
  rcases (by omega : i = 0 ∨ i = 1) with rfl | rfl
  · exact ⟨a, p, p', rfl, hp, mp, hx.ext hE⟩
  · exact ⟨b, q, q', rfl, hq, mq, hy.ext hE⟩
theorem u64_id (k : Nat) (h : k < 18446744073709551616) : IntKind.u64.wrap (k : Int) = k := by rw [IntKind.wrap_u64]; omega
theorem wget_ok (a : Option Addr) (q cap : Nat) (c : List UInt8) (w : World) (h1 : 1 ≤ q) (h8 : q ≤ 8) (hqc : q ≤ cap) (hcm : cap ≤ maxLen) (h : BytesIn w a q c) :
    Calls Try.prog 24 #[.slice a q cap] w fun r w' => r = .returned (.tuple #[.int .u64 (getN c : Int), .int .i64 0]) ∧ ∃ m, w' = w.drewN m := by
  refine (wget_any a q cap c w hqc hcm h).mono fun r w' hp => ?_
  obtain ⟨⟨_, _, hr⟩ | ⟨h0, _⟩, hm⟩ := hp
  · exact ⟨hr, hm⟩
  · omega
theorem wget_bad (a : Option Addr) (q cap : Nat) (c : List UInt8) (w : World) (h0 : q = 0 ∨ 8 < q) (hqc : q ≤ cap) (hcm : cap ≤ maxLen) (h : BytesIn w a q c) :
    Calls Try.prog 24 #[.slice a q cap] w fun r w' => r = .returned (.tuple #[.int .u64 0, .int .i64 2]) ∧ ∃ m, w' = w.drewN m := by
  refine (wget_any a q cap c w hqc hcm h).mono fun r w' hp => ?_
  obtain ⟨⟨_, _, _⟩ | ⟨_, hr⟩, hm⟩ := hp
  · omega
  · exact ⟨hr, hm⟩
set_option maxHeartbeats 8000000 in
set_option maxRecDepth 100000 in
theorem fieldWidths_walk (n : Nat) (size : Int) (a b : Option Addr) (p cp q cq : Nat) (x y : List UInt8) (w : World) (hn : n < 18446744073709551616) (hs1 : -9223372036854775808 ≤ size) (hs2 : size ≤ 9223372036854775807) (hpc : p ≤ cp) (hcp : cp ≤ maxLen) (hqc : q ≤ cq) (hcq : cq ≤ maxLen) (hx : BytesIn w a p x) (hy : BytesIn w b q y) :
    Calls Try.prog 5 #[.int .u64 (n : Int), .int .i64 size, .slice a p cp, .slice b q cq] w fun r w' => r = .returned (.bool true) ∧ Ext w w' := by
  have hg9 : ∀ (w0 : World) (m : Nat), Calls Try.prog 24 #[.slice (some ⟨w0.heap.size, 0, none⟩) 9 9] ((w0.drewN m).alloc (.cells #[.int .u8 0, .int .u8 0, .int .u8 0, .int .u8 0, .int .u8 0, .int .u8 0, .int .u8 0, .int .u8 0, .int .u8 0] 5)) fun r w' => r = .returned (.tuple #[.int .u64 0, .int .i64 2]) ∧ Ext w0 w' := fun w0 m => (wget_bad _ 9 9 [0, 0, 0, 0, 0, 0, 0, 0, 0] _ (.inr (by decide)) (by decide) (by decide) (bytes_blk (l := [0, 0, 0, 0, 0, 0, 0, 0, 0]) (heap_alloc_new (w0.drewN m) _) rfl)).mono fun r w' hp => let ⟨hr, m2, hm⟩ := hp; ⟨hr, by rw [hm]; exact ((ext_drewN w0 m).then (ext_alloc _ _)).then (ext_drewN _ m2)⟩
  have hjn : ∀ (w0 : World) (m : Nat), p ≤ 4 → q ≤ 4 → Ext w w0 → Calls Try.prog 25 #[.slice (some ⟨w0.heap.size, 0, none⟩) 2 2] ((w0.drewN m).alloc (.cells #[.slice a p cp, .slice b q cq] 22)) fun r w' => ∃ a' cap', r = .returned (.slice a' (p + q) cap') ∧ p + q ≤ cap' ∧ cap' ≤ maxLen ∧ BytesIn w' a' (p + q) (x ++ y) ∧ Ext w0 w' := fun w0 m hp4 hq4 h0 => by
    have hpp := two_pieces ((hx.ext h0).drewN m) ((hy.ext h0).drewN m) hpc hqc hcp hcq
    have h1 := hx.1
    have h2 := hy.1
    have hl : (x ++ y).length = p + q := by rw [List.length_append, h1, h2]
    refine (wjoin_any _ 2 2 [x, y] _ (Nat.le_refl _) (by decide) hpp (by rw [show [x, y].flatten = x ++ y by simp, hl]; omega)).mono fun r w' hp => ?_
    obtain ⟨v, hr, hv, hxx⟩ := hp
    rw [show [x, y].flatten = x ++ y by simp] at hv
    obtain ⟨a', cap', hv1, hv2, hv3, _, hv5⟩ := hv
    rw [hl] at hv1 hv2 hv5
    exact ⟨a', cap', by rw [hr, hv1], hv2, hv3, hv5, ((ext_drewN w0 m).then (ext_alloc _ _)).then hxx⟩
  have hza := getN_append x y
  rw [hy.1] at hza
  have hz44 : p ≤ 4 → q ≤ 4 → IntKind.u64.wrap (IntKind.u64.wrap ((getN x : Int) * (p256 q : Int)) + (getN y : Int)) = (getN (x ++ y) : Int) := fun hp hq => by
    have h1 := getN_four x (by rw [hx.1]; exact hp)
    have h2 := getN_four y (by rw [hy.1]; exact hq)
    have h3 : p256 q ≤ 4294967296 := p256_mono hq
    have h4 : getN x * p256 q ≤ 4294967295 * 4294967296 := Nat.mul_le_mul (by omega) h3
    have h5 : (getN x : Int) * (p256 q : Int) = ((getN x * p256 q : Nat) : Int) := (Int.natCast_mul _ _).symm
    rw [h5, u64_id _ (by omega), hza, ← Int.natCast_add, u64_id _ (by omega)]
  have hmk : ∀ w : World, (Instr.makeSlice 22 (.int .i64 9) (.int .i64 9)).run Try.prog w = .ok (.slice (some ⟨w.heap.size, 0, none⟩) 9 9) (w.alloc (.cells #[.int .u8 0, .int .u8 0, .int .u8 0, .int .u8 0, .int .u8 0, .int .u8 0, .int .u8 0, .int .u8 0, .int .u8 0] 5)) := fun w => by
    obtain ⟨i0, hi0, hz0, hz1, hz2⟩ := info_parts info_u8
    rw [run_makeSlice w 22 5 i0 (.int .u8 0) Try.underlying22 hi0 hz0 .i64 .i64 9 9 (by omega) (by omega) (by rw [hz1]; decide) (by rw [hz2]; decide) (by omega), hz1]
    exact congrArg (fun A => Result.ok (Value.slice (some ⟨w.heap.size, 0, none⟩) 9 9) (w.alloc (.cells A 5))) (by kernel_rfl)
  replace hx := hide hx
  replace hjn := hide hjn
  clear hza
  replace hz44 := hide hz44
  replace hy := hide hy
  replace hg9 := hide hg9
  go_enter Try.func5, Try.ntmps5
  go_wp2_with fail
  go_loopw [9, 10] (fun s9 s10 wr => ∃ i : Nat, NeedIs n i ∧ s9 = .int .i64 i ∧ s10 = .int .u64 ((n / p256 i : Nat) : Int) ∧ wr = w) (fun s _ _ => (9 - intOf s).toNat)
  case atStart => exact ⟨1, ⟨by omega, by omega, .inl rfl⟩, rfl, by simp [p256], rfl⟩
  case round =>
    obtain ⟨i, hN, rfl, rfl, rfl⟩ := hrel
    have hi8 := hN.2.1
    have hi1 := hN.1
    by_cases h0 : 0 < n / p256 i
    · have hN2 := need_step hN hn h0
      have h82 := hN2.2.1
      have e1 : ((n / p256 i : Nat) : Int) / 256 = ((n / p256 (i + 1) : Nat) : Int) := by rw [← p256_step]; omega
      generalize n / p256 i = k at *
      have h0' : (0 : Int) < k := by omega
      replace e1 := hide e1
      have hwr := hide (u64_id (n / p256 (i + 1)) (Nat.lt_of_le_of_lt (Nat.div_le_self _ _) hn))
      replace hN := hide hN
      replace hN2 := hide hN2
      go_wp2_with fail
      exact ⟨⟨i + 1, hN2.out, by go_num, by rw [e1.out, hwr.out], trivial⟩, by simp [intOf]; omega⟩
    · have h0' : n / p256 i = 0 := Nat.eq_zero_of_not_pos h0
      have hend := need_end h0'
      rw [h0']
      replace h0' := hide h0'
      by_cases hbad : size < i ∨ 8 < size
      · have hpb : ∀ w, Calls Try.prog 23 #[.int .u64 (n : Int), .int .i64 size] w fun r w' => r = .returned (.tuple #[.slice none 0 0, .int .i64 2]) ∧ Ext w w' := fun w => put_bad n size w hn (by
          rcases hbad with h | h
          · by_cases h1 : size < 1
            · exact .inl h1
            · exact .inr (.inr (need_less hN (by omega) (by omega)))
          · exact .inr (.inl h))
        have hcond : decide (size < i) = true ∨ decide (size < i) = false ∧ decide (8 < size) = true := by
          by_cases h : size < i
          · exact .inl (decide_eq_true h)
          · exact .inr ⟨decide_eq_false h, decide_eq_true (by omega)⟩
        replace hN := hide hN
        rcases hcond with hc1 | ⟨hc1, hc2⟩
        · go_wp2_with (first
            | (go_at_call 23; (with_reducible refine (hpb _).mono ?_); rintro r w1 ⟨rfl, hx1⟩)
            | (go_at_call 20; (with_reducible refine (code_any _ _).mono ?_); rintro r wc ⟨rfl, rfl⟩) | (go_at_call 24; (with_reducible refine (wget_bad none 0 0 [] _ (.inl rfl) (by decide) (by decide) (bytes_none _ _)).mono ?_); rintro r wa ⟨rfl, ma, rfl⟩) | (go_at_call 24; (with_reducible refine (hg9.out _ _).mono ?_); rintro r wb ⟨rfl, hxb⟩) | (go_at_call 9; (with_reducible refine (known1_any _).mono ?_); rintro r wk ⟨rfl, hxk⟩) | (go_at_call 24; (with_reducible refine (wget_ok a p cp x _ (by omega) (by omega) hpc hcp (hx.out.ext hx1)).mono ?_); rintro r wd ⟨rfl, md, rfl⟩) | (go_at_call 24; (with_reducible refine (wget_ok a p cp x _ (by omega) (by omega) hpc hcp ((hx.out.ext hx1).drewN _)).mono ?_); rintro r wd ⟨rfl, md, rfl⟩) | (go_at_call 24; (with_reducible refine (wget_ok b q cq y _ (by omega) (by omega) hqc hcq ((hy.out.ext hx1).drewN _)).mono ?_); rintro r we ⟨rfl, me, rfl⟩) | (go_at_call 25; (with_reducible refine (hjn.out _ _ (by omega) (by omega) hx1).mono ?_); rintro r wj ⟨a', cap', rfl, hj1, hj2, hj3, hxj⟩) | (go_at_call 24; (with_reducible refine (wget_ok _ _ _ _ _ (by omega) (by omega) hj1 hj2 hj3).mono ?_); rintro r wz ⟨rfl, mz, rfl⟩) | (go_at_call 26; (with_reducible refine (power_any q (by omega) _).mono ?_); rintro r wp ⟨rfl, rfl⟩; have hze := hz44.out (by omega) (by omega)))
          all_goals (go_ret; first | exact ⟨rfl, (hx1.then hxb).then hxk⟩ | exact ⟨rfl, ((hx1.then hxj).then (ext_drewN _ _)).then hxk⟩)
        · go_wp2_with (first
            | (go_at_call 23; (with_reducible refine (hpb _).mono ?_); rintro r w1 ⟨rfl, hx1⟩)
            | (go_at_call 20; (with_reducible refine (code_any _ _).mono ?_); rintro r wc ⟨rfl, rfl⟩) | (go_at_call 24; (with_reducible refine (wget_bad none 0 0 [] _ (.inl rfl) (by decide) (by decide) (bytes_none _ _)).mono ?_); rintro r wa ⟨rfl, ma, rfl⟩) | (go_at_call 24; (with_reducible refine (hg9.out _ _).mono ?_); rintro r wb ⟨rfl, hxb⟩) | (go_at_call 9; (with_reducible refine (known1_any _).mono ?_); rintro r wk ⟨rfl, hxk⟩) | (go_at_call 24; (with_reducible refine (wget_ok a p cp x _ (by omega) (by omega) hpc hcp (hx.out.ext hx1)).mono ?_); rintro r wd ⟨rfl, md, rfl⟩) | (go_at_call 24; (with_reducible refine (wget_ok a p cp x _ (by omega) (by omega) hpc hcp ((hx.out.ext hx1).drewN _)).mono ?_); rintro r wd ⟨rfl, md, rfl⟩) | (go_at_call 24; (with_reducible refine (wget_ok b q cq y _ (by omega) (by omega) hqc hcq ((hy.out.ext hx1).drewN _)).mono ?_); rintro r we ⟨rfl, me, rfl⟩) | (go_at_call 25; (with_reducible refine (hjn.out _ _ (by omega) (by omega) hx1).mono ?_); rintro r wj ⟨a', cap', rfl, hj1, hj2, hj3, hxj⟩) | (go_at_call 24; (with_reducible refine (wget_ok _ _ _ _ _ (by omega) (by omega) hj1 hj2 hj3).mono ?_); rintro r wz ⟨rfl, mz, rfl⟩) | (go_at_call 26; (with_reducible refine (power_any q (by omega) _).mono ?_); rintro r wp ⟨rfl, rfl⟩; have hze := hz44.out (by omega) (by omega)))
          all_goals (go_ret; first | exact ⟨rfl, (hx1.then hxb).then hxk⟩ | exact ⟨rfl, ((hx1.then hxj).then (ext_drewN _ _)).then hxk⟩)
      · obtain ⟨s, rfl⟩ := Int.eq_ofNat_of_zero_le (show 0 ≤ size by omega)
        have hs8 : s ≤ 8 := by omega
        have his : i ≤ s := by omega
        have hns : n < p256 s := Nat.lt_of_lt_of_le hend (p256_mono his)
        have hpk := fun w => put_ok n s w (by omega) hs8 hns
        have hc1 : decide ((s : Int) < i) = false := decide_eq_false (by omega)
        have hc2 : decide ((8 : Int) < s) = false := decide_eq_false (by omega)
        have hN' := hide hN
        clear hN
        replace hpk := hide hpk
        replace hns := hide hns
        go_wp2_with (first
            | (go_at_call 23; (with_reducible refine (hpk.out _).mono ?_); rintro r w1 ⟨v, rfl, hown, hx1⟩; obtain ⟨ab, cab, rfl, hb1, hb2, _, hbin, _⟩ := own_in hown; clear hown; replace hbin := hide hbin)
            | (go_at_call 20; (with_reducible refine (code_any _ _).mono ?_); rintro r wc ⟨rfl, rfl⟩))
        go_loop [13] (fun s13 => ∃ k : Nat, k ≤ s - i ∧ s13 = .int .i64 k) (fun v => (9 - intOf v).toNat)
        case atStart => exact ⟨0, by omega, rfl⟩
        case round =>
          obtain ⟨k, hk, rfl⟩ := hrel
          have hsi : ((s : Int) - i) = ((s - i : Nat) : Int) := by omega
          have hsi2 : IntKind.i64.wrap ((s : Int) - i) = ((s - i : Nat) : Int) := by rw [IntKind.wrap_i64]; omega
          by_cases hlt : k < s - i
          · have hlt' : (k : Int) < ((s - i : Nat) : Int) := by omega
            obtain ⟨adb, hadb, hcb⟩ := hbin.out.2 (by omega)
            subst hadb
            have d1 : wc.cell? (adb.add k) = some (.int .u8 0) := by
              rw [hcb k (by omega), putL_zero n s k i hend (by omega) (by omega) hlt]; rfl
            replace hcb := hide hcb
            have hks : k < s := by omega
            have hks' : (k : Int) < s := by omega
            go_wp2_with fail
            exact ⟨⟨k + 1, by omega, by go_num⟩, by simp [intOf]; omega⟩
          · obtain rfl : k = s - i := by omega
            have hlt' : ¬ ((s - i : Nat) : Int) < ((s - i : Nat) : Int) := by omega
            have hs1' : 1 ≤ s := by omega
            have hgn : getN (putL n s) = n := by rw [getN_putL, Nat.mod_eq_of_lt hns.out]
            have hgb := fun (w' : World) (hb : BytesIn w' ab s (putL n s)) => wget_ok ab s cab (putL n s) w' hs1' hs8 hb1 hb2 hb
            rw [hgn] at hgb
            have hcat : (⟨#[0]⟩ : ByteArray) ++ ⟨(putL n s).toArray⟩ = ⟨(putL n (s + 1)).toArray⟩ := by
              rw [putL_wide n s hns.out]; apply ByteArray.ext; simp
            have hpk2 : s + 1 ≤ 8 → ∀ w, Calls Try.prog 23 #[.int .u64 (n : Int), .int .i64 ((s : Int) + 1)] w fun r w' => ∃ v, r = .returned (.tuple #[v, .int .i64 0]) ∧ w'.ownsRow w.heap.size 5 1 v (s + 1) ((putL n (s + 1)).map cb) ∧ Ext w w' := fun h w => put_ok n (s + 1) w (by omega) h (Nat.lt_of_lt_of_le hns.out (p256_mono (by omega)))
            have hov : ¬ 9223372036854775807 < 1 + (putL n s).length := by rw [length_putL]; omega
            generalize putL n s = B at *
            generalize putL n (s + 1) = C at *
            replace hgb := hide hgb
            replace hpk2 := hide hpk2
            clear hgn
            by_cases h8 : s < 8
            · have hd8 : decide ((s : Int) < 8) = true := decide_eq_true (by omega)
              go_wp2_with (first
                | (go_at_call 23; (with_reducible refine (hpk2.out (by omega) _).mono ?_); rintro r w2 ⟨v, rfl, hown, hx2⟩; obtain ⟨ac, cac, rfl, _, _, _, hcin, _⟩ := own_in hown; clear hown; have cv1 := conv_bytes (cap := cac) hcin; have hbin2 := hide (hbin.out.ext hx2); have cv2 := conv_bytes (cap := cab) hbin2.out; have hx1 := hx1.then hx2)
                | (go_at_call 24; (with_reducible refine (hgb.out _ hbin2.out).mono ?_); rintro r wg ⟨rfl, mg, rfl⟩)
                | (go_at_call 20; (with_reducible refine (code_any _ _).mono ?_); rintro r wc ⟨rfl, rfl⟩) | (go_at_call 24; (with_reducible refine (wget_bad none 0 0 [] _ (.inl rfl) (by decide) (by decide) (bytes_none _ _)).mono ?_); rintro r wa ⟨rfl, ma, rfl⟩) | (go_at_call 24; (with_reducible refine (hg9.out _ _).mono ?_); rintro r wb ⟨rfl, hxb⟩) | (go_at_call 9; (with_reducible refine (known1_any _).mono ?_); rintro r wk ⟨rfl, hxk⟩) | (go_at_call 24; (with_reducible refine (wget_ok a p cp x _ (by omega) (by omega) hpc hcp (hx.out.ext hx1)).mono ?_); rintro r wd ⟨rfl, md, rfl⟩) | (go_at_call 24; (with_reducible refine (wget_ok a p cp x _ (by omega) (by omega) hpc hcp ((hx.out.ext hx1).drewN _)).mono ?_); rintro r wd ⟨rfl, md, rfl⟩) | (go_at_call 24; (with_reducible refine (wget_ok b q cq y _ (by omega) (by omega) hqc hcq ((hy.out.ext hx1).drewN _)).mono ?_); rintro r we ⟨rfl, me, rfl⟩) | (go_at_call 25; (with_reducible refine (hjn.out _ _ (by omega) (by omega) hx1).mono ?_); rintro r wj ⟨a', cap', rfl, hj1, hj2, hj3, hxj⟩) | (go_at_call 24; (with_reducible refine (wget_ok _ _ _ _ _ (by omega) (by omega) hj1 hj2 hj3).mono ?_); rintro r wz ⟨rfl, mz, rfl⟩) | (go_at_call 26; (with_reducible refine (power_any q (by omega) _).mono ?_); rintro r wp ⟨rfl, rfl⟩; have hze := hz44.out (by omega) (by omega)))
              all_goals (go_ret; first | exact ⟨rfl, (hx1.then hxb).then hxk⟩ | exact ⟨rfl, ((hx1.then hxj).then (ext_drewN _ _)).then hxk⟩)
            · have hd8 : decide ((s : Int) < 8) = false := decide_eq_false (by omega)
              go_wp2_with (first
                | (go_at_call 24; (with_reducible refine (hgb.out _ hbin.out).mono ?_); rintro r wg ⟨rfl, mg, rfl⟩)
                | (go_at_call 20; (with_reducible refine (code_any _ _).mono ?_); rintro r wc ⟨rfl, rfl⟩) | (go_at_call 24; (with_reducible refine (wget_bad none 0 0 [] _ (.inl rfl) (by decide) (by decide) (bytes_none _ _)).mono ?_); rintro r wa ⟨rfl, ma, rfl⟩) | (go_at_call 24; (with_reducible refine (hg9.out _ _).mono ?_); rintro r wb ⟨rfl, hxb⟩) | (go_at_call 9; (with_reducible refine (known1_any _).mono ?_); rintro r wk ⟨rfl, hxk⟩) | (go_at_call 24; (with_reducible refine (wget_ok a p cp x _ (by omega) (by omega) hpc hcp (hx.out.ext hx1)).mono ?_); rintro r wd ⟨rfl, md, rfl⟩) | (go_at_call 24; (with_reducible refine (wget_ok a p cp x _ (by omega) (by omega) hpc hcp ((hx.out.ext hx1).drewN _)).mono ?_); rintro r wd ⟨rfl, md, rfl⟩) | (go_at_call 24; (with_reducible refine (wget_ok b q cq y _ (by omega) (by omega) hqc hcq ((hy.out.ext hx1).drewN _)).mono ?_); rintro r we ⟨rfl, me, rfl⟩) | (go_at_call 25; (with_reducible refine (hjn.out _ _ (by omega) (by omega) hx1).mono ?_); rintro r wj ⟨a', cap', rfl, hj1, hj2, hj3, hxj⟩) | (go_at_call 24; (with_reducible refine (wget_ok _ _ _ _ _ (by omega) (by omega) hj1 hj2 hj3).mono ?_); rintro r wz ⟨rfl, mz, rfl⟩) | (go_at_call 26; (with_reducible refine (power_any q (by omega) _).mono ?_); rintro r wp ⟨rfl, rfl⟩; have hze := hz44.out (by omega) (by omega)))
              all_goals (go_ret; first | exact ⟨rfl, (hx1.then hxb).then hxk⟩ | exact ⟨rfl, ((hx1.then hxj).then (ext_drewN _ _)).then hxk⟩)
end Go.Proofs.Ytoiiapjmmjmeoaa
