/- The walks of the reference's Power, Put, Get and followed. -/
import Derived.Test.YtclghfnmmnnceaaPow
import Derived.Test.YtclghfnmmnnceaaShaM
import Derived.Test.YtclghfnmmnnceaaZeros
import Derived.Laws.AppendOwnNone
import Derived.BigQuiet
import Derived.Deep.QuietTactic
namespace Go.Proofs.Ytclghfnmmnnceaa
open Go.RowKit
set_option linter.unusedVariables false
set_option linter.unusedSimpArgs false

theorem putL_4 (x : UInt32) : putL x.toNat 4 = be4 x := by
  simp [putL, be4, p256]
theorem putL_8 (n : Nat) : putL n 8 = be8 n := by
  simp [putL, be8, p256]
set_option maxHeartbeats 4000000 in
set_option maxRecDepth 100000 in
theorem put_any (n size : Nat) (hn : n < 18446744073709551616) (hs0 : 0 < size) (hs : size ≤ 8) (w : World) :
    Calls Try.prog 50 #[.int .u64 (n : Int), .int .i64 (size : Int)] w fun r w' => ∃ g cap, r = .returned (.slice (some ⟨g, 0, none⟩) size cap) ∧ w'.ownsRow w.heap.size 5 1 (.slice (some ⟨g, 0, none⟩) size cap) size ((putL n size).map cb) ∧ Ext w w' := by
  obtain ⟨i0, hi, hz0, hz1, hz2⟩ := info_parts info_u8
  go_enter Try.func50, Try.ntmps50
  go_wp2_with fail
  go_loopw [5, 6] (fun s5 s6 wr => ∃ (j : Nat) (xs : List UInt8), j ≤ size ∧ s6 = .int .i64 ((j : Int) - 1) ∧ xs.length + j = size ∧ xs ++ putL n j = putL n size ∧ wr.ownsRow w.heap.size 5 1 s5 xs.length (xs.map cb) ∧ Ext w wr) (fun _ s _ => (1 + intOf s).toNat)
  case atStart => exact ⟨size, [], by omega, by simp, by simp, by simp, World.ownsRow_nil _ _ _ _, Below.refl _ _⟩
  case round =>
    obtain ⟨j, xs, hj, rfl, hlen, hxs, hown, hx⟩ := hrel
    obtain ⟨w2, rfl⟩ : ∃ w2, w2 = wr := ⟨_, rfl⟩
    by_cases hj0 : j = 0
    · subst hj0
      obtain rfl : xs.length = size := by omega
      have hxs' : xs = putL n xs.length := by simpa [putL] using hxs
      obtain ⟨g, cap, rfl, _, _⟩ := hown.form hs0
      replace hxs' := hide hxs'
      clear hxs
      go_wp2_with fail
      go_ret
      exact ⟨g, cap, rfl, by rw [← hxs'.out]; exact hown, hx⟩
    · obtain ⟨b, rfl⟩ : ∃ b, j = b + 1 := ⟨j - 1, by omega⟩
      have k1 : ((b + 1 : Nat) : Int) - 1 = b := by omega
      rw [k1]
      have hb0 : (0 : Int) ≤ b := by omega
      have hpp := p256_pos b
      have hq : (n : Int).tdiv (p256 b) = ((n / p256 b : Nat) : Int) := rfl
      have hp0 : ¬ (p256 b : Int) = 0 := by omega
      have hput : putL n (b + 1) = UInt8.ofNat (n / p256 b) :: putL n b := rfl
      rw [hput] at hxs
      have hd : n / p256 b ≤ n := Nat.div_le_self _ _
      have hu := u8_of (n / p256 b)
      have hm : ((n / p256 b : Nat) : Int).tmod 256 = ((n / p256 b % 256 : Nat) : Int) := rfl
      have hm2 : ((n / p256 b % 256 : Nat) : Int) = ((UInt8.ofNat (n / p256 b)).toNat : Int) := by rw [UInt8.toNat_ofNat']
      rw [hm2] at hm
      generalize UInt8.ofNat (n / p256 b) = y at *
      generalize n / p256 b = q at *
      have hy := UInt8.toNat_lt y
      have hu2 : IntKind.u8.wrap (y.toNat : Int) = y.toNat := by rw [IntKind.wrap_u8]; omega
      have hsz := hx.size
      replace hxs := hide hxs
      clear hput hm2 hu
      go_wp2_with (first | (go_at_call 56; (refine (power_any b (by omega) _).mono ?_); rintro e w3 ⟨rfl, rfl⟩) | (at_builtin; (refine wpList_append_lies _ rfl _ _ 28 rfl w.heap.size 5 i0 (.int .u8 0) 1 1 Try.underlying28 hi hz0 hz1 hz2 rfl (by decide) _ _ _ rfl (hown.alloc _) ⟨w3.heap.size, 0, none⟩ 1 1 [.int .u8 (y.toNat : Int)] rfl rfl (World.news_of_block (heap_alloc_new _ _)) (by intro u hu; simp at hu; subst hu; rfl) (by decide) (by unfold maxLen; omega) (by omega) (by simp; omega) _ rfl ?_; intro g cap2 w4 hown4 hgrow hat hlt4)))
      have hgrow' : (w3.alloc (Obj.cells #[Value.int IntKind.u8 (y.toNat : Int)] 5)).grownBy w4 u5.ownBlock := hgrow
      go_roundw
      case rel =>
        refine ⟨b, xs ++ [y], by omega, rfl, by simp; omega, by rw [← hxs.out]; simp, ?_, ext_grown (hx.alloc hx.size _) hgrow' (fun b hb => (hown.lt b hb).1)⟩
        rw [List.length_append, List.map_append]; exact hown4
      case measure => simp [intOf]; omega

theorem getN_4 (b0 b1 b2 b3 : UInt8) : UInt32.ofNat (getN [b0, b1, b2, b3]) = word4 b0 b1 b2 b3 := by
  simp [getN, word4, p256, Nat.add_assoc]
theorem length_followedL (b : List UInt8) : (followedL b).length = b.length + 1 + zerosN b + 8 := by
  rw [followed_eq]; simp [be8]; omega
set_option maxHeartbeats 4000000 in
set_option maxRecDepth 100000 in
theorem followed_any (a : Option Addr) (n cap : Nat) (c : List UInt8) (hn : n ≤ 1000000) (w : World) (h : BytesIn w a n c) (hnil : a = none → cap = 0) :
    Calls Try.prog 47 #[.slice a n cap] w fun r w' => ∃ g cap', r = .returned (.slice (some ⟨g, 0, none⟩) (followedL c).length cap') ∧ w'.ownsRow w.heap.size 5 1 (.slice (some ⟨g, 0, none⟩) (followedL c).length cap') (followedL c).length ((followedL c).map cb) ∧ Ext w w' := by
  obtain ⟨i0, hi, hz0, hz1, hz2⟩ := info_parts info_u8
  have hcl := h.1
  have hn0 : (0 : Int) ≤ n := by omega
  obtain ⟨z, hz⟩ : ∃ z, z = zerosN c := ⟨_, rfl⟩
  have hz64 : z < 64 := by rw [hz]; exact Nat.mod_lt _ (by omega)
  obtain ⟨r1, hr1⟩ : ∃ r, r = n % 64 := ⟨_, rfl⟩
  have j1 : (n : Int).tmod 64 = r1 := by rw [hr1]; rfl
  have hr64 : r1 < 64 := by omega
  obtain ⟨q1, hq1⟩ : ∃ q, q = 119 - r1 := ⟨_, rfl⟩
  have j2 : IntKind.i64.wrap (119 - (r1 : Int)) = q1 := by rw [IntKind.wrap_i64]; omega
  have j3 : (119 : Int) - (r1 : Int) = q1 := by omega
  have j4 : (q1 : Int).tmod 64 = z := by rw [show (q1 : Int).tmod 64 = ((q1 % 64 : Nat) : Int) from rfl, hz, hq1, hr1, zerosN, hcl]
  have j5 : IntKind.u64.wrap (n : Int) = n := by rw [IntKind.wrap_u64]; omega
  have j6 : IntKind.u64.wrap ((n : Int) * 8) = ((n * 8 : Nat) : Int) := by rw [IntKind.wrap_u64]; omega
  have j7 : (n : Int) * 8 = ((n * 8 : Nat) : Int) := by omega
  have hfo : followedL c = c ++ [128] ++ List.replicate z 0 ++ putL (n * 8) 8 := by rw [followed_eq, ← hz, putL_8, hcl, Nat.mod_eq_of_lt (by omega)]
  obtain ⟨n8, hn8⟩ : ∃ m, m = n * 8 := ⟨_, rfl⟩
  rw [← hn8] at j6 j7 hfo
  have hput : Hid (∀ w, Calls Try.prog 50 #[.int .u64 (n8 : Int), .int .i64 8] w fun r w' => ∃ g cap, r = .returned (.slice (some ⟨g, 0, none⟩) 8 cap) ∧ w'.ownsRow w.heap.size 5 1 (.slice (some ⟨g, 0, none⟩) 8 cap) 8 ((putL n8 8).map cb) ∧ Ext w w') := hide fun w => put_any n8 8 (by omega) (by omega) (by omega) w
  replace hfo := hide hfo
  clear hn8 hr1 hq1 hz
  have hfin : ∀ (g cap' : Nat) (w' : World), w'.ownsRow w.heap.size 5 1 (.slice (some ⟨g, 0, none⟩) (n + 1 + z + 8) cap') (n + 1 + z + 8) (c.map cb ++ [.int .u8 128] ++ List.replicate z (.int .u8 0) ++ (putL n8 8).map cb) → (followedL c).length = n + 1 + z + 8 ∧ w'.ownsRow w.heap.size 5 1 (.slice (some ⟨g, 0, none⟩) (followedL c).length cap') (followedL c).length ((followedL c).map cb) := by
    intro g cap' w' ho
    have hl : (followedL c).length = n + 1 + z + 8 := by rw [hfo.out]; simp [length_putL, hcl]; omega
    refine ⟨hl, ?_⟩
    rw [hl, hfo.out]
    simpa [cb] using ho
  replace hfin := hide hfin
  have hbytes : (n + 1 + z + 8) * 1 ≤ 140737488355328 := by omega
  cases a with
  | none =>
    have hn00 : n = 0 := by
      rcases Nat.eq_zero_or_pos n with h0 | h0
      · exact h0
      · obtain ⟨ad, e, _⟩ := h.2 h0
        cases e
    have hc0 : cap = 0 := hnil rfl
    have hv : Value.slice none n cap = Value.slice none 0 0 := by rw [hn00, hc0]
    have hown1 : w.ownsRow w.heap.size 5 1 (.slice none 0 0) n (c.map cb) := by
      have hc : c = [] := List.eq_nil_of_length_eq_zero (by rw [hcl, hn00])
      rw [hc, hn00]; exact World.ownsRow_nil _ _ _ _
    have hx1 : Ext w w := Below.refl _ _
    replace h := hide h
    replace hn00 := hide hn00
    replace hc0 := hide hc0
    replace hv := hide hv
    replace hnil := hide hnil
    go_enter Try.func47, Try.ntmps47
    go_wp2_with (first | (at_builtin; refine wpList_append_own_none rfl _ _ 28 rfl w.heap.size 5 i0 1 Try.underlying28 hi (.slice none 0 0) 0 [] rfl (World.ownsRow_nil _ _ _ _) hv.out ?_) | (at_builtin; (refine wpList_append_lies _ rfl _ _ 28 rfl w.heap.size 5 i0 (.int .u8 0) 1 1 Try.underlying28 hi hz0 hz1 hz2 rfl (by decide) _ _ _ rfl (hown1.alloc _) ⟨w.heap.size, 0, none⟩ 1 1 [.int .u8 128] rfl rfl (World.news_of_block (heap_alloc_new _ _)) (by intro u hu; simp at hu; subst hu; rfl) (by decide) (by unfold maxLen; omega) (by omega) (by have := hx1.size; simp <;> omega) _ rfl ?_); intro g2 cap2 w2 hown2 hgrow2 hat2 hlt2; have hx2 : Ext w w2 := ext_grown (hx1.alloc hx1.size _) hgrow2 (fun b hb => (hown1.lt b hb).1)) | (at_builtin; obtain ⟨g3, cap3, w3, hr3, hown3, hgrow3⟩ := run_append_zeros (P := Try.prog) w2 w.heap.size 28 3 28 5 i0 (.int .u8 0) .i64 1 Try.underlying28 Try.underlying3 hi hz0 hz1 hz2 rfl rfl g2 _ cap2 _ hown2 z (by omega) (by omega) (by unfold maxLen; omega) (by omega) hx2.size; have hx3 : Ext w w3 := ext_grown hx2 hgrow3 (fun b hb => (hown2.lt b hb).1); refine Lib.wpList_append_run _ rfl _ _ _ _ rfl _ _ rfl rfl _ _ hr3 ?_) | (go_at_call 50; (with_reducible refine (hput.out _).mono ?_); rintro e w4 ⟨g4, cap4, rfl, hown4, hx4⟩; have hown3' := own_ext hx4 hown3; have hx34 := hx3.then hx4) | (at_builtin; (refine wpList_append_lies _ rfl _ _ 28 rfl w.heap.size 5 i0 (.int .u8 0) 1 1 Try.underlying28 hi hz0 hz1 hz2 rfl (by decide) _ _ _ rfl hown3' ⟨g4, 0, none⟩ 8 cap4 ((putL n8 8).map cb) rfl (by simp [length_putL]) (hown4.cells rfl) (by intro u hu; simp only [List.mem_map] at hu; obtain ⟨y, _, rfl⟩ := hu; rfl) (by decide) (by unfold maxLen; omega) (by omega) hx34.size _ rfl ?_); intro g5 cap5 w5 hown5 hgrow5 hat5 hlt5; have hx5 : Ext w w5 := ext_grown hx34 hgrow5 (fun b hb => (hown3'.lt b hb).1)))
    (go_ret; obtain ⟨hl, ho⟩ := hfin.out g5 cap5 w5 (by simpa [Nat.add_assoc] using hown5); exact ⟨g5, cap5, by rw [hl]; rfl, ho, hx5⟩)
  | some ad =>
    have hcells : ∀ j u, (c.map cb)[j]? = some u → w.cell? (ad.add j) = some u := by
      intro j u hj
      have hjl : j < n := by have := (List.getElem?_eq_some_iff.1 hj).1; simpa [hcl] using this
      obtain ⟨ad', e, h2⟩ := h.2 (by omega)
      obtain rfl := Option.some.inj e
      rw [List.getElem?_map, getD_of c 0 j (by omega)] at hj
      rw [h2 j hjl, ← hj]; rfl
    replace hcells := hide hcells
    replace h := hide h
    go_enter Try.func47, Try.ntmps47
    go_wp2_with (first | (at_builtin; (refine wpList_append_own _ rfl _ _ 28 rfl w.heap.size 5 i0 (.int .u8 0) 1 1 Try.underlying28 hi hz0 hz1 hz2 rfl (by decide) (.slice none 0 0) 0 [] rfl (World.ownsRow_nil _ _ _ _) ad n cap (c.map cb) rfl (by simp [hcl]) hcells.out (by intro u hu; simp only [List.mem_map] at hu; obtain ⟨y, _, rfl⟩ := hu; rfl) (by unfold maxLen; omega) (by omega) (Nat.le_refl _) ?_); intro v1 w1 hown1 hgrow1 hnil1; rw [Nat.zero_add, List.nil_append] at hown1; have hx1 : Ext w w1 := ext_grown (Below.refl _ _) hgrow1 (fun b hb => by cases hb)) | (at_builtin; (refine wpList_append_lies _ rfl _ _ 28 rfl w.heap.size 5 i0 (.int .u8 0) 1 1 Try.underlying28 hi hz0 hz1 hz2 rfl (by decide) _ _ _ rfl (hown1.alloc _) ⟨w1.heap.size, 0, none⟩ 1 1 [.int .u8 128] rfl rfl (World.news_of_block (heap_alloc_new _ _)) (by intro u hu; simp at hu; subst hu; rfl) (by decide) (by unfold maxLen; omega) (by omega) (by have := hx1.size; simp <;> omega) _ rfl ?_); intro g2 cap2 w2 hown2 hgrow2 hat2 hlt2; have hx2 : Ext w w2 := ext_grown (hx1.alloc hx1.size _) hgrow2 (fun b hb => (hown1.lt b hb).1)) | (at_builtin; obtain ⟨g3, cap3, w3, hr3, hown3, hgrow3⟩ := run_append_zeros (P := Try.prog) w2 w.heap.size 28 3 28 5 i0 (.int .u8 0) .i64 1 Try.underlying28 Try.underlying3 hi hz0 hz1 hz2 rfl rfl g2 _ cap2 _ hown2 z (by omega) (by omega) (by unfold maxLen; omega) (by omega) hx2.size; have hx3 : Ext w w3 := ext_grown hx2 hgrow3 (fun b hb => (hown2.lt b hb).1); refine Lib.wpList_append_run _ rfl _ _ _ _ rfl _ _ rfl rfl _ _ hr3 ?_) | (go_at_call 50; (with_reducible refine (hput.out _).mono ?_); rintro e w4 ⟨g4, cap4, rfl, hown4, hx4⟩; have hown3' := own_ext hx4 hown3; have hx34 := hx3.then hx4) | (at_builtin; (refine wpList_append_lies _ rfl _ _ 28 rfl w.heap.size 5 i0 (.int .u8 0) 1 1 Try.underlying28 hi hz0 hz1 hz2 rfl (by decide) _ _ _ rfl hown3' ⟨g4, 0, none⟩ 8 cap4 ((putL n8 8).map cb) rfl (by simp [length_putL]) (hown4.cells rfl) (by intro u hu; simp only [List.mem_map] at hu; obtain ⟨y, _, rfl⟩ := hu; rfl) (by decide) (by unfold maxLen; omega) (by omega) hx34.size _ rfl ?_); intro g5 cap5 w5 hown5 hgrow5 hat5 hlt5; have hx5 : Ext w w5 := ext_grown hx34 hgrow5 (fun b hb => (hown3'.lt b hb).1)))
    (go_ret; obtain ⟨hl, ho⟩ := hfin.out g5 cap5 w5 (by simpa [Nat.add_assoc] using hown5); exact ⟨g5, cap5, by rw [hl]; rfl, ho, hx5⟩)
end Go.Proofs.Ytclghfnmmnnceaa
