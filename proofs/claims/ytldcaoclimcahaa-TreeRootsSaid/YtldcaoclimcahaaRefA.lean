/- The walks of the reference's Power, Put, Get and followed. -/
import Derived.Test.YtldcaoclimcahaaShaM
import Derived.Test.YtldcaoclimcahaaZeros
import Derived.Laws.AppendOwnNone
import Derived.BigQuiet
import Derived.Deep.QuietTactic
namespace Go.Proofs.Ytldcaoclimcahaa
open Go.RowKit
set_option linter.unusedVariables false
set_option linter.unusedSimpArgs false

theorem info_u8 : (Try.prog.info? 5).map (fun i => (i.zero, i.size, i.bytes)) = some (some (.int .u8 0), 1, 1) := by kernel_rfl
/-- 256 to a power, by a name of its own. -/
def p256 (k : Nat) : Nat := 256 ^ k
theorem p256_le (k : Nat) (h : k ≤ 7) : p256 k ≤ 72057594037927936 := by
  have : 256 ^ k ≤ 256 ^ 7 := Nat.pow_le_pow_right (by omega) h
  unfold p256; omega
theorem p256_pos (k : Nat) : 0 < p256 k := Nat.pow_pos (by omega)
set_option maxHeartbeats 1000000 in
theorem power_any (k : Nat) (hk : k ≤ 7) (w : World) :
    Calls Try.prog 60 #[.int .i64 (k : Int)] w fun r w' => r = .returned (.int .u64 (p256 k : Int)) ∧ w' = w := by
  go_enter Try.func60, Try.ntmps60
  go_wp2_with fail
  go_loop [3, 4] (fun s3 s4 => ∃ i : Nat, i ≤ k ∧ s4 = .int .i64 i ∧ s3 = .int .u64 (p256 i : Int)) (fun _ s => (k - intOf s).toNat)
  case atStart => exact ⟨0, by omega, rfl, rfl⟩
  case round =>
    obtain ⟨i, hi, rfl, rfl⟩ := hrel
    by_cases hlt : i < k
    · have hlt' : (i : Int) < k := by omega
      have hp := p256_le (i + 1) (by omega)
      have hp2 : p256 (i + 1) = p256 i * 256 := Nat.pow_succ ..
      have e1 : IntKind.u64.wrap ((p256 i : Int) * 256) = p256 (i + 1) := by rw [IntKind.wrap_u64]; omega
      have e2 : (p256 i : Int) * 256 = p256 (i + 1) := by omega
      replace hp2 := hide hp2
      go_wp2_with fail
      go_round
      case rel => exact ⟨i + 1, by omega, by go_num, rfl⟩
      case measure => simp [intOf]; omega
    · obtain rfl : i = k := by omega
      have hlt' : ¬ (i : Int) < i := by omega
      go_wp2_with fail
      go_ret
      exact ⟨rfl, rfl⟩

/-- A number's bytes, the highest first. -/
def putL (n : Nat) : Nat → List UInt8
  | 0 => []
  | s + 1 => UInt8.ofNat (n / p256 s) :: putL n s
theorem length_putL (n s : Nat) : (putL n s).length = s := by
  induction s with
  | zero => rfl
  | succ s ih => simp [putL, ih]
theorem putL_4 (x : UInt32) : putL x.toNat 4 = be4 x := by
  simp [putL, be4, p256]
theorem putL_8 (n : Nat) : putL n 8 = be8 n := by
  simp [putL, be8, p256]
set_option maxHeartbeats 4000000 in
set_option maxRecDepth 100000 in
theorem put_any (n size : Nat) (hn : n < 18446744073709551616) (hs0 : 0 < size) (hs : size ≤ 8) (w : World) :
    Calls Try.prog 49 #[.int .u64 (n : Int), .int .i64 (size : Int)] w fun r w' => ∃ g cap, r = .returned (.slice (some ⟨g, 0, none⟩) size cap) ∧ w'.ownsRow w.heap.size 5 1 (.slice (some ⟨g, 0, none⟩) size cap) size ((putL n size).map cb) ∧ Ext w w' := by
  obtain ⟨i0, hi, hz0, hz1, hz2⟩ := info_parts info_u8
  go_enter Try.func49, Try.ntmps49
  go_wp2_with fail
  go_loopw [5, 6] (fun s5 s6 wr => ∃ (j : Nat) (xs : List UInt8), j ≤ size ∧ s6 = .int .i64 ((j : Int) - 1) ∧ xs.length + j = size ∧ xs ++ putL n j = putL n size ∧ wr.ownsRow w.heap.size 5 1 s5 xs.length (xs.map cb) ∧ Ext w wr) (fun _ s _ => (1 + intOf s).toNat)
  case atStart => exact ⟨size, [], by omega, by simp, by simp, by simp, World.ownsRow_nil _ _ _ _, Below.refl _ _⟩
  case round =>
    obtain ⟨j, xs, hj, rfl, hlen, hxs, hown, hx⟩ := hrel
    obtain ⟨w2, rfl⟩ : ∃ w2, w2 = wr := ⟨_, rfl⟩
    by_cases hj0 : j = 0
    · subst hj0
      obtain rfl : xs.length = size := by omega
      have hxs' : xs = putL n xs.length := by simpa [putL] using hxs
      obtain ⟨g, cap, rfl, _, _⟩ := hown.form hs0
      replace hxs' := hide hxs'
      clear hxs
      go_wp2_with fail
      go_ret
      exact ⟨g, cap, rfl, by rw [← hxs'.out]; exact hown, hx⟩
    · obtain ⟨b, rfl⟩ : ∃ b, j = b + 1 := ⟨j - 1, by omega⟩
      have k1 : ((b + 1 : Nat) : Int) - 1 = b := by omega
      rw [k1]
      have hb0 : (0 : Int) ≤ b := by omega
      have hpp := p256_pos b
      have hq : (n : Int).tdiv (p256 b) = ((n / p256 b : Nat) : Int) := rfl
      have hp0 : ¬ (p256 b : Int) = 0 := by omega
      have hput : putL n (b + 1) = UInt8.ofNat (n / p256 b) :: putL n b := rfl
      rw [hput] at hxs
      have hd : n / p256 b ≤ n := Nat.div_le_self _ _
      have hu := u8_of (n / p256 b)
      have hm : ((n / p256 b : Nat) : Int).tmod 256 = ((n / p256 b % 256 : Nat) : Int) := rfl
      have hm2 : ((n / p256 b % 256 : Nat) : Int) = ((UInt8.ofNat (n / p256 b)).toNat : Int) := by rw [UInt8.toNat_ofNat']
      rw [hm2] at hm
      generalize UInt8.ofNat (n / p256 b) = y at *
      generalize n / p256 b = q at *
      have hy := UInt8.toNat_lt y
      have hu2 : IntKind.u8.wrap (y.toNat : Int) = y.toNat := by rw [IntKind.wrap_u8]; omega
      have hsz := hx.size
      replace hxs := hide hxs
      clear hput hm2 hu
      go_wp2_with (first | (go_at_call 60; (refine (power_any b (by omega) _).mono ?_); rintro e w3 ⟨rfl, rfl⟩) | (at_builtin; (refine wpList_append_lies _ rfl _ _ 25 rfl w.heap.size 5 i0 (.int .u8 0) 1 1 Try.underlying25 hi hz0 hz1 hz2 rfl (by decide) _ _ _ rfl (hown.alloc _) ⟨w3.heap.size, 0, none⟩ 1 1 [.int .u8 (y.toNat : Int)] rfl rfl (World.news_of_block (heap_alloc_new _ _)) (by intro u hu; simp at hu; subst hu; rfl) (by decide) (by unfold maxLen; omega) (by omega) (by simp; omega) _ rfl ?_; intro g cap2 w4 hown4 hgrow hat hlt4)))
      have hgrow' : (w3.alloc (Obj.cells #[Value.int IntKind.u8 (y.toNat : Int)] 5)).grownBy w4 u5.ownBlock := hgrow
      go_roundw
      case rel =>
        refine ⟨b, xs ++ [y], by omega, rfl, by simp; omega, by rw [← hxs.out]; simp, ?_, ext_grown (hx.alloc hx.size _) hgrow' (fun b hb => (hown.lt b hb).1)⟩
        rw [List.length_append, List.map_append]; exact hown4
      case measure => simp [intOf]; omega

/-- The number that bytes are. -/
def getN : List UInt8 → Nat
  | [] => 0
  | b :: l => b.toNat * p256 l.length + getN l
theorem getN_lt (l : List UInt8) : getN l < p256 l.length := by
  induction l with
  | nil => decide
  | cons b l ih =>
    have h1 := UInt8.toNat_lt b
    have h2 : p256 (l.length + 1) = p256 l.length * 256 := Nat.pow_succ ..
    rw [getN, List.length_cons, h2]
    have h3 := Nat.mul_le_mul_right (p256 l.length) (show b.toNat ≤ 255 by omega)
    omega
theorem getN_4 (b0 b1 b2 b3 : UInt8) : UInt32.ofNat (getN [b0, b1, b2, b3]) = word4 b0 b1 b2 b3 := by
  simp [getN, word4, p256, Nat.add_assoc]
set_option maxHeartbeats 4000000 in
set_option maxRecDepth 100000 in
theorem get_any (a : Option Addr) (q cap : Nat) (c : List UInt8) (hq : q ≤ 8) (w : World) (h : BytesIn w a q c) :
    Calls Try.prog 47 #[.slice a q cap] w fun r w' => r = .returned (.int .u64 (getN c : Int)) ∧ ∃ m, w' = w.drewN m := by
  go_enter Try.func47, Try.ntmps47
  go_wp2_with fail
  go_loopw [3, 4] (fun s3 s4 wr => ∃ (k acc m : Nat), k ≤ q ∧ s4 = .int .i64 k ∧ s3 = .int .u64 (acc : Int) ∧ acc + getN (c.drop k) = getN c ∧ wr = w.drewN m) (fun _ s _ => (q - intOf s).toNat)
  case atStart => exact ⟨0, 0, 0, by omega, rfl, rfl, by simp, rfl⟩
  case round =>
    obtain ⟨k, acc, m, hk, rfl, rfl, hacc, hw⟩ := hrel
    obtain ⟨w2, rfl⟩ : ∃ w2, w2 = wr := ⟨_, rfl⟩
    by_cases hlt : k < q
    · have hlt' : (k : Int) < q := by omega
      have hk0 : (0 : Int) ≤ k := by omega
      obtain ⟨ad, rfl, hc⟩ := h.2 (by omega)
      have hcl := h.1
      have d1 : w2.cell? (ad.add k) = some (.int .u8 ((c.getD k 0).toNat : Int)) := by rw [hw]; exact hc k hlt
      have hdrop : c.drop k = c.getD k 0 :: c.drop (k + 1) := by
        rw [List.drop_eq_getElem_cons (by omega)]
        simp [List.getD, List.getElem?_eq_getElem (show k < c.length by omega)]
      rw [hdrop, getN, List.length_drop, hcl] at hacc
      have hg := getN_lt c
      rw [hcl] at hg
      obtain ⟨e, he⟩ : ∃ e, e = q - (k + 1) := ⟨_, rfl⟩
      rw [← he] at hacc
      have j1 : IntKind.i64.wrap ((q : Int) - 1) = (q : Int) - 1 := by rw [IntKind.wrap_i64]; omega
      have j2 : IntKind.i64.wrap ((q : Int) - 1 - k) = e := by rw [IntKind.wrap_i64]; omega
      have j3 : (q : Int) - 1 - k = e := by omega
      have hp8 : p256 q ≤ 18446744073709551616 := by
        have : 256 ^ q ≤ 256 ^ 8 := Nat.pow_le_pow_right (by omega) hq
        unfold p256; omega
      generalize c.getD k 0 = x at d1 hacc
      have hx := UInt8.toNat_lt x
      obtain ⟨u, hu⟩ : ∃ u, u = x.toNat * p256 e := ⟨_, rfl⟩
      rw [← hu] at hacc
      have m1 : (x.toNat : Int) * (p256 e : Int) = u := by rw [hu, Int.natCast_mul]
      have m2 : IntKind.u64.wrap ((x.toNat : Int) * (p256 e : Int)) = u := by rw [m1, IntKind.wrap_u64]; omega
      have m0 : IntKind.u64.wrap (x.toNat : Int) = x.toNat := by rw [IntKind.wrap_u64]; omega
      have m3 : IntKind.u64.wrap ((acc : Int) + u) = (acc : Int) + u := by rw [IntKind.wrap_u64]; omega
      have m4 : IntKind.u64.wrap (u : Int) = u := by rw [IntKind.wrap_u64]; omega
      clear hu
      replace hw := hide hw
      replace hacc := hide hacc
      replace hdrop := hide hdrop
      replace hc := hide hc
      replace h := hide h
      replace he := hide he
      have hpow : ∀ w3, Calls Try.prog 60 #[.int .i64 (e : Int)] w3 fun r w' => r = .returned (.int .u64 (p256 e : Int)) ∧ w' = w3 := fun w3 => power_any e (by have := he.out; omega) w3
      replace hpow := hide hpow
      go_wp2_with fail
      go_quiet (first | (go_at_call 60; exact Calls.quiet_of_same (hpow.out _)))
      go_wp2_with fail
      go_roundw
      case rel => exact ⟨k + 1, acc + u, m + nq, by omega, by go_num, by rw [Int.natCast_add], by have := hacc.out; omega, by rw [hw.out, World.drewN_drewN]⟩
      case measure => simp [intOf]; omega
    · obtain rfl : k = q := by omega
      have hlt' : ¬ (k : Int) < k := by omega
      have hgk : acc = getN c := by rw [List.drop_eq_nil_of_le (by rw [h.1]; exact Nat.le_refl _)] at hacc; simpa [getN] using hacc
      go_wp2_with fail
      go_ret
      exact ⟨rfl, m, rfl⟩

theorem own_bytes {w : World} {base n cap g : Nat} {xs : List UInt8} (h : w.ownsRow base 5 1 (.slice (some ⟨g, 0, none⟩) n cap) n (xs.map cb)) (hl : xs.length = n) : BytesIn w (some ⟨g, 0, none⟩) n xs := by
  refine ⟨hl, fun _ => ⟨_, rfl, fun j hj => ?_⟩⟩
  have hadd : (⟨g, 0, none⟩ : Addr).add j = ⟨g, j, none⟩ := by unfold Addr.add; split <;> simp_all
  rw [hadd, h.cellAt j (by omega), List.getElem?_map, getD_of xs 0 j (by omega)]; rfl
theorem length_followedL (b : List UInt8) : (followedL b).length = b.length + 1 + zerosN b + 8 := by
  rw [followed_eq]; simp [be8]; omega
set_option maxHeartbeats 4000000 in
set_option maxRecDepth 100000 in
theorem followed_any (a : Option Addr) (n cap : Nat) (c : List UInt8) (hn : n ≤ 1000000) (w : World) (h : BytesIn w a n c) (hnil : a = none → cap = 0) :
    Calls Try.prog 46 #[.slice a n cap] w fun r w' => ∃ g cap', r = .returned (.slice (some ⟨g, 0, none⟩) (followedL c).length cap') ∧ w'.ownsRow w.heap.size 5 1 (.slice (some ⟨g, 0, none⟩) (followedL c).length cap') (followedL c).length ((followedL c).map cb) ∧ Ext w w' := by
  obtain ⟨i0, hi, hz0, hz1, hz2⟩ := info_parts info_u8
  have hcl := h.1
  have hn0 : (0 : Int) ≤ n := by omega
  obtain ⟨z, hz⟩ : ∃ z, z = zerosN c := ⟨_, rfl⟩
  have hz64 : z < 64 := by rw [hz]; exact Nat.mod_lt _ (by omega)
  obtain ⟨r1, hr1⟩ : ∃ r, r = n % 64 := ⟨_, rfl⟩
  have j1 : (n : Int).tmod 64 = r1 := by rw [hr1]; rfl
  have hr64 : r1 < 64 := by omega
  obtain ⟨q1, hq1⟩ : ∃ q, q = 119 - r1 := ⟨_, rfl⟩
  have j2 : IntKind.i64.wrap (119 - (r1 : Int)) = q1 := by rw [IntKind.wrap_i64]; omega
  have j3 : (119 : Int) - (r1 : Int) = q1 := by omega
  have j4 : (q1 : Int).tmod 64 = z := by rw [show (q1 : Int).tmod 64 = ((q1 % 64 : Nat) : Int) from rfl, hz, hq1, hr1, zerosN, hcl]
  have j5 : IntKind.u64.wrap (n : Int) = n := by rw [IntKind.wrap_u64]; omega
  have j6 : IntKind.u64.wrap ((n : Int) * 8) = ((n * 8 : Nat) : Int) := by rw [IntKind.wrap_u64]; omega
  have j7 : (n : Int) * 8 = ((n * 8 : Nat) : Int) := by omega
  have hfo : followedL c = c ++ [128] ++ List.replicate z 0 ++ putL (n * 8) 8 := by rw [followed_eq, ← hz, putL_8, hcl, Nat.mod_eq_of_lt (by omega)]
  obtain ⟨n8, hn8⟩ : ∃ m, m = n * 8 := ⟨_, rfl⟩
  rw [← hn8] at j6 j7 hfo
  have hput : Hid (∀ w, Calls Try.prog 49 #[.int .u64 (n8 : Int), .int .i64 8] w fun r w' => ∃ g cap, r = .returned (.slice (some ⟨g, 0, none⟩) 8 cap) ∧ w'.ownsRow w.heap.size 5 1 (.slice (some ⟨g, 0, none⟩) 8 cap) 8 ((putL n8 8).map cb) ∧ Ext w w') := hide fun w => put_any n8 8 (by omega) (by omega) (by omega) w
  replace hfo := hide hfo
  clear hn8 hr1 hq1 hz
  have hfin : ∀ (g cap' : Nat) (w' : World), w'.ownsRow w.heap.size 5 1 (.slice (some ⟨g, 0, none⟩) (n + 1 + z + 8) cap') (n + 1 + z + 8) (c.map cb ++ [.int .u8 128] ++ List.replicate z (.int .u8 0) ++ (putL n8 8).map cb) → (followedL c).length = n + 1 + z + 8 ∧ w'.ownsRow w.heap.size 5 1 (.slice (some ⟨g, 0, none⟩) (followedL c).length cap') (followedL c).length ((followedL c).map cb) := by
    intro g cap' w' ho
    have hl : (followedL c).length = n + 1 + z + 8 := by rw [hfo.out]; simp [length_putL, hcl]; omega
    refine ⟨hl, ?_⟩
    rw [hl, hfo.out]
    simpa [cb] using ho
  replace hfin := hide hfin
  have hbytes : (n + 1 + z + 8) * 1 ≤ 140737488355328 := by omega
  cases a with
  | none =>
    have hn00 : n = 0 := by
      rcases Nat.eq_zero_or_pos n with h0 | h0
      · exact h0
      · obtain ⟨ad, e, _⟩ := h.2 h0
        cases e
    have hc0 : cap = 0 := hnil rfl
    have hv : Value.slice none n cap = Value.slice none 0 0 := by rw [hn00, hc0]
    have hown1 : w.ownsRow w.heap.size 5 1 (.slice none 0 0) n (c.map cb) := by
      have hc : c = [] := List.eq_nil_of_length_eq_zero (by rw [hcl, hn00])
      rw [hc, hn00]; exact World.ownsRow_nil _ _ _ _
    have hx1 : Ext w w := Below.refl _ _
    replace h := hide h
    replace hn00 := hide hn00
    replace hc0 := hide hc0
    replace hv := hide hv
    replace hnil := hide hnil
    go_enter Try.func46, Try.ntmps46
    go_wp2_with (first | (at_builtin; refine wpList_append_own_none rfl _ _ 25 rfl w.heap.size 5 i0 1 Try.underlying25 hi (.slice none 0 0) 0 [] rfl (World.ownsRow_nil _ _ _ _) hv.out ?_) | (at_builtin; (refine wpList_append_lies _ rfl _ _ 25 rfl w.heap.size 5 i0 (.int .u8 0) 1 1 Try.underlying25 hi hz0 hz1 hz2 rfl (by decide) _ _ _ rfl (hown1.alloc _) ⟨w.heap.size, 0, none⟩ 1 1 [.int .u8 128] rfl rfl (World.news_of_block (heap_alloc_new _ _)) (by intro u hu; simp at hu; subst hu; rfl) (by decide) (by unfold maxLen; omega) (by omega) (by have := hx1.size; simp <;> omega) _ rfl ?_); intro g2 cap2 w2 hown2 hgrow2 hat2 hlt2; have hx2 : Ext w w2 := ext_grown (hx1.alloc hx1.size _) hgrow2 (fun b hb => (hown1.lt b hb).1)) | (at_builtin; obtain ⟨g3, cap3, w3, hr3, hown3, hgrow3⟩ := run_append_zeros (P := Try.prog) w2 w.heap.size 25 3 25 5 i0 (.int .u8 0) .i64 1 Try.underlying25 Try.underlying3 hi hz0 hz1 hz2 rfl rfl g2 _ cap2 _ hown2 z (by omega) (by omega) (by unfold maxLen; omega) (by omega) hx2.size; have hx3 : Ext w w3 := ext_grown hx2 hgrow3 (fun b hb => (hown2.lt b hb).1); refine Lib.wpList_append_run _ rfl _ _ _ _ rfl _ _ rfl rfl _ _ hr3 ?_) | (go_at_call 49; (with_reducible refine (hput.out _).mono ?_); rintro e w4 ⟨g4, cap4, rfl, hown4, hx4⟩; have hown3' := own_ext hx4 hown3; have hx34 := hx3.then hx4) | (at_builtin; (refine wpList_append_lies _ rfl _ _ 25 rfl w.heap.size 5 i0 (.int .u8 0) 1 1 Try.underlying25 hi hz0 hz1 hz2 rfl (by decide) _ _ _ rfl hown3' ⟨g4, 0, none⟩ 8 cap4 ((putL n8 8).map cb) rfl (by simp [length_putL]) (hown4.cells rfl) (by intro u hu; simp only [List.mem_map] at hu; obtain ⟨y, _, rfl⟩ := hu; rfl) (by decide) (by unfold maxLen; omega) (by omega) hx34.size _ rfl ?_); intro g5 cap5 w5 hown5 hgrow5 hat5 hlt5; have hx5 : Ext w w5 := ext_grown hx34 hgrow5 (fun b hb => (hown3'.lt b hb).1)))
    (go_ret; obtain ⟨hl, ho⟩ := hfin.out g5 cap5 w5 (by simpa [Nat.add_assoc] using hown5); exact ⟨g5, cap5, by rw [hl]; rfl, ho, hx5⟩)
  | some ad =>
    have hcells : ∀ j u, (c.map cb)[j]? = some u → w.cell? (ad.add j) = some u := by
      intro j u hj
      have hjl : j < n := by have := (List.getElem?_eq_some_iff.1 hj).1; simpa [hcl] using this
      obtain ⟨ad', e, h2⟩ := h.2 (by omega)
      obtain rfl := Option.some.inj e
      rw [List.getElem?_map, getD_of c 0 j (by omega)] at hj
      rw [h2 j hjl, ← hj]; rfl
    replace hcells := hide hcells
    replace h := hide h
    go_enter Try.func46, Try.ntmps46
    go_wp2_with (first | (at_builtin; (refine wpList_append_own _ rfl _ _ 25 rfl w.heap.size 5 i0 (.int .u8 0) 1 1 Try.underlying25 hi hz0 hz1 hz2 rfl (by decide) (.slice none 0 0) 0 [] rfl (World.ownsRow_nil _ _ _ _) ad n cap (c.map cb) rfl (by simp [hcl]) hcells.out (by intro u hu; simp only [List.mem_map] at hu; obtain ⟨y, _, rfl⟩ := hu; rfl) (by unfold maxLen; omega) (by omega) (Nat.le_refl _) ?_); intro v1 w1 hown1 hgrow1 hnil1; rw [Nat.zero_add, List.nil_append] at hown1; have hx1 : Ext w w1 := ext_grown (Below.refl _ _) hgrow1 (fun b hb => by cases hb)) | (at_builtin; (refine wpList_append_lies _ rfl _ _ 25 rfl w.heap.size 5 i0 (.int .u8 0) 1 1 Try.underlying25 hi hz0 hz1 hz2 rfl (by decide) _ _ _ rfl (hown1.alloc _) ⟨w1.heap.size, 0, none⟩ 1 1 [.int .u8 128] rfl rfl (World.news_of_block (heap_alloc_new _ _)) (by intro u hu; simp at hu; subst hu; rfl) (by decide) (by unfold maxLen; omega) (by omega) (by have := hx1.size; simp <;> omega) _ rfl ?_); intro g2 cap2 w2 hown2 hgrow2 hat2 hlt2; have hx2 : Ext w w2 := ext_grown (hx1.alloc hx1.size _) hgrow2 (fun b hb => (hown1.lt b hb).1)) | (at_builtin; obtain ⟨g3, cap3, w3, hr3, hown3, hgrow3⟩ := run_append_zeros (P := Try.prog) w2 w.heap.size 25 3 25 5 i0 (.int .u8 0) .i64 1 Try.underlying25 Try.underlying3 hi hz0 hz1 hz2 rfl rfl g2 _ cap2 _ hown2 z (by omega) (by omega) (by unfold maxLen; omega) (by omega) hx2.size; have hx3 : Ext w w3 := ext_grown hx2 hgrow3 (fun b hb => (hown2.lt b hb).1); refine Lib.wpList_append_run _ rfl _ _ _ _ rfl _ _ rfl rfl _ _ hr3 ?_) | (go_at_call 49; (with_reducible refine (hput.out _).mono ?_); rintro e w4 ⟨g4, cap4, rfl, hown4, hx4⟩; have hown3' := own_ext hx4 hown3; have hx34 := hx3.then hx4) | (at_builtin; (refine wpList_append_lies _ rfl _ _ 25 rfl w.heap.size 5 i0 (.int .u8 0) 1 1 Try.underlying25 hi hz0 hz1 hz2 rfl (by decide) _ _ _ rfl hown3' ⟨g4, 0, none⟩ 8 cap4 ((putL n8 8).map cb) rfl (by simp [length_putL]) (hown4.cells rfl) (by intro u hu; simp only [List.mem_map] at hu; obtain ⟨y, _, rfl⟩ := hu; rfl) (by decide) (by unfold maxLen; omega) (by omega) hx34.size _ rfl ?_); intro g5 cap5 w5 hown5 hgrow5 hat5 hlt5; have hx5 : Ext w w5 := ext_grown hx34 hgrow5 (fun b hb => (hown3'.lt b hb).1)))
    (go_ret; obtain ⟨hl, ho⟩ := hfin.out g5 cap5 w5 (by simpa [Nat.add_assoc] using hown5); exact ⟨g5, cap5, by rw [hl]; rfl, ho, hx5⟩)
end Go.Proofs.Ytldcaoclimcahaa
