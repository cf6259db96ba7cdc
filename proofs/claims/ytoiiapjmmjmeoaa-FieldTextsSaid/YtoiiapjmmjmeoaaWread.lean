/- The walks of the reader's methods. -/
import Derived.Test.YtoiiapjmmjmeoaaApp
import Derived.Test.YtoiiapjmmjmeoaaWget
namespace Go.Proofs.Ytoiiapjmmjmeoaa
open Go.RowKit
set_option linter.unusedVariables false
set_option linter.unusedSimpArgs false

/-- The reader at the block p: not whole; or whole, and these bytes left, from o on in the block g. -/
def RdrIs (w : World) (p g o : Nat) (st : Option (List UInt8)) : Prop :=
  match st with
  | none => w.heap[p]? = some (.cells #[.slice none 0 0, .bool false] 42 (0, 0))
  | some c => ∃ a cap, w.heap[p]? = some (.cells #[.slice a c.length cap, .bool true] 42 (0, 0)) ∧ c.length ≤ cap ∧ cap ≤ maxLen ∧ (a = none → c.length = 0 ∧ cap = 0) ∧ BytesIn w a c.length c ∧ (0 < c.length → a = some ⟨g, o, none⟩ ∧ g ≠ p)
theorem failed_any (p g o : Nat) (st : Option (List UInt8)) (w : World) (h : RdrIs w p g o st) :
    Calls Try.prog 17 #[.pointer (some ⟨p, 0, none⟩)] w fun r w' => r = .returned (.bool st.isNone) ∧ w' = w := by
  cases st with
  | none =>
    have d1 : w.cell? ⟨p, 1, none⟩ = some (.bool false) := by rw [cell_of_row _ _ 1 _ _ _ h]; rfl
    go_enter Try.func17, Try.ntmps17
    go_wp2_with fail
    go_ret
    exact ⟨rfl, rfl⟩
  | some c =>
    obtain ⟨a, cap, hb, _⟩ := h
    have d1 : w.cell? ⟨p, 1, none⟩ = some (.bool true) := by rw [cell_of_row _ _ 1 _ _ _ hb]; rfl
    go_enter Try.func17, Try.ntmps17
    go_wp2_with fail
    go_ret
    exact ⟨rfl, rfl⟩
theorem failed_nil (w : World) :
    Calls Try.prog 17 #[.pointer none] w fun r w' => r = .returned (.bool true) ∧ w' = w := by
  go_enter Try.func17, Try.ntmps17
  go_wp2_with fail
  go_ret
  exact ⟨rfl, rfl⟩
/-- What so many bytes are, and what is left. -/
def takeN (n : Int) : Option (List UInt8) → Option (List UInt8) × List UInt8
  | none => (none, [])
  | some c => if 0 ≤ n ∧ n.toNat ≤ c.length then (some (c.drop n.toNat), c.take n.toNat) else (none, [])
/-- What the reader's Bytes answers. -/
def TakeIs (w : World) (p g o : Nat) (st : Option (List UInt8)) (x : List UInt8) (r : Ending) (w' : World) : Prop :=
  ∃ a cap, r = .returned (.slice a x.length cap) ∧ x.length ≤ cap ∧ cap ≤ maxLen ∧ (a = none → x.length = 0 ∧ cap = 0) ∧ BytesIn w' a x.length x ∧ (0 < x.length → a = some ⟨g, o, none⟩ ∧ g ≠ p) ∧ RdrIs w' p g (o + x.length) st ∧ w.grownBy w' (some p)
theorem take_end {w : World} {p g o cap : Nat} {a : Option Addr} {c : List UInt8} (hb : w.heap[p]? = some (.cells #[.slice a c.length cap, .bool true] 42 (0, 0))) (hc1 : c.length ≤ cap) (hc2 : cap ≤ maxLen) (hnil : a = none → c.length = 0 ∧ cap = 0) (hin : BytesIn w a c.length c) (hpl : 0 < c.length → a = some ⟨g, o, none⟩ ∧ g ≠ p) (k : Nat) (hk : k ≤ c.length) (a2 : Option Addr) (h2 : a2 = Option.map (fun x => x.add k) a ∨ cap = k ∧ a2 = a) :
    TakeIs w p g o (some (c.drop k)) (c.take k) (.returned (.slice a k k)) (w.setCell ⟨p, 0, none⟩ (.slice a2 (c.length - k) (cap - k))) := by
  have hkl : (c.take k).length = k := by rw [List.length_take]; omega
  have hdl : (c.drop k).length = c.length - k := by rw [List.length_drop]
  have hin' : BytesIn (w.setCell ⟨p, 0, none⟩ (.slice a2 (c.length - k) (cap - k))) a c.length c := by
    refine ⟨rfl, fun h0 => ?_⟩
    obtain ⟨ha, hgp⟩ := hpl h0
    obtain ⟨ad, e, hj⟩ := hin.2 h0
    refine ⟨ad, e, fun j hjl => ?_⟩
    rw [← hj j hjl]
    rw [ha] at e
    obtain rfl := Option.some.inj e
    rw [add_flat]
    exact World.cell?_of_block (Below.heap_setCell _ _ _ _ hgp)
  have ht := bytes_take hin' k hk
  have hd : BytesIn (w.setCell ⟨p, 0, none⟩ (.slice a2 (c.length - k) (cap - k))) a2 (c.length - k) (c.drop k) := by
    rcases Nat.eq_zero_or_pos (c.length - k) with h0 | h0
    · rw [h0, List.drop_eq_nil_of_le (by omega)]; exact bytes_none _ _
    · obtain ⟨ha, _⟩ := hpl (by omega)
      rcases h2 with rfl | ⟨e, _⟩
      · subst ha
        refine ⟨hdl, fun _ => ⟨_, rfl, fun j hj => ?_⟩⟩
        obtain ⟨ad, e, hjj⟩ := hin'.2 (by omega)
        obtain rfl := Option.some.inj e
        rw [addr_add, hjj (k + j) (by omega)]
        simp [List.getD]
      · omega
  have hblk := heap_setCell (i := 0) hb (.slice a2 (c.length - k) (cap - k))
  refine ⟨a, k, by rw [hkl], by omega, by omega, fun e => ⟨by have := hnil e; omega, by have := hnil e; omega⟩, by rw [hkl]; exact ht, fun h => hpl (by omega), ⟨a2, cap - k, by rw [hdl]; exact hblk, by omega, by omega, fun e => ?_, by rw [hdl]; exact hd, fun h => ?_⟩, grown_set (grown_refl _ _) _ _⟩
  · have hcz : c.length = 0 ∧ cap = 0 ∨ cap = k := by
      rcases h2 with rfl | ⟨e1, rfl⟩
      · cases a with
        | none => exact .inl (hnil rfl)
        | some _ => cases e
      · exact .inr e1
    rw [hdl]; omega
  · rw [hdl] at h
    obtain ⟨ha, hgp⟩ := hpl (by omega)
    rcases h2 with rfl | ⟨e, _⟩
    · refine ⟨?_, hgp⟩
      rw [ha, hkl]
      simp [add_flat]
    · omega
set_option maxHeartbeats 4000000 in
set_option maxRecDepth 100000 in
theorem bytes_any (p g o : Nat) (st : Option (List UInt8)) (n : Int) (w : World) (h : RdrIs w p g o st) :
    Calls Try.prog 15 #[.pointer (some ⟨p, 0, none⟩), .int .i64 n] w fun r w' => TakeIs w p g o (takeN n st).1 (takeN n st).2 r w' := by
  have hf := failed_any p g o st w h
  cases st with
  | none =>
    replace hf := hide hf
    go_enter Try.func15, Try.ntmps15
    go_wp2_with (first | (go_at_call 17; (with_reducible refine hf.out.mono ?_); rintro r w1 ⟨rfl, rfl⟩))
    go_ret
    exact ⟨none, 0, rfl, Nat.le_refl _, Nat.zero_le _, fun _ => ⟨rfl, rfl⟩, bytes_none _ _, fun h => absurd h (by simp [takeN]), h, grown_refl _ _⟩
  | some c =>
    obtain ⟨a, cap, hb, hc1, hc2, hnil, hin, hpl⟩ := h
    have d0 : w.cell? ⟨p, 0, none⟩ = some (.slice a c.length cap) := by rw [cell_of_row _ _ 0 _ _ _ hb]; rfl
    have d1 : w.cell? ⟨p, 1, none⟩ = some (.bool true) := by rw [cell_of_row _ _ 1 _ _ _ hb]; rfl
    have f0 := free_blk hb 0
    have f1 := free_blk hb 1
    replace hf := hide hf
    have hz : TakeIs w p g o none [] (.returned (.slice none 0 0)) ((w.setCell ⟨p, 0, none⟩ (.slice none 0 0)).setCell ⟨p, 1, none⟩ (.bool false)) :=
      ⟨none, 0, rfl, Nat.le_refl _, Nat.zero_le _, fun _ => ⟨rfl, rfl⟩, bytes_none _ _, fun h => absurd h (by simp), by have := heap_setCell (i := 1) (heap_setCell (i := 0) hb (.slice none 0 0)) (.bool false); exact this, grown_set (grown_set (grown_refl _ _) _ _) _ _⟩
    by_cases h0 : n < 0
    · have hd : decide (n < 0) = true := by simpa using h0
      have ht : takeN n (some c) = (none, []) := by unfold takeN; simp; omega
      rw [ht]
      replace hz := hide hz
      go_enter Try.func15, Try.ntmps15
      go_wp2_with (first | (go_at_call 17; (with_reducible refine hf.out.mono ?_); rintro r w1 ⟨rfl, rfl⟩))
      go_ret
      exact hz.out
    · have hd : decide (n < 0) = false := by simpa using h0
      obtain ⟨k, rfl⟩ := Int.eq_ofNat_of_zero_le (show 0 ≤ n by omega)
      by_cases hlt : c.length < k
      · have hlt' : (c.length : Int) < k := by omega
        have hd2 : decide ((c.length : Int) < k) = true := by simpa using hlt'
        have ht : takeN k (some c) = (none, []) := by unfold takeN; simp; omega
        rw [ht]
        replace hz := hide hz
        go_enter Try.func15, Try.ntmps15
        go_wp2_with (first | (go_at_call 17; (with_reducible refine hf.out.mono ?_); rintro r w1 ⟨rfl, rfl⟩))
        go_ret
        exact hz.out
      · have hlt' : ¬ (c.length : Int) < k := by omega
        have hd2 : decide ((c.length : Int) < k) = false := by simpa using hlt'
        have ht : takeN k (some c) = (some (c.drop k), c.take k) := by unfold takeN; simp; omega
        have hkl : (c.take k).length = k := by rw [List.length_take]; omega
        have hdl : (c.drop k).length = c.length - k := by rw [List.length_drop]
        rw [ht]
        clear hz
        have hE1 : cap ≠ k → TakeIs w p g o (some (c.drop k)) (c.take k) (.returned (.slice a k k)) (w.setCell ⟨p, 0, none⟩ (.slice (Option.map (fun x => x.add k) a) (c.length - k) (cap - k))) := fun _ => take_end hb hc1 hc2 hnil hin hpl k (by omega) _ (.inl rfl)
        have hE2 : cap = k → TakeIs w p g o (some (c.drop k)) (c.take k) (.returned (.slice a k k)) (w.setCell ⟨p, 0, none⟩ (.slice a (c.length - k) 0)) := fun e => by
          have h := take_end hb hc1 hc2 hnil hin hpl k (by omega) _ (.inr ⟨e, rfl⟩)
          rwa [show cap - k = 0 by omega] at h
        replace hE1 := hide hE1
        replace hE2 := hide hE2
        have k0 : (0 : Int) ≤ k := by omega
        have k1 : k ≤ c.length := by omega
        have k2 : k ≤ cap := by omega
        have k3 : (k : Int) ≤ c.length := by omega
        have k4 : (k : Int) ≤ cap := by omega
        clear hin hb hpl hdl hkl hnil
        go_enter Try.func15, Try.ntmps15
        go_wp2_with (first | (go_at_call 17; (with_reducible refine hf.out.mono ?_); rintro r w1 ⟨rfl, rfl⟩))
        · go_ret
          exact hE2.out (by assumption)
        · go_ret
          exact hE1.out (by assumption)
theorem takeN_le (n : Int) (st : Option (List UInt8)) (m : Nat) (h : n ≤ m) : (takeN n st).2.length ≤ m := by
  unfold takeN
  split
  · simp
  · split
    · rw [List.length_take]; omega
    · simp
def numSz (size : Int) : Int := if 1 ≤ size ∧ size ≤ 8 then size else -1
theorem numSz_le (size : Int) : numSz size ≤ (8 : Nat) := by unfold numSz; split <;> omega
theorem grown_trans {w w1 w2 : World} {k : Option Nat} (h1 : w.grownBy w1 k) (h2 : w1.grownBy w2 k) : w.grownBy w2 k :=
  ⟨h2.os.trans h1.os, h2.tape.trans h1.tape, h2.output.trans h1.output, Nat.le_trans h1.size h2.size, fun j hj hne => (h2.block j (Nat.lt_of_lt_of_le hj h1.size) hne).trans (h1.block j hj hne)⟩
theorem grown_drewN {w0 w : World} {row : Option Nat} (h : w0.grownBy w row) (m : Nat) : w0.grownBy (w.drewN m) row := ⟨h.os, h.tape, h.output, h.size, h.block⟩
theorem BytesIn.drewN {w : World} {a : Option Addr} {q : Nat} {c : List UInt8} (h : BytesIn w a q c) (m : Nat) : BytesIn (w.drewN m) a q c := h
theorem RdrIs.drewN {w : World} {p g o : Nat} {st : Option (List UInt8)} (h : RdrIs w p g o st) (m : Nat) : RdrIs (w.drewN m) p g o st := by
  cases st with
  | none => exact h
  | some c => exact h
/-- A number's field read: the value, what is left. -/
def NumIs (w : World) (p g o : Nat) (t : Option (List UInt8) × List UInt8) (r : Ending) (w' : World) : Prop :=
  r = .returned (.int .u64 (getN t.2 : Int)) ∧ RdrIs w' p g (o + t.2.length) t.1 ∧ w.grownBy w' (some p)
theorem wget_num (a : Option Addr) (q cap : Nat) (c : List UInt8) (w : World) (h8 : q ≤ 8) (hqc : q ≤ cap) (hcm : cap ≤ maxLen) (h : BytesIn w a q c) :
    Calls Try.prog 24 #[.slice a q cap] w fun r w' => ∃ e m, r = .returned (.tuple #[.int .u64 (getN c : Int), .int .i64 e]) ∧ w' = w.drewN m := by
  refine (wget_any a q cap c w hqc hcm h).mono fun r w' hp => ?_
  obtain ⟨h1 | h1, m, hm⟩ := hp
  · exact ⟨0, m, h1.2.2, hm⟩
  · obtain ⟨h0, hr⟩ := h1
    have hc : c = [] := List.eq_nil_of_length_eq_zero (by have := h.1; omega)
    exact ⟨2, m, by rw [hr, hc]; rfl, hm⟩
set_option maxHeartbeats 4000000 in
set_option maxRecDepth 100000 in
theorem number_any (p g o : Nat) (st : Option (List UInt8)) (size : Int) (w : World) (h : RdrIs w p g o st) :
    Calls Try.prog 11 #[.pointer (some ⟨p, 0, none⟩), .int .i64 size] w fun r w' => NumIs w p g o (takeN (numSz size) st) r w' := by
  have hb := bytes_any p g o st (numSz size) w h
  have hle := takeN_le (numSz size) st 8 (numSz_le size)
  have hsz : numSz size = if 1 ≤ size ∧ size ≤ 8 then size else -1 := rfl
  generalize takeN (numSz size) st = t at *
  by_cases h1 : size < 1
  · have hd : decide (size < 1) = true := by simpa using h1
    rw [if_neg (by omega)] at hsz
    rw [hsz] at hb
    replace hb := hide hb
    clear hsz
    go_enter Try.func11, Try.ntmps11
    go_wp2_with (first | (go_at_call 15; (with_reducible refine hb.out.mono ?_); rintro r w1 ⟨a1, cap1, rfl, hc1, hc2, hnil1, hin1, hpl1, hr1, hg1⟩; replace hr1 := hide hr1; replace hg1 := hide hg1; replace hpl1 := hide hpl1; replace hin1 := hide hin1) | (go_at_call 24; (with_reducible refine (wget_num _ _ _ _ _ hle hc1 hc2 hin1.out).mono ?_); rintro r w2 ⟨e, m, rfl, rfl⟩))
    go_ret
    exact ⟨rfl, hr1.out.drewN m, grown_drewN hg1.out m⟩
  · have hd : decide (size < 1) = false := by simpa using h1
    by_cases h8 : 8 < size
    · have hd2 : decide (8 < size) = true := by simpa using h8
      rw [if_neg (by omega)] at hsz
      rw [hsz] at hb
      replace hb := hide hb
      clear hsz
      go_enter Try.func11, Try.ntmps11
      go_wp2_with (first | (go_at_call 15; (with_reducible refine hb.out.mono ?_); rintro r w1 ⟨a1, cap1, rfl, hc1, hc2, hnil1, hin1, hpl1, hr1, hg1⟩; replace hr1 := hide hr1; replace hg1 := hide hg1; replace hpl1 := hide hpl1; replace hin1 := hide hin1) | (go_at_call 24; (with_reducible refine (wget_num _ _ _ _ _ hle hc1 hc2 hin1.out).mono ?_); rintro r w2 ⟨e, m, rfl, rfl⟩))
      go_ret
      exact ⟨rfl, hr1.out.drewN m, grown_drewN hg1.out m⟩
    · have hd2 : decide (8 < size) = false := by simpa using h8
      rw [if_pos (by omega)] at hsz
      rw [hsz] at hb
      replace hb := hide hb
      clear hsz
      go_enter Try.func11, Try.ntmps11
      go_wp2_with (first | (go_at_call 15; (with_reducible refine hb.out.mono ?_); rintro r w1 ⟨a1, cap1, rfl, hc1, hc2, hnil1, hin1, hpl1, hr1, hg1⟩; replace hr1 := hide hr1; replace hg1 := hide hg1; replace hpl1 := hide hpl1; replace hin1 := hide hin1) | (go_at_call 24; (with_reducible refine (wget_num _ _ _ _ _ hle hc1 hc2 hin1.out).mono ?_); rintro r w2 ⟨e, m, rfl, rfl⟩))
      go_ret
      exact ⟨rfl, hr1.out.drewN m, grown_drewN hg1.out m⟩
theorem p256_2 : p256 2 = 65536 := rfl
theorem getN_two (n : Int) (st : Option (List UInt8)) (h : n ≤ (2 : Nat)) : getN (takeN n st).2 < 65536 := by
  have h1 := takeN_le n st 2 h
  have h2 := getN_lt (takeN n st).2
  have h3 : p256 (takeN n st).2.length ≤ p256 2 := Nat.pow_le_pow_right (by omega) h1
  rw [p256_2] at h3
  omega
/-- What is left once a blob's length is read; the blob, and what is left then. -/
def blobN (st : Option (List UInt8)) : Option (List UInt8) × List UInt8 := takeN (getN (takeN 2 st).2 : Nat) (takeN 2 st).1
set_option maxHeartbeats 4000000 in
set_option maxRecDepth 100000 in
theorem blobR_any (p g o : Nat) (st : Option (List UInt8)) (w : World) (h : RdrIs w p g o st) :
    Calls Try.prog 13 #[.pointer (some ⟨p, 0, none⟩)] w fun r w' => TakeIs w p g (o + (takeN 2 st).2.length) (blobN st).1 (blobN st).2 r w' := by
  have hn : Calls Try.prog 11 #[.pointer (some ⟨p, 0, none⟩), .int .i64 2] w fun r w' => NumIs w p g o (takeN 2 st) r w' := number_any p g o st 2 w h
  have hL := getN_two 2 st (by decide)
  have hb := fun w1 (hr : RdrIs w1 p g (o + (takeN 2 st).2.length) (takeN 2 st).1) => bytes_any p g _ _ (getN (takeN 2 st).2 : Nat) w1 hr
  have hbl : takeN (getN (takeN 2 st).2 : Nat) (takeN 2 st).1 = blobN st := rfl
  rw [hbl] at hb
  generalize takeN 2 st = t at *
  have hw0 : wrap64 (getN t.2 : Int) = getN t.2 := by unfold wrap64; omega
  generalize blobN st = u at *
  have hw1 : IntKind.i64.wrap (getN t.2 : Int) = getN t.2 := by rw [IntKind.wrap_i64]; omega
  replace hn := hide hn
  replace hb := hide hb
  replace hbl := hide hbl
  go_enter Try.func13, Try.ntmps13
  go_wp2_with (first | (go_at_call 11; (with_reducible refine hn.out.mono ?_); rintro r w1 ⟨rfl, hr1, hg1⟩; replace hr1 := hide hr1; replace hg1 := hide hg1) | (go_at_call 15; (with_reducible refine (hb.out _ hr1.out).mono ?_); rintro r w2 ⟨a2, cap2, rfl, hc1, hc2, hnil2, hin2, hpl2, hr2, hg2⟩; replace hr2 := hide hr2; replace hg2 := hide hg2; replace hpl2 := hide hpl2; replace hin2 := hide hin2))
  go_ret
  exact ⟨a2, cap2, rfl, hc1, hc2, hnil2, hin2.out, hpl2.out, hr2.out, grown_trans hg1.out hg2.out⟩
/-- How much is left. -/
def leftN : Option (List UInt8) → Nat
  | none => 0
  | some c => c.length
/-- The end's word. -/
def endN : Option (List UInt8) → Nat
  | none => 4
  | some c => if c.length = 0 then 0 else 4
theorem left_any (p g o : Nat) (st : Option (List UInt8)) (w : World) (h : RdrIs w p g o st) :
    Calls Try.prog 18 #[.pointer (some ⟨p, 0, none⟩)] w fun r w' => r = .returned (.int .i64 (leftN st : Int)) ∧ w' = w := by
  have hf := failed_any p g o st w h
  cases st with
  | none =>
    replace hf := hide hf
    go_enter Try.func18, Try.ntmps18
    go_wp2_with (first | (go_at_call 17; (with_reducible refine hf.out.mono ?_); rintro r w1 ⟨rfl, rfl⟩))
    go_ret
    exact ⟨rfl, rfl⟩
  | some c =>
    obtain ⟨a, cap, hb, _⟩ := h
    have d0 : w.cell? ⟨p, 0, none⟩ = some (.slice a c.length cap) := by rw [cell_of_row _ _ 0 _ _ _ hb]; rfl
    replace hf := hide hf
    go_enter Try.func18, Try.ntmps18
    go_wp2_with (first | (go_at_call 17; (with_reducible refine hf.out.mono ?_); rintro r w1 ⟨rfl, rfl⟩))
    go_ret
    exact ⟨rfl, rfl⟩
theorem end_any (p g o : Nat) (st : Option (List UInt8)) (w : World) (h : RdrIs w p g o st) :
    Calls Try.prog 21 #[.pointer (some ⟨p, 0, none⟩)] w fun r w' => r = .returned (.int .i64 (endN st : Int)) ∧ w' = w := by
  cases st with
  | none =>
    have d1 : w.cell? ⟨p, 1, none⟩ = some (.bool false) := by rw [cell_of_row _ _ 1 _ _ _ h]; rfl
    go_enter Try.func21, Try.ntmps21
    go_wp2_with fail
    go_ret
    exact ⟨rfl, rfl⟩
  | some c =>
    obtain ⟨a, cap, hb, _⟩ := h
    have d0 : w.cell? ⟨p, 0, none⟩ = some (.slice a c.length cap) := by rw [cell_of_row _ _ 0 _ _ _ hb]; rfl
    have d1 : w.cell? ⟨p, 1, none⟩ = some (.bool true) := by rw [cell_of_row _ _ 1 _ _ _ hb]; rfl
    by_cases h0 : c.length = 0
    · have hd : decide ((0 : Int) < c.length) = false := decide_eq_false (by omega)
      have he : endN (some c) = 0 := by simp [endN, h0]
      rw [he]
      go_enter Try.func21, Try.ntmps21
      go_wp2_with fail
      go_ret
      exact ⟨rfl, rfl⟩
    · have hd : decide ((0 : Int) < c.length) = true := decide_eq_true (by omega)
      have he : endN (some c) = 4 := by simp [endN, h0]
      rw [he]
      go_enter Try.func21, Try.ntmps21
      go_wp2_with fail
      go_ret
      exact ⟨rfl, rfl⟩
theorem bytes_nilR (n : Int) (w : World) :
    Calls Try.prog 15 #[.pointer none, .int .i64 n] w fun r w' => r = .returned (.slice none 0 0) ∧ w' = w := by
  go_enter Try.func15, Try.ntmps15
  go_wp2_with (first | (go_at_call 17; (with_reducible refine (failed_nil _).mono ?_); rintro r w1 ⟨rfl, rfl⟩))
  go_ret
  exact ⟨rfl, rfl⟩
theorem left_nilR (w : World) :
    Calls Try.prog 18 #[.pointer none] w fun r w' => r = .returned (.int .i64 0) ∧ w' = w := by
  go_enter Try.func18, Try.ntmps18
  go_wp2_with (first | (go_at_call 17; (with_reducible refine (failed_nil _).mono ?_); rintro r w1 ⟨rfl, rfl⟩))
  go_ret
  exact ⟨rfl, rfl⟩
theorem end_nilR (w : World) :
    Calls Try.prog 21 #[.pointer none] w fun r w' => r = .returned (.int .i64 1) ∧ w' = w := by
  go_enter Try.func21, Try.ntmps21
  go_wp2_with fail
  go_ret
  exact ⟨rfl, rfl⟩
theorem number_nilR (size : Int) (h1 : 1 ≤ size) (h8 : size ≤ 8) (w : World) :
    Calls Try.prog 11 #[.pointer none, .int .i64 size] w fun r w' => r = .returned (.int .u64 0) ∧ ∃ m, w' = w.drewN m := by
  have hd : decide (size < 1) = false := by simp; omega
  have hd2 : decide (8 < size) = false := by simp; omega
  go_enter Try.func11, Try.ntmps11
  go_wp2_with (first | (go_at_call 15; (with_reducible refine (bytes_nilR _ _).mono ?_); rintro r w1 ⟨rfl, rfl⟩) | (go_at_call 24; (with_reducible refine (wget_num none 0 0 [] _ (by decide) (by decide) (by decide) (bytes_none _ _)).mono ?_); rintro r w2 ⟨e, m, rfl, rfl⟩))
  go_ret
  exact ⟨rfl, m, rfl⟩
theorem blob_nilR (w : World) :
    Calls Try.prog 13 #[.pointer none] w fun r w' => r = .returned (.slice none 0 0) ∧ ∃ m, w' = w.drewN m := by
  go_enter Try.func13, Try.ntmps13
  go_wp2_with (first | (go_at_call 11; (with_reducible refine (number_nilR 2 (by decide) (by decide) _).mono ?_); rintro r w1 ⟨rfl, m, rfl⟩) | (go_at_call 15; (with_reducible refine (bytes_nilR _ _).mono ?_); rintro r w1 ⟨rfl, rfl⟩))
  go_ret
  exact ⟨rfl, m, rfl⟩
set_option maxHeartbeats 4000000 in
set_option maxRecDepth 100000 in
/-- Read: a reader of its own, over a copy of its own. -/
theorem read_any (a : Option Addr) (n cap : Nat) (c : List UInt8) (w : World) (hnil : a = none → n = 0 ∧ cap = 0) (hn : n ≤ 140737488355328) (h : BytesIn w a n c) :
    Calls Try.prog 10 #[.slice a n cap] w fun r w' => ∃ p g, r = .returned (.pointer (some ⟨p, 0, none⟩)) ∧ w.heap.size ≤ p ∧ p < w'.heap.size ∧ w.heap.size ≤ g ∧ (0 < c.length → g < w'.heap.size ∧ g ≠ p ∧ ∃ L, w'.heap[g]? = some (.cells L 5 (0, 0))) ∧ RdrIs w' p g 0 (some c) ∧ Ext w w' := by
  have hcl := clone_any a n cap c w hnil hn h
  replace hcl := hide hcl
  replace h := hide h
  go_enter Try.func10, Try.ntmps10
  go_wp2_with (first | (go_at_call 33; (with_reducible refine hcl.out.mono ?_); rintro r w1 ⟨v, rfl, hv, hx1⟩; obtain ⟨a1, cap1, rfl, hc1, hc2, hnil1, hin1, hat1⟩ := hv))
  go_ret
  have hE := ext_alloc w1 (.cells #[.slice a1 c.length cap1, .bool true] 42)
  have hz : (w1.alloc (.cells #[.slice a1 c.length cap1, .bool true] 42)).heap.size = w1.heap.size + 1 := by simp
  have hB := hx1.size
  cases a1 with
  | none =>
    have h0 := (hnil1 rfl).1
    exact ⟨_, w.heap.size, rfl, hB, by omega, Nat.le_refl _, fun h => absurd h (by omega), ⟨none, cap1, heap_alloc_new _ _, hc1, hc2, hnil1, hin1.ext hE, fun h => absurd h (by omega)⟩, hx1.then hE⟩
  | some ad =>
    obtain ⟨g, rfl, hg1, hg2, L, hL⟩ := hat1 ad rfl
    exact ⟨_, g, rfl, hB, by omega, hg1, fun _ => ⟨by omega, by omega, L, by rw [heap_alloc_old _ _ hg2]; exact hL⟩, ⟨_, cap1, heap_alloc_new _ _, hc1, hc2, hnil1, hin1.ext hE, fun _ => ⟨rfl, by omega⟩⟩, hx1.then hE⟩
end Go.Proofs.Ytoiiapjmmjmeoaa
