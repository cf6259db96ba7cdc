/- The walks of bytes.Count at one byte and of wire.Put. -/
import Derived.Test.YtegicioofbhifaaZC
import Derived.Laws.AppendOwnNone
import Derived.Shelf.Bytes.SlCountOne
namespace Go.Proofs.Ytegicioofbhifaa
open Go.RowKit
set_option linter.unusedVariables false
set_option linter.unusedSimpArgs false

theorem nums_back (l : List UInt8) : Lib.bytesOf (l.map fun b => (b.toNat : Int)) = l := by
  unfold Lib.bytesOf
  rw [List.map_map]
  conv => rhs; rw [← List.map_id l]
  apply List.map_congr_left
  intro b _
  simp
theorem run_bcount {w : World} {a : Option Addr} {n : Nat} {l : List UInt8} (h : BytesIn w a n l) (cap : Nat) (c : UInt8) : (callFunc 133 #[.slice a n cap, .int .u8 (c.toNat : Int)]).run Try.prog w = .ok (.value (.int .i64 (l.count c : Int))) w := by
  rw [run_callFunc_extern Try.func133 (by kernel_rfl) (by kernel_rfl) (by kernel_rfl) (e := Extern.BytealgCount.count) (by kernel_rfl)]
  have hl := h.1
  cases a with
  | none =>
    have h0 : n = 0 := by
      rcases Nat.eq_zero_or_pos n with h0 | h0
      · exact h0
      · obtain ⟨ad, e, _⟩ := h.2 h0
        cases e
    have hc : l = [] := List.eq_nil_of_length_eq_zero (by omega)
    rw [Lib.run_countNil, hc]
    rfl
  | some ad =>
    rw [Lib.run_countAt w ad n cap (l.map fun b => (b.toNat : Int)) (by simpa using hl) (fun i hi => by
      obtain ⟨ad', e, h2⟩ := h.2 (by omega)
      obtain rfl := Option.some.inj e
      rw [h2 i hi]
      simp [cb, List.getD, List.getElem?_eq_getElem (show i < l.length by omega)]), nums_back]
    simp [Lib.countByte, Result.andThen]
set_option maxHeartbeats 2000000 in
theorem count_any (a : Option Addr) (n cap : Nat) (c : UInt8) (l : List UInt8) (ad : Addr) (w : World) (h : BytesIn w a n l) (hc : w.cell? ad = some (cb c)) :
    Calls Try.prog 124 #[.slice a n cap, .slice (some ad) 1 1] w fun r w' => r = .returned (.int .i64 (l.count c : Int)) ∧ w' = w := by
  have hb := run_bcount h cap c
  unfold cb at hc
  go_enter Try.func124, Try.ntmps124
  go_wp2_with fail
  go_ret
  exact ⟨rfl, rfl⟩
/-- What stands in Put's eight bytes while the lower ones are laid. -/
def stage (n i : Nat) : List UInt8 := List.replicate i 0 ++ (putL n 8).drop i
theorem stage_set (n i : Nat) (h : i < 8) : (stage n (i + 1)).set i (UInt8.ofNat (n / p256 (7 - i))) = stage n i := by
  rcases (by omega : i = 0 ∨ i = 1 ∨ i = 2 ∨ i = 3 ∨ i = 4 ∨ i = 5 ∨ i = 6 ∨ i = 7) with rfl | rfl | rfl | rfl | rfl | rfl | rfl | rfl <;> rfl
theorem length_stage (n i : Nat) (h : i ≤ 8) : (stage n i).length = 8 := by
  unfold stage; simp [length_putL]; omega
theorem stage_8 (n : Nat) : ((stage n 8).map cb).toArray = #[.int .u8 0, .int .u8 0, .int .u8 0, .int .u8 0, .int .u8 0, .int .u8 0, .int .u8 0, .int .u8 0] := rfl
theorem p256_step (n k : Nat) : n / p256 k / 256 = n / p256 (k + 1) := by
  rw [Nat.div_div_eq_div_mul]; rfl
theorem putL_drop (n s : Nat) : ∀ d, (putL n (s + d)).drop d = putL n s
  | 0 => rfl
  | d + 1 => by rw [show s + (d + 1) = (s + d) + 1 by omega, putL, List.drop_succ_cons, putL_drop n s d]
theorem count_room (n s : Nat) : ∀ d, n < p256 (s + d) → (((putL n (s + d)).take d).count 0 = d ↔ n < p256 s)
  | 0, h => by simpa using h
  | d + 1, h => by
    rw [show s + (d + 1) = (s + d) + 1 by omega] at h ⊢
    rw [putL, List.take_succ_cons, List.count_cons]
    have hl : ((putL n (s + d)).take d).count 0 ≤ d := Nat.le_trans List.count_le_length (by rw [List.length_take]; omega)
    have hp : p256 (s + d + 1) = p256 (s + d) * 256 := Nat.pow_succ ..
    have hpp := p256_pos (s + d)
    have hle : p256 s ≤ p256 (s + d) := Nat.pow_le_pow_right (by omega) (by omega)
    have hq : n / p256 (s + d) < 256 := by rw [Nat.div_lt_iff_lt_mul hpp]; rw [hp] at h; omega
    by_cases h0 : n < p256 (s + d)
    · rw [Nat.div_eq_of_lt h0, show (UInt8.ofNat 0 == 0) = true from rfl, if_pos rfl]
      have := count_room n s d h0
      omega
    · have hne : (UInt8.ofNat (n / p256 (s + d)) == 0) = false := by
        have h1 : 0 < n / p256 (s + d) := Nat.div_pos (by omega) hpp
        cases hx : (UInt8.ofNat (n / p256 (s + d)) == 0)
        · rfl
        · have h2 := congrArg UInt8.toNat (eq_of_beq hx)
          rw [UInt8.toNat_ofNat'] at h2
          have h3 : (0 : UInt8).toNat = 0 := rfl
          omega
      rw [hne, if_neg (by decide)]
      omega
/-- What Put answers. -/
def PutIs (B n : Nat) (size : Int) (r : Ending) (w' : World) : Prop :=
  (∃ s g cap, size = (s : Nat) ∧ 1 ≤ s ∧ s ≤ 8 ∧ n < p256 s ∧ r = .returned (.tuple #[.slice (some ⟨g, 0, none⟩) s cap, .int .i64 0]) ∧ w'.ownsRow B 5 1 (.slice (some ⟨g, 0, none⟩) s cap) s ((putL n s).map cb)) ∨
  ((size < 1 ∨ 8 < size ∨ p256 size.toNat ≤ n) ∧ r = .returned (.tuple #[.slice none 0 0, .int .i64 2]))
set_option maxHeartbeats 4000000 in
set_option maxRecDepth 100000 in
theorem wput_any (n : Nat) (size : Int) (w : World) (hn : n < 18446744073709551616) :
    Calls Try.prog 114 #[.int .u64 (n : Int), .int .i64 size] w fun r w' => PutIs w.heap.size n size r w' ∧ Ext w w' := by
  obtain ⟨i0, hi0, hz0, hz1, hz2⟩ := info_parts info_u8
  go_enter Try.func114, Try.ntmps114
  go_wp2_with fail
  have hE := ext_alloc w (.cells ((stage n 8).map cb).toArray 169)
  have hH := heap_alloc_new w (.cells ((stage n 8).map cb).toArray 169)
  rw [stage_8] at hE hH
  go_loopw [0, 7] (fun s0 s7 wr => ∃ i : Nat, i ≤ 8 ∧ s7 = .int .i64 i ∧ s0 = .int .u64 ((n / p256 (8 - i) : Nat) : Int) ∧ wr.heap[w.heap.size]? = some (.cells ((stage n i).map cb).toArray 169 (0, 0)) ∧ Ext w wr) (fun _ s _ => (intOf s).toNat)
  case atStart => exact ⟨8, by omega, rfl, by simp [p256], hH, hE⟩
  case round =>
    obtain ⟨i, hi, rfl, rfl, hb, hx⟩ := hrel
    obtain ⟨w2, rfl⟩ : ∃ w2, w2 = wr := ⟨_, rfl⟩
    by_cases h0 : 0 < i
    · have h0' : (0 : Int) < i := by omega
      obtain ⟨j, rfl⟩ : ∃ j, i = j + 1 := ⟨i - 1, by omega⟩
      have k1 : ((j + 1 : Nat) : Int) - 1 = j := by omega
      have k2 : IntKind.i64.wrap (((j + 1 : Nat) : Int) - 1) = j := by rw [IntKind.wrap_i64]; omega
      have k3 : (0 : Int) ≤ j := by omega
      have k4 : (j : Int) < 8 := by omega
      have d1 := b_at _ hb j (by rw [length_stage _ _ (by omega)]; omega)
      have f1 := free_blk hb j
      have hst := stage_set n j (by omega)
      have hu := u8_of (n / p256 (7 - j))
      have hpd := p256_step n (7 - j)
      rw [show 8 - (j + 1) = 7 - j by omega]
      rw [show 7 - j + 1 = 8 - j by omega] at hpd
      obtain ⟨q, hq⟩ : ∃ q, q = n / p256 (7 - j) := ⟨_, rfl⟩
      rw [← hq] at hst hu hpd ⊢
      have hqn : q ≤ n := by rw [hq]; exact Nat.div_le_self _ _
      have hsh : (q : Int) / 256 = ((n / p256 (8 - j) : Nat) : Int) := by omega
      replace hq := hide hq
      replace hst := hide hst
      obtain ⟨m, hm⟩ : ∃ m, m = n / p256 (8 - j) := ⟨_, rfl⟩
      rw [← hm] at hsh hpd
      replace hm := hide hm
      replace hpd := hide hpd
      go_wp2_with fail
      have hbs : (w2.setCell ⟨w.heap.size, j, none⟩ (.int .u8 ((q : Int) % 256))).heap[w.heap.size]? = some (.cells ((stage n j).map cb).toArray 169 (0, 0)) := by
        rw [heap_setCell hb, show (q : Int) % 256 = ((UInt8.ofNat q).toNat : Int) by rw [UInt8.toNat_ofNat']; omega, b_set, hst.out]
      exact ⟨⟨j, by omega, rfl, by rw [← hm.out], hbs, Below.setCell (p := ⟨w.heap.size, j, none⟩) hx (Nat.le_refl _) _⟩, by simp [intOf]⟩
    · obtain rfl : i = 0 := by omega
      have h0' : ¬ (0 : Int) < ((0 : Nat) : Int) := by omega
      have hsz : (putL n 8).length = 8 := length_putL n 8
      have hst0 : stage n 0 = putL n 8 := rfl
      rw [hst0] at hb
      rw [show ((0 : Nat) : Int) = 0 from rfl]
      by_cases hs1 : size < 1
      · have hd1 : decide (size < 1) = true := by simpa using hs1
        go_wp2_with fail
        go_ret2
        exact ⟨.inr ⟨.inl hs1, rfl⟩, hx⟩
      · have hd1 : decide (size < 1) = false := by simpa using hs1
        by_cases hs8 : 8 < size
        · have hd2 : decide (8 < size) = true := by simpa using hs8
          go_wp2_with fail
          go_ret2
          exact ⟨.inr ⟨.inr (.inl hs8), rfl⟩, hx⟩
        · have hd2 : decide (8 < size) = false := by simpa using hs8
          obtain ⟨s, rfl⟩ := Int.eq_ofNat_of_zero_le (show 0 ≤ size by omega)
          obtain ⟨p, hp⟩ : ∃ p, p = 8 - s := ⟨_, rfl⟩
          have e1 : (8 : Int) - s = p := by omega
          have e2 : IntKind.i64.wrap ((8 : Int) - s) = p := by rw [IntKind.wrap_i64]; omega
          have e3 : IntKind.i64.wrap (p : Int) = p := by rw [IntKind.wrap_i64]; omega
          have e4 : (0 : Int) ≤ p := by omega
          have e5 : (p : Int) ≤ 8 := by omega
          have e6 : p ≤ 8 := by omega
          have e7 : ¬ 8 = p := by omega
          have e8 : ¬ p = 8 := by omega
          have e9 : 8 - p = s := by omega
          have hall := bytes_blk hb hsz
          have hah := bytes_take hall p e6
          have hfi := bytes_drop hall p e6
          have hdr : (putL n 8).drop p = putL n s := by
            have := putL_drop n s p
            rw [show s + p = 8 by omega] at this
            exact this
          have hcr := count_room n s p (by rw [show s + p = 8 by omega]; exact hn)
          rw [show s + p = 8 by omega] at hcr
          rw [hdr, e9] at hfi
          obtain ⟨T, hT⟩ : ∃ T, T = (putL n 8).take p := ⟨_, rfl⟩
          rw [← hT] at hah hcr
          replace hp := hide hp
          replace hT := hide hT
          replace hdr := hide hdr
          have hx2 := fun m => hx.then (ext_drewN w2 m)
          have ha2 := fun m => hide (hah.ext ((ext_drewN w2 m).then (ext_alloc _ (.cells #[.int .u8 0] 5))))
          have hf2 := fun m => hide (hfi.ext ((ext_drewN w2 m).then (ext_alloc _ (.cells #[.int .u8 0] 5))))
          have hx3 := fun m => hide ((hx2 m).then (ext_alloc _ (.cells #[.int .u8 0] 5)))
          clear hb hx hall hfi hah
          go_wp2_with fail
          go_quiet (fail)
          have hcz : ((w2.drewN nq).alloc (.cells #[.int .u8 0] 5)).cell? ⟨w2.heap.size, 0, none⟩ = some (cb 0) := by
            have := cell_of_row _ w2.heap.size 0 _ _ _ (heap_alloc_new (w2.drewN nq) (.cells #[.int .u8 0] 5))
            exact this
          have hc := count_any (some ⟨w.heap.size, 0, none⟩) p 8 0 T ⟨w2.heap.size, 0, none⟩ _ (ha2 nq).out hcz
          replace hc := hide hc
          obtain ⟨C, hC⟩ : ∃ C, C = T.count 0 := ⟨_, rfl⟩
          rw [← hC] at hc hcr
          replace hC := hide hC
          by_cases hroom : n < p256 s
          · obtain rfl := (hcr.2 hroom).symm
            have hss : 1 ≤ s := by omega
            have hnl : ((putL n s).map cb).length = s * 1 := by simp [length_putL]
            have h63 : 0 + s ≤ maxLen := by unfold maxLen; omega
            have hby : (0 + s) * 1 ≤ 140737488355328 := by omega
            have hws : w.heap.size ≤ ((w2.drewN nq).alloc (.cells #[.int .u8 0] 5)).heap.size := (hx3 nq).out.size
            clear hcr
            replace hnl := hide hnl
            replace h63 := hide h63
            replace hby := hide hby
            replace hws := hide hws
            go_wp2_with (first | (go_at_call 124; (with_reducible refine hc.out.mono ?_); rintro r w3 ⟨rfl, rfl⟩) | (at_builtin; (refine wpList_append_own _ rfl _ _ 27 rfl w.heap.size 5 i0 (.int .u8 0) 1 1 Try.underlying27 hi0 hz0 hz1 hz2 rfl (by decide) (.slice none 0 0) 0 [] rfl (World.ownsRow_nil _ _ _ _) ⟨w.heap.size, p, none⟩ s s ((putL n s).map cb) rfl hnl.out (news_of_bytes (hf2 nq).out) (by intro u hu; simp only [List.mem_map] at hu; obtain ⟨y, _, rfl⟩ := hu; rfl) h63.out hby.out hws.out ?_); intro v1 w3 hown3 hgrow3 hnil3; rw [Nat.zero_add, List.nil_append] at hown3; obtain ⟨g1, cp1, rfl, _, _⟩ := hown3.form hss; have hx4 := hide (ext_grown (hx3 nq).out hgrow3 (fun k hk => by cases hk))))
            go_ret2
            exact ⟨.inl ⟨s, g1, cp1, rfl, hss, by omega, hroom, rfl, hown3⟩, hx4.out⟩
          · have hne : ¬ C = p := fun h => hroom (hcr.1 h)
            have hne2 : ¬ (C : Int) = p := by omega
            have hge : p256 ((s : Int).toNat) ≤ n := by rw [Int.toNat_natCast]; omega
            go_wp2_with (first | (go_at_call 124; (with_reducible refine hc.out.mono ?_); rintro r w3 ⟨rfl, rfl⟩))
            go_ret2
            exact ⟨.inr ⟨.inr (.inr hge), rfl⟩, (hx3 nq).out⟩
end Go.Proofs.Ytegicioofbhifaa
