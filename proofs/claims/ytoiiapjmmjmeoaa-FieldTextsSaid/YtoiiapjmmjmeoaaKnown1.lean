/- The walk of the known rows of the wire's laws. -/
import Derived.Test.YtoiiapjmmjmeoaaWput
import Derived.Test.YtoiiapjmmjmeoaaWblob
import Derived.Test.YtoiiapjmmjmeoaaWread
import Derived.Lib.SlBytesConst
namespace Go.Proofs.Ytoiiapjmmjmeoaa
open Go.RowKit
set_option linter.unusedVariables false
set_option linter.unusedSimpArgs false

theorem put_ok (n s : Nat) (w : World) (h1 : 1 ≤ s) (h8 : s ≤ 8) (hn : n < p256 s) :
    Calls Try.prog 23 #[.int .u64 (n : Int), .int .i64 (s : Int)] w fun r w' => ∃ v, r = .returned (.tuple #[v, .int .i64 0]) ∧ w'.ownsRow w.heap.size 5 1 v s ((putL n s).map cb) ∧ Ext w w' := by
  have hp8 : p256 s ≤ 18446744073709551616 := by
    have : 256 ^ s ≤ 256 ^ 8 := Nat.pow_le_pow_right (by omega) h8
    unfold p256; omega
  refine (wput_any n s w (by omega)).mono fun r w' hp => ?_
  obtain ⟨⟨s', g, cap, e, _, _, _, hr, ho⟩ | ⟨hb, _⟩, hx⟩ := hp
  · obtain rfl : s = s' := by omega
    exact ⟨_, hr, ho, hx⟩
  · rw [Int.toNat_natCast] at hb; omega
theorem put_bad (n : Nat) (size : Int) (w : World) (hn : n < 18446744073709551616) (h : size < 1 ∨ 8 < size ∨ p256 size.toNat ≤ n) :
    Calls Try.prog 23 #[.int .u64 (n : Int), .int .i64 size] w fun r w' => r = .returned (.tuple #[.slice none 0 0, .int .i64 2]) ∧ Ext w w' := by
  refine (wput_any n size w hn).mono fun r w' hp => ?_
  obtain ⟨⟨s', g, cap, e, _, _, _, hr, ho⟩ | ⟨hb, hr⟩, hx⟩ := hp
  · subst e; rw [Int.toNat_natCast] at h; omega
  · exact ⟨hr, hx⟩
theorem blob_ok (a : Option Addr) (n cap : Nat) (c : List UInt8) (w : World) (h : BytesIn w a n c) (hc : c.length ≤ 65535) :
    Calls Try.prog 28 #[.slice a n cap] w fun r w' => ∃ v, r = .returned (.tuple #[v, .int .i64 0]) ∧ w'.ownsRow w.heap.size 5 1 v (2 + c.length) ((blobL c).map cb) ∧ Ext w w' := by
  refine (wblob_any a n cap c w h).mono fun r w' hp => ?_
  obtain ⟨⟨_, v, hr, ho⟩ | ⟨hb, _⟩, hx⟩ := hp
  · exact ⟨v, hr, ho, hx⟩
  · omega
theorem blob_bad (a : Option Addr) (n cap : Nat) (c : List UInt8) (w : World) (h : BytesIn w a n c) (hc : 65535 < c.length) :
    Calls Try.prog 28 #[.slice a n cap] w fun r w' => r = .returned (.tuple #[.slice none 0 0, .int .i64 3]) ∧ Ext w w' := by
  refine (wblob_any a n cap c w h).mono fun r w' hp => ?_
  obtain ⟨⟨h0, _⟩ | ⟨_, hr⟩, hx⟩ := hp
  · omega
  · exact ⟨hr, hx⟩
theorem code_any (e : Int) (w : World) : Calls Try.prog 20 #[.int .i64 e] w fun r w' => r = .returned (.int .i64 e) ∧ w' = w := by
  go_enter Try.func20, Try.ntmps20
  go_wp2_with fail
  go_ret
  exact ⟨rfl, rfl⟩
set_option maxHeartbeats 4000000 in
set_option maxRecDepth 100000 in
theorem known1_any (w : World) : Calls Try.prog 9 #[] w fun r w' => r = .returned (.bool true) ∧ Ext w w' := by
  have hpa : ∀ w, Calls Try.prog 23 #[.int .u64 258, .int .i64 2] w fun r w' => ∃ v, r = .returned (.tuple #[v, .int .i64 0]) ∧ w'.ownsRow w.heap.size 5 1 v 2 (([1, 2] : List UInt8).map cb) ∧ Ext w w' := fun w => put_ok 258 2 w (by decide) (by decide) (by decide)
  have hpf : ∀ w, Calls Try.prog 23 #[.int .u64 256, .int .i64 1] w fun r w' => r = .returned (.tuple #[.slice none 0 0, .int .i64 2]) ∧ Ext w w' := fun w => put_bad 256 1 w (by decide) (.inr (.inr (by decide)))
  have kc := fun (w : World) (C : Array Value) (n c : Nat) => Lib.run_convert_bytes_const (P := Try.prog) w 22 5 C n c Try.underlying22 Try.underlying5
  have hab : ∀ (w0 : World), BytesIn (w0.alloc (.cells #[.int .u8 97, .int .u8 98] 5 (2, 3))) (some ⟨w0.heap.size, 0, none⟩) 2 [97, 98] := fun w0 => bytes_blk (l := [97, 98]) (heap_alloc_new w0 _) rfl
  have hbl : ∀ (w0 : World), Calls Try.prog 28 #[.slice (some ⟨w0.heap.size, 0, none⟩) 2 2] (w0.alloc (.cells #[.int .u8 97, .int .u8 98] 5 (2, 3))) fun r w' => ∃ v, r = .returned (.tuple #[v, .int .i64 0]) ∧ w'.ownsRow (w0.alloc (.cells #[.int .u8 97, .int .u8 98] 5 (2, 3))).heap.size 5 1 v 4 (([0, 2, 97, 98] : List UInt8).map cb) ∧ Ext (w0.alloc (.cells #[.int .u8 97, .int .u8 98] 5 (2, 3))) w' := fun w0 => blob_ok _ 2 2 [97, 98] _ (hab w0) (by decide)
  have hrd : ∀ (w0 : World), Calls Try.prog 10 #[.slice (some ⟨w0.heap.size, 0, none⟩) 4 4] (w0.alloc (.cells #[.int .u8 0, .int .u8 1, .int .u8 7, .int .u8 9] 5)) fun r w' => ∃ p g, r = .returned (.pointer (some ⟨p, 0, none⟩)) ∧ w0.heap.size < p ∧ RdrIs w' p g 0 (some [0, 1, 7, 9]) ∧ Ext w0 w' := fun w0 => by
    refine (read_any (some ⟨w0.heap.size, 0, none⟩) 4 4 [0, 1, 7, 9] _ (fun h => by cases h) (by decide) (bytes_blk (l := [0, 1, 7, 9]) (heap_alloc_new w0 _) rfl)).mono fun r w' hp => ?_
    obtain ⟨p, g, hr, h1, _, _, _, h2, h3⟩ := hp
    have hz : (w0.alloc (.cells #[.int .u8 0, .int .u8 1, .int .u8 7, .int .u8 9] 5)).heap.size = w0.heap.size + 1 := by simp
    exact ⟨p, g, hr, by have : w0.heap.size + 1 ≤ p := by rw [← hz]; exact h1
                        omega, h2, (ext_alloc w0 _).then h3⟩
  have hbr : ∀ (w0 : World) (p g : Nat), RdrIs w0 p g 0 (some [0, 1, 7, 9]) → Calls Try.prog 13 #[.pointer (some ⟨p, 0, none⟩)] w0 fun r w' => TakeIs w0 p g 2 (some [9]) [7] r w' := fun w0 p g h => blobR_any p g 0 _ w0 h
  have hnr : ∀ (w0 : World) (p g : Nat), RdrIs w0 p g 3 (some [9]) → Calls Try.prog 11 #[.pointer (some ⟨p, 0, none⟩), .int .i64 2] w0 fun r w' => NumIs w0 p g 3 (none, []) r w' := fun w0 p g h => number_any p g 3 _ 2 w0 h
  replace hbr := hide hbr
  replace hnr := hide hnr
  replace hpa := hide hpa
  replace hpf := hide hpf
  replace hbl := hide hbl
  replace hrd := hide hrd
  clear hab
  go_enter Try.func9, Try.ntmps9
  go_wp2_with (first
    | (go_at_call 20; (with_reducible refine (code_any _ _).mono ?_); rintro r wc ⟨rfl, rfl⟩)
    | (go_at_call 23; (with_reducible refine (hpa.out _).mono ?_); rintro r w1 ⟨va, rfl, hoa, hx1⟩)
    | (go_at_call 23; (with_reducible refine (hpf.out _).mono ?_); rintro r w2 ⟨rfl, hx2⟩; have hoa2 := own_ext hx2 hoa; have hx2 := hx1.then hx2)
    | (go_at_call 28; (with_reducible refine (hbl.out _).mono ?_); rintro r w3 ⟨vb, rfl, hob, hx3⟩; have hx3 := (ext_alloc _ _).then hx3; have hoa3 := own_ext hx3 hoa2; have hx3 := hx2.then hx3)
    | (go_at_call 10; (with_reducible refine (hrd.out _).mono ?_); rintro r w4 ⟨p, g, rfl, hp4, hr4, hx4⟩; have hoa4 := own_ext hx4 hoa3; have hob4 := own_ext hx4 hob; obtain ⟨a1, cap1, rfl, _, _, _, hin1, _⟩ := own_in hoa4; obtain ⟨a2, cap2, rfl, _, _, _, hin2, _⟩ := own_in hob4; have c1 := conv_bytes (cap := cap1) hin1; have c2 := conv_bytes (cap := cap2) hin2)
    | (go_at_call 13; (with_reducible refine (hbr.out _ p g hr4).mono ?_); rintro r w5 ⟨a5, cap5, rfl, _, _, _, hin5, hpl5, hr5, hg5⟩; obtain ⟨rfl, _⟩ := hpl5 (by decide); have c5 := conv_bytes (q := 1) (cap := cap5) hin5; clear hpl5 hin5)
    | (go_at_call 18; (with_reducible refine (left_any p g _ _ _ hr5).mono ?_); rintro r w6 ⟨rfl, rfl⟩)
    | (go_at_call 11; (with_reducible refine (hnr.out _ p g hr5).mono ?_); rintro r w7 ⟨rfl, hr7, hg7⟩)
    | (go_at_call 17; (with_reducible refine (failed_any p g _ _ _ hr7).mono ?_); rintro r w8 ⟨rfl, rfl⟩)
    | (go_at_call 18; (with_reducible refine (left_any p g _ _ _ hr7).mono ?_); rintro r w9 ⟨rfl, rfl⟩)
    | (go_at_call 21; (with_reducible refine (end_any p g _ _ _ hr7).mono ?_); rintro r w10 ⟨rfl, rfl⟩))
  go_ret
  have hx4 := hx3.then hx4
  have hz3 := hx3.size
  exact ⟨rfl, ext_grown (ext_grown hx4 hg5 (fun k hk => by cases hk; omega)) hg7 (fun k hk => by cases hk; omega)⟩
end Go.Proofs.Ytoiiapjmmjmeoaa
