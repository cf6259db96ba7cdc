/- What keys that are none answer; an epoch's number. -/
import Derived.Test.YtfdllhhdjiklfaaKnown8
namespace Go.Proofs.Ytfdllhhdjiklfaa
open Go.RowKit
set_option linter.unusedVariables false
set_option maxRecDepth 100000
set_option linter.unusedSimpArgs false

/-- A pointer to no key: nil, or to one that was not made. -/
def NoKey (w : World) (p : Option Addr) : Prop := p = none ∨ ∃ b, p = some ⟨b, 0, none⟩ ∧ w.cell? ⟨b, 32, none⟩ = some (.bool false)
theorem NoKey.ext {w w' : World} {p : Option Addr} (h : NoKey w p) (hx : Ext w w') : NoKey w' p := by
  rcases h with h | ⟨b, h, hc⟩
  · exact .inl h
  · exact .inr ⟨b, h, (hx.cell (p := ⟨b, 32, none⟩) (block_lt_of_cell hc)).trans hc⟩
attribute [local go_sem ↓] exec_store_Hash exec_build_H build_f0
attribute [local go_sem ↓] loadCells_blk
attribute [local go_sem] run_blkLoad rowAt_drew rowAt_old rowAt_new size_bcells bc_whole
theorem zero_Key (w : World) : (zeroValue 63).run Try.prog w = .ok (.agg (kcells (zeros 32) false 0 0 (.slice none 0 0) (zeros 32))) w := run_zeroValue w _ _ (by kernel_rfl)
set_option maxHeartbeats 1000000 in
theorem root_none (p : Option Addr) (w : World) (h : NoKey w p) : Calls Try.prog 14 #[.pointer p] w fun r w' => r = .returned (.agg (bcells (zeros 32))) ∧ Ext w w' := by
  have hZ := heap_alloc_new w (.cells (bcells (zeros 32)) 23)
  have hx := ext_alloc w (.cells (bcells (zeros 32)) 23)
  have hz := size_bcells (zeros 32)
  have h1 := h.ext hx
  rw [bcells_zeros] at hz h1
  have hst := store_new_H (zeros 32) w _ rfl _ hz
  have hnot : ∀ (x : Bool) (w : World), (Op.unary .not (.bool x)).run Try.prog w = .ok (.bool (!x)) w := fun _ _ => rfl
  replace hZ := hide hZ
  replace hx := hide hx
  clear h
  rcases h1 with rfl | ⟨b, rfl, hc⟩
  · go_enter Try.func14, Try.ntmps14
    go_wp2_with ((with_reducible show bodyPost _ _ _ _ _ _); refine ret_row (P := Try.prog) 2 23 32 _ _ rfl rfl Try.underlying23 rfl (by kernel_rfl) _ _ rfl (rowAt_whole hZ.out (size_bcells _)) ⟨rfl, hx.out⟩)
  · go_enter Try.func14, Try.ntmps14
    go_wp2_with ((with_reducible show bodyPost _ _ _ _ _ _); refine ret_row (P := Try.prog) 2 23 32 _ _ rfl rfl Try.underlying23 rfl (by kernel_rfl) _ _ rfl (rowAt_whole hZ.out (size_bcells _)) ⟨rfl, hx.out⟩)
set_option maxHeartbeats 1000000 in
theorem sign_none (p : Option Addr) (i : Int) (h : Bs 32) (w : World) (hk : NoKey w p) : Calls Try.prog 16 #[.pointer p, .int .i64 i, .agg (bcells h)] w fun r w' => r = .returned (.tuple #[.slice none 0 0, .int .i64 1]) ∧ Ext w w' := by
  have hx := ext_alloc w (.cells (bcells h) 23)
  have h1 := hk.ext hx
  have hnot : ∀ (x : Bool) (w : World), (Op.unary .not (.bool x)).run Try.prog w = .ok (.bool (!x)) w := fun _ _ => rfl
  replace hx := hide hx
  clear hk
  rcases h1 with rfl | ⟨b, rfl, hc⟩
  · go_enter Try.func16, Try.ntmps16
    go_wp2_with fail
    go_ret2
    exact ⟨rfl, hx.out⟩
  · go_enter Try.func16, Try.ntmps16
    go_wp2_with fail
    go_ret2
    exact ⟨rfl, hx.out⟩
set_option maxHeartbeats 1000000 in
theorem sign_range (b : Nat) (seed : Bs 32) (i : Int) (hi : i < 0 ∨ 16 ≤ i) (h : Bs 32) (w : World) (hk : KeyIs w b seed) : Calls Try.prog 16 #[.pointer (some ⟨b, 0, none⟩), .int .i64 i, .agg (bcells h)] w fun r w' => r = .returned (.tuple #[.slice none 0 0, .int .i64 2]) ∧ Ext w w' := by
  have hx := ext_alloc w (.cells (bcells h) 23)
  have hc := (hk.ext hx).made
  have hnot : ∀ (x : Bool) (w : World), (Op.unary .not (.bool x)).run Try.prog w = .ok (.bool (!x)) w := fun _ _ => rfl
  replace hx := hide hx
  clear hk
  by_cases h1 : i < 0
  · have d1 : decide (i < 0) = true := by simpa using h1
    go_enter Try.func16, Try.ntmps16
    go_wp2_with fail
    go_ret2
    exact ⟨rfl, hx.out⟩
  · have d1 : decide (i < 0) = false := by simpa using h1
    have d2 : decide ((16 : Int) ≤ i) = true := by simp; omega
    go_enter Try.func16, Try.ntmps16
    go_wp2_with fail
    go_ret2
    exact ⟨rfl, hx.out⟩
theorem number_any (e : Nat) (he : e < 18446744073709551616) (w : World) : Calls Try.prog 24 #[.int .u64 (e : Int)] w fun r w' => r = .returned (.int .i64 ((e % 16 : Nat) : Int)) ∧ Ext w w' := by
  have e1 : (e : Int).tmod 16 = ((e % 16 : Nat) : Int) := by rw [Int.tmod_eq_emod_of_nonneg (by omega)]; omega
  have e2 : (e : Int) % 16 = ((e % 16 : Nat) : Int) := by omega
  have h3 : e % 16 < 16 := by omega
  obtain ⟨q, hq⟩ : ∃ q, q = e % 16 := ⟨_, rfl⟩
  rw [← hq] at e1 e2 h3 ⊢
  have e3 : IntKind.i64.wrap (q : Int) = q := by rw [IntKind.wrap_i64]; omega
  replace hq := hide hq
  go_enter Try.func24, Try.ntmps24
  go_wp2_with fail
  go_ret
  exact ⟨by first | rfl | rw [e3], Below.refl _ _⟩
attribute [local go_sem ↓] zero_Key
attribute [local go_sem] equal_hash
set_option maxHeartbeats 4000000 in
theorem keyNil_walk (e : Nat) (he : e < 18446744073709551616) (w : World) : Calls Try.prog 8 #[.int .u64 (e : Int)] w fun r w' => r = .returned (.bool true) ∧ Ext w w' := by
  have e1 : (e : Int).tmod 16 = ((e % 16 : Nat) : Int) := by rw [Int.tmod_eq_emod_of_nonneg (by omega)]; omega
  have e2 : (e : Int) % 16 = ((e % 16 : Nat) : Int) := by omega
  have h3 : e % 16 < 16 := by omega
  have hNu := fun w' => number_any e he w'
  obtain ⟨q, hq⟩ : ∃ q, q = e % 16 := ⟨_, rfl⟩
  rw [← hq] at e1 e2 h3 hNu
  have e3 : IntKind.i64.wrap (q : Int) = q := by rw [IntKind.wrap_i64]; omega
  have hez := bsEq_self (zeros 32)
  have hK := heap_alloc2_old w (.cells (kcells (zeros 32) false 0 0 (.slice none 0 0) (zeros 32)) 63) (.cells #[.pointer none, .pointer (some ⟨w.heap.size, 0, none⟩)] 28)
  have hL := heap_alloc2_new w (.cells (kcells (zeros 32) false 0 0 (.slice none 0 0) (zeros 32)) 63) (.cells #[.pointer none, .pointer (some ⟨w.heap.size, 0, none⟩)] 28)
  have hx := ext_two w (.cells (kcells (zeros 32) false 0 0 (.slice none 0 0) (zeros 32)) 63) (.cells #[.pointer none, .pointer (some ⟨w.heap.size, 0, none⟩)] 28)
  replace hq := hide hq
  replace hNu := hide hNu
  replace hK := hide hK
  replace hL := hide hL
  replace hx := hide hx
  go_enter Try.func8, Try.ntmps8
  go_wp2_with fail
  generalize (w.alloc (.cells (kcells (zeros 32) false 0 0 (.slice none 0 0) (zeros 32)) 63)).alloc _ = W at *
  have hc : W.cell? ⟨w.heap.size, 32, none⟩ = some (.bool false) := (cell_of_row _ _ _ _ _ _ hK.out).trans (kc_at _ _ _ _ _ _ 0 (by omega))
  have hp : ∀ i, i < 2 → ∃ p, W.cell? ⟨w.heap.size + 1, i, none⟩ = some (.pointer p) ∧ NoKey W p := by
    intro i hi
    rcases (by omega : i = 0 ∨ i = 1) with rfl | rfl
    · exact ⟨none, (cell_of_row _ _ _ _ _ _ hL.out).trans rfl, .inl rfl⟩
    · exact ⟨_, (cell_of_row _ _ _ _ _ _ hL.out).trans rfl, .inr ⟨_, rfl, hc⟩⟩
  replace hp := hide hp
  clear hc
  go_loopw [5] (fun s5 wr => ∃ i : Nat, i ≤ 2 ∧ s5 = .int .i64 i ∧ Ext W wr) (fun i _ => 2 - (intOf i).toNat)
  case atStart => exact ⟨0, by omega, rfl, Below.refl _ _⟩
  case round =>
    obtain ⟨i, hi, rfl, hr⟩ := hrel
    obtain ⟨w2, rfl⟩ : ∃ v, v = wr := ⟨_, rfl⟩
    by_cases hlt : i < 2
    · have hlt' : (i : Int) < 2 := by omega
      have hi0 : (0 : Int) ≤ i := by omega
      obtain ⟨p, hc, hN⟩ := hp.out i hlt
      have c2 := (hr.cell (p := ⟨w.heap.size + 1, i, none⟩) (block_lt_of_cell hc)).trans hc
      have hN2 := hide (hN.ext hr)
      clear hc hN hp
      go_wp2_with (first
        | (go_at_call 16; (with_reducible refine (sign_none p 0 (zeros 32) _ hN2.out).mono ?_); rintro r w3 ⟨rfl, hx3⟩; have c3 := (hx3.cell (p := ⟨w.heap.size + 1, i, none⟩) (block_lt_of_cell c2)).trans c2; have hN3 := hide (hN2.out.ext hx3))
        | (go_at_call 14; (with_reducible refine (root_none p _ hN3.out).mono ?_); rintro r w4 ⟨rfl, hx4⟩))
      go_roundw
      case rel => exact ⟨i + 1, by omega, by go_num, hr.then (hx3.then hx4)⟩
      case measure => simp [intOf]; omega
    · obtain rfl : i = 2 := by omega
      go_wp2_with (first
        | (go_at_call 24; (with_reducible refine (hNu.out _).mono ?_); rintro r w5 ⟨rfl, hx5⟩)
        | (go_at_call 9; (with_reducible refine (known08 _).mono ?_); rintro r w6 ⟨rfl, hx6⟩))
      go_ret
      exact ⟨rfl, hx.out.then (hr.then (hx5.then hx6))⟩
end Go.Proofs.Ytfdllhhdjiklfaa
