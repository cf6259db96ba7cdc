/- The walk of the law on readers that are not there. -/
import Derived.Test.YtoiiapjmmjmeoaaKnown1
namespace Go.Proofs.Ytoiiapjmmjmeoaa
open Go.RowKit
set_option linter.unusedVariables false
set_option linter.unusedSimpArgs false

set_option maxHeartbeats 4000000 in
set_option maxRecDepth 100000 in
theorem rowsNone_walk (w : World) : Calls Try.prog 4 #[] w fun r w' => r = .returned (.bool true) ∧ Ext w w' := by
  go_enter Try.func4, Try.ntmps4
  go_wp2_with fail
  have hz0 := heap_alloc_new w (.cells #[.slice none 0 0, .bool false] 42)
  have hl0 := heap_alloc_new (w.alloc (.cells #[.slice none 0 0, .bool false] 42)) (.cells #[.pointer none, .pointer (some ⟨w.heap.size, 0, none⟩)] 25)
  have hx0 := (ext_alloc w (.cells #[.slice none 0 0, .bool false] 42)).then (ext_alloc _ (.cells #[.pointer none, .pointer (some ⟨w.heap.size, 0, none⟩)] 25))
  have hz1 := ((ext_alloc _ (.cells #[.pointer none, .pointer (some ⟨w.heap.size, 0, none⟩)] 25)).block _ (lt_of_block hz0)).trans hz0
  have hs : (w.alloc (.cells #[.slice none 0 0, .bool false] 42)).heap.size = w.heap.size + 1 := by simp
  rw [hs] at hl0
  go_loopw [4] (fun s4 wr => ∃ k : Nat, k ≤ 2 ∧ s4 = .int .i64 k ∧ RdrIs wr w.heap.size 0 0 none ∧ wr.heap[w.heap.size + 1]? = some (.cells #[.pointer none, .pointer (some ⟨w.heap.size, 0, none⟩)] 25 (0, 0)) ∧ Ext w wr) (fun s _ => (2 - intOf s).toNat)
  case atStart => exact ⟨0, by omega, rfl, hz1, hl0, hx0⟩
  case round =>
    obtain ⟨k, hk, rfl, hr, hb, hx⟩ := hrel
    obtain ⟨w2, rfl⟩ : ∃ w2, w2 = wr := ⟨_, rfl⟩
    rcases (by omega : k = 0 ∨ k = 1 ∨ k = 2) with rfl | rfl | rfl
    · have d1 : w2.cell? ⟨w.heap.size + 1, 0, none⟩ = some (.pointer none) := by rw [cell_of_row _ _ 0 _ _ _ hb]; rfl
      have hr0 := hide hr
      have hb0 := hide hb
      clear hr hb
      go_wp2_with (first
        | (go_at_call 17; (with_reducible refine (failed_nil _).mono ?_); rintro r w3 ⟨rfl, rfl⟩)
        | (go_at_call 18; (with_reducible refine (left_nilR _).mono ?_); rintro r w4 ⟨rfl, rfl⟩)
        | (go_at_call 11; (with_reducible refine (number_nilR 3 (by decide) (by decide) _).mono ?_); rintro r w5 ⟨rfl, m5, rfl⟩)
        | (go_at_call 13; (with_reducible refine (blob_nilR _).mono ?_); rintro r w6 ⟨rfl, m6, rfl⟩)
        | (go_at_call 15; (with_reducible refine (bytes_nilR _ _).mono ?_); rintro r w7 ⟨rfl, rfl⟩))
      exact ⟨⟨1, by omega, rfl, hr0.out.drewN _, hb0.out, hx.then (ext_drewN _ _)⟩, by simp [intOf]⟩
    · have d1 : w2.cell? ⟨w.heap.size + 1, 1, none⟩ = some (.pointer (some ⟨w.heap.size, 0, none⟩)) := by rw [cell_of_row _ _ 1 _ _ _ hb]; rfl
      have hnm : ∀ (w0 : World), RdrIs w0 w.heap.size 0 0 none → Calls Try.prog 11 #[.pointer (some ⟨w.heap.size, 0, none⟩), .int .i64 3] w0 fun r w' => NumIs w0 w.heap.size 0 0 (none, []) r w' := fun w0 h => number_any _ 0 0 none 3 w0 h
      have hbb : ∀ (w0 : World), RdrIs w0 w.heap.size 0 0 none → Calls Try.prog 13 #[.pointer (some ⟨w.heap.size, 0, none⟩)] w0 fun r w' => TakeIs w0 w.heap.size 0 0 none [] r w' := fun w0 h => blobR_any _ 0 0 none w0 h
      have hby : ∀ (w0 : World), RdrIs w0 w.heap.size 0 0 none → Calls Try.prog 15 #[.pointer (some ⟨w.heap.size, 0, none⟩), .int .i64 0] w0 fun r w' => TakeIs w0 w.heap.size 0 0 none [] r w' := fun w0 h => bytes_any _ 0 0 none 0 w0 h
      have hkeep : ∀ (w0 w1 : World), w0.heap[w.heap.size + 1]? = some (.cells #[.pointer none, .pointer (some ⟨w.heap.size, 0, none⟩)] 25 (0, 0)) → w0.grownBy w1 (some w.heap.size) → w1.heap[w.heap.size + 1]? = some (.cells #[.pointer none, .pointer (some ⟨w.heap.size, 0, none⟩)] 25 (0, 0)) := fun w0 w1 h0 hg => (hg.block _ (lt_of_block h0) (by simp)).trans h0
      have hcell : ∀ (w0 : World), w0.heap[w.heap.size + 1]? = some (.cells #[.pointer none, .pointer (some ⟨w.heap.size, 0, none⟩)] 25 (0, 0)) → w0.cell? ⟨w.heap.size + 1, 1, none⟩ = some (.pointer (some ⟨w.heap.size, 0, none⟩)) := fun w0 h => by rw [cell_of_row _ _ 1 _ _ _ h]; rfl
      have hxx : ∀ (w0 w1 : World), Ext w w0 → w0.grownBy w1 (some w.heap.size) → Ext w w1 := fun w0 w1 h hg => ext_grown h hg (fun k hk => by cases hk; omega)
      replace hb := hide hb
      replace hr := hide hr
      replace hx := hide hx
      replace hnm := hide hnm
      replace hbb := hide hbb
      replace hby := hide hby
      replace hkeep := hide hkeep
      replace hcell := hide hcell
      replace hxx := hide hxx
      go_wp2_with (first
        | (go_at_call 17; (with_reducible refine (failed_any _ 0 0 none _ hr.out).mono ?_); rintro r w3 ⟨rfl, rfl⟩)
        | (go_at_call 18; (with_reducible refine (left_any _ 0 0 none _ hr.out).mono ?_); rintro r w4 ⟨rfl, rfl⟩)
        | (go_at_call 11; (with_reducible refine (hnm.out _ hr.out).mono ?_); rintro r w5 ⟨rfl, hr5, hg5⟩; have hb5 := hkeep.out _ _ hb.out hg5; have d5 := hcell.out _ hb5; replace hr5 := hide hr5; replace hb5 := hide hb5; have hx5 := hide (hxx.out _ _ hx.out hg5); clear hg5)
        | (go_at_call 13; (with_reducible refine (hbb.out _ hr5.out).mono ?_); rintro r w6 ⟨a6, cap6, rfl, _, _, _, _, _, hr6, hg6⟩; have hb6 := hkeep.out _ _ hb5.out hg6; have d6 := hcell.out _ hb6; replace hr6 := hide hr6; replace hb6 := hide hb6; have hx6 := hide (hxx.out _ _ hx5.out hg6); clear hg6)
        | (go_at_call 15; (with_reducible refine (hby.out _ hr6.out).mono ?_); rintro r w7 ⟨a7, cap7, rfl, _, _, _, _, _, hr7, hg7⟩; have hb7 := hkeep.out _ _ hb6.out hg7; replace hr7 := hide hr7; replace hb7 := hide hb7; have hx7 := hide (hxx.out _ _ hx6.out hg7); clear hg7))
      exact ⟨⟨2, by omega, rfl, hr7.out, hb7.out, hx7.out⟩, by simp [intOf]⟩
    · have hrd : ∀ (w0 : World), Calls Try.prog 10 #[.slice none 0 0] w0 fun r w' => ∃ p g, r = .returned (.pointer (some ⟨p, 0, none⟩)) ∧ w0.heap.size ≤ p ∧ RdrIs w' p g 0 (some []) ∧ Ext w0 w' := fun w0 =>
        (read_any none 0 0 [] w0 (fun _ => ⟨rfl, rfl⟩) (by decide) (bytes_none _ _)).mono fun r w' hp => let ⟨p, g, hr, h1, _, _, _, h2, h3⟩ := hp; ⟨p, g, hr, h1, h2, h3⟩
      have hby : ∀ (w0 : World) (p g : Nat), RdrIs w0 p g 0 (some []) → Calls Try.prog 15 #[.pointer (some ⟨p, 0, none⟩), .int .i64 0] w0 fun r w' => TakeIs w0 p g 0 (some []) [] r w' := fun w0 p g h => bytes_any p g 0 (some []) 0 w0 h
      have hZ := hx.size
      have hZ2 := lt_of_block hr
      have hrx : ∀ (w0 : World), Ext w2 w0 → RdrIs w0 w.heap.size 0 0 none := fun w0 h => (h.block _ hZ2).trans hr
      replace hrd := hide hrd
      replace hby := hide hby
      replace hrx := hide hrx
      have hrr := hide hr
      clear hr hb
      go_wp2_with (first
        | (go_at_call 9; (with_reducible refine (known1_any _).mono ?_); rintro r w8 ⟨rfl, hx8⟩)
        | (go_at_call 20; (with_reducible refine (code_any _ _).mono ?_); rintro r wc ⟨rfl, rfl⟩)
        | (go_at_call 10; (with_reducible refine (hrd.out _).mono ?_); rintro r w3 ⟨p, g, rfl, hp3, hr3, hx3⟩; have hrz := hide (hrx.out _ hx3); replace hr3 := hide hr3)
        | (go_at_call 21; (with_reducible refine (end_nilR _).mono ?_); rintro r w4 ⟨rfl, rfl⟩)
        | (go_at_call 21; (with_reducible refine (end_any _ 0 0 none _ hrz.out).mono ?_); rintro r w4 ⟨rfl, rfl⟩)
        | (go_at_call 21; (with_reducible refine (end_any p g 0 (some []) _ hr3.out).mono ?_); rintro r w4 ⟨rfl, rfl⟩)
        | (go_at_call 17; (with_reducible refine (failed_any p g 0 (some []) _ hr3.out).mono ?_); rintro r w5 ⟨rfl, rfl⟩)
        | (go_at_call 15; (with_reducible refine (hby.out _ p g hr3.out).mono ?_); rintro r w6 ⟨a6, cap6, rfl, _, _, _, _, _, hr6, hg6⟩; have hx6 := ext_grown (hx.then hx3) hg6 (fun k hk => by cases hk; omega); clear hg6)
        | (go_at_call 21; (with_reducible refine (end_any p g 0 (some []) _ hr6).mono ?_); rintro r w4 ⟨rfl, rfl⟩))
      go_ret
      exact ⟨rfl, hx6.then hx8⟩
end Go.Proofs.Ytoiiapjmmjmeoaa
