/- slices.Index and slices.Contains over hashes. -/
import Derived.Test.YtgeijcielakeeaaIndexF
import Derived.Test.YtgeijcielakeeaaCloneV
namespace Go.Proofs.Ytgeijcielakeeaa
open Go.RowKit
set_option linter.unusedVariables false
set_option linter.unusedSimpArgs false
set_option maxRecDepth 100000

/-- Hashes that lie in a slice. -/
def HashIn (w : World) (a : Option Addr) (n : Nat) (X : Nat → Bs 32) : Prop := 0 < n → ∃ ad, a = some ad ∧ ∀ i, i < n → CellsIn w (ad.add (i * 32)) (bcells (X i))
theorem HashIn.ext {w w' : World} (h : Ext w w') {a : Option Addr} {n : Nat} {X : Nat → Bs 32} (hs : HashIn w a n X) : HashIn w' a n X :=
  fun hn => let ⟨ad, e1, e2⟩ := hs hn; ⟨ad, e1, fun i hi => (e2 i hi).ext h⟩
theorem bc_whole' {n : Nat} (o : Bs n) : (bcells o).extract 0 n = bcells o := by
  apply Array.ext'
  rw [Array.toList_extract, List.extract_eq_take_drop, List.drop_zero, List.take_of_length_le]
  rw [Array.length_toList, size_bcells]; omega
attribute [local go_sem ↓] loadCells_blk
attribute [local go_sem] run_blkLoad rowAt_new rowAt_old rowAt_drew size_bcells bc_whole'
set_option maxHeartbeats 4000000 in
theorem indexH_any (h : Bs 32) (a : Option Addr) (n cap : Nat) (X : Nat → Bs 32) (w : World) (hn : n ≤ 1000) (hX : HashIn w a n X) :
    Calls Try.prog 20 #[.slice a n cap, .agg (bcells h)] w fun r w' => r = .returned (.int .i64 (firstI (fun i => bsEq h (X i)) n)) ∧ Ext w w' := by
  have hx := ext_alloc w (.cells (bcells h) 26)
  have rH := rowAt_whole' (heap_alloc_new w (.cells (bcells h) 26)) (size_bcells h)
  go_enter Try.func20, Try.ntmps20
  go_wp2_with fail
  go_loopw [5, 8] (fun s5 s8 wr => ∃ k : Nat, k ≤ n ∧ s8 = .int .i64 k ∧ (∀ j, j < k → bsEq h (X j) = false) ∧ rowAt wr w.heap.size 0 32 = some (bcells h) ∧ Ext w wr) (fun _ s _ => (n - intOf s).toNat)
  case atStart => exact ⟨0, by omega, rfl, fun j hj => absurd hj (by omega), rH, hx⟩
  case round =>
    clear rH hx
    obtain ⟨k, hk, rfl, hA, rH, hx⟩ := hrel
    obtain ⟨w2, rfl⟩ : ∃ v, v = wr := ⟨_, rfl⟩
    by_cases hlt : k < n
    · have hlt' : (k : Int) < n := by omega
      have hk0 : (0 : Int) ≤ k := by omega
      obtain ⟨ad, rfl, hc⟩ := hX (by omega)
      have hld := load_cells ((hc k hlt).ext hx) (size_bcells _)
      have hld2 := load_cells (((hc k hlt).ext hx).ext (ext_drew _)) (size_bcells _)
      have rH2 : rowAt w2.drew w.heap.size 0 32 = some (bcells h) := rH
      have hx2 := hx.then (ext_drew w2)
      have eq2 : ∀ w', (Op.equalIn 10000 26 (.agg (bcells h)) (.agg (bcells (X k)))).run Try.prog w' = .ok (bsEq h (X k)) w' := fun w' => equal_hashF w' _ _
      cases hq : bsEq h (X k)
      · rw [hq] at eq2
        go_wp2_with fail
        go_region_with fail
        all_goals
          go_wp2_with fail
          go_roundw
          case rel => exact ⟨k + 1, by omega, by go_num, fun j hj => by
            by_cases e : j = k
            · subst e; exact hq
            · exact hA j (by omega), rH2, hx2⟩
          case measure => simp [intOf]; omega
      · rw [hq] at eq2
        go_wp2_with fail
        go_region_with fail
        all_goals
          go_wp2_with fail
          go_ret
          exact ⟨by rw [firstI_hit hlt hq hA]; rfl, hx2⟩
    · obtain rfl : k = n := by omega
      have hlt' : ¬ (k : Int) < k := by omega
      go_wp2_with fail
      go_ret
      exact ⟨by rw [firstI_none hA]; rfl, hx⟩
theorem firstI_any (P : Nat → Bool) (n : Nat) : decide (0 ≤ firstI P n) = (List.range n).any P := by
  unfold firstI
  cases h : (List.range n).find? P with
  | none =>
    rw [List.find?_eq_none] at h
    have : (List.range n).any P = false := by rw [List.any_eq_false]; exact h
    rw [this]; rfl
  | some i =>
    have h1 := List.find?_some h
    have h2 := List.mem_of_find?_eq_some h
    have : (List.range n).any P = true := List.any_eq_true.2 ⟨i, h2, h1⟩
    rw [this]; simp
theorem containsH_any (h : Bs 32) (a : Option Addr) (n cap : Nat) (X : Nat → Bs 32) (w : World) (hn : n ≤ 1000) (hX : HashIn w a n X) :
    Calls Try.prog 16 #[.slice a n cap, .agg (bcells h)] w fun r w' => r = .returned (.bool ((List.range n).any fun i => bsEq h (X i))) ∧ Ext w w' := by
  have hx := hide (ext_alloc w (.cells (bcells h) 26))
  have rH := rowAt_whole' (heap_alloc_new w (.cells (bcells h) 26)) (size_bcells h)
  have hc := hide (indexH_any h a n cap X _ hn (hX.ext hx.out))
  rw [← firstI_any]
  generalize firstI (fun i => bsEq h (X i)) n = q at *
  by_cases hq : 0 ≤ q
  · go_enter Try.func16, Try.ntmps16
    go_wp2_with (go_at_call 20; (with_reducible refine hc.out.mono ?_); rintro r w2 ⟨rfl, h2⟩)
    go_ret
    exact ⟨ret_bool (by simp [hq]), hx.out.then h2⟩
  · go_enter Try.func16, Try.ntmps16
    go_wp2_with (go_at_call 20; (with_reducible refine hc.out.mono ?_); rintro r w2 ⟨rfl, h2⟩)
    go_ret
    exact ⟨ret_bool (by simp [hq]), hx.out.then h2⟩
end Go.Proofs.Ytgeijcielakeeaa
