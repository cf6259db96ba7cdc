/- The walk of slices.Reverse over hashes. -/
import Derived.Test.YtldcaoclimcahaaClash
import Derived.Test.YtldcaoclimcahaaKnown7
import Derived.Test.YtldcaoclimcahaaDown
import Derived.Deep.RegionWith
namespace Go.Proofs.Ytldcaoclimcahaa
open Go.RowKit
set_option linter.unusedVariables false
set_option linter.unusedSimpArgs false

theorem row_at : ∀ (l : List (Bs 32)) (x : Nat), x < l.length → ((rowB l).drop (x * 32)).take 32 = (bcells (l.getD x (zeros 32))).toList
  | [], x, h => absurd h (by simp)
  | b :: l, x, h => by
    have hb : (bcells b).toList.length = 32 := by rw [Array.length_toList, size_bcells]
    have e : rowB (b :: l) = (bcells b).toList ++ rowB l := by simp [rowB]
    rw [e]
    cases x with
    | zero => rw [Nat.zero_mul, List.drop_zero, List.take_append_of_le_length (by omega), List.take_of_length_le (by omega)]; rfl
    | succ x =>
      rw [List.drop_append, List.drop_eq_nil_of_le (by omega), List.nil_append, hb, show (x + 1) * 32 - 32 = x * 32 by omega, row_at l x (by simpa using h)]
      rfl
/-- A block holds so many hashes ahead. -/
def RowF (w : World) (g z m : Nat) (f : Nat → Bs 32) : Prop := ∃ C : Array Value, w.heap[g]? = some (.cells C 28 (0, 0)) ∧ (C.size = z ∧ m * 32 ≤ C.size) ∧ ∀ x, x < m → C.extract (x * 32) (x * 32 + 32) = bcells (f x)
theorem RowF.row {w : World} {g z m : Nat} {f : Nat → Bs 32} (h : RowF w g z m f) (x : Nat) (hx : x < m) : rowAt w g (x * 32) 32 = some (bcells (f x)) := by
  obtain ⟨C, h1, h2, h3⟩ := h
  unfold rowAt
  rw [h1]
  simp only
  rw [if_pos (by omega), h3 x hx]
theorem RowF.put {w : World} {g z m : Nat} {f : Nat → Bs 32} (h : RowF w g z m f) (x : Nat) (hx : x < m) (b : Bs 32) : ∃ C' : Array Value, (storeCells ⟨g, x * 32, none⟩ (bcells b).toList).run Try.prog w = .ok () (w.setRow g C') ∧ RowF (w.setRow g C') g z m (fun y => if y = x then b else f y) := by
  obtain ⟨C, h1, h2, h3⟩ := h
  have hl : (bcells b).toList.length = 32 := by rw [Array.length_toList, size_bcells]
  refine ⟨_, store_cells_at w g (x * 32) _ C _ h1 (by omega), _, setRow_heap _ _ _ _ _ _ h1, by rw [size_putA _ _ _ (by rw [hl]; omega)]; exact h2, fun y hy => ?_⟩
  show _ = bcells (if y = x then b else f y)
  by_cases hyx : y = x
  · subst hyx; rw [if_pos rfl]; exact row_putA_same _ _ _ (by omega)
  · rw [if_neg hyx, row_putA_other _ _ _ _ (by rw [hl]; omega) (by rw [hl]; omega) (by omega), h3 y hy]
theorem RowF.congr {w : World} {g z m : Nat} {f f' : Nat → Bs 32} (h : RowF w g z m f) (e : ∀ x, x < m → f' x = f x) : RowF w g z m f' := by
  obtain ⟨C, h1, h2, h3⟩ := h
  exact ⟨C, h1, h2, fun x hx => by rw [h3 x hx, e x hx]⟩
theorem RowF.drew {w : World} {g z m : Nat} {f : Nat → Bs 32} (h : RowF w g z m f) : RowF w.drew g z m f := h
/-- An own row of hashes is such a block, and the other way round. -/
theorem rowF_own {w : World} {base g cap : Nat} {l : List (Bs 32)} (h : w.ownsRow base 28 32 (.slice (some ⟨g, 0, none⟩) l.length cap) l.length (rowB l)) : RowF w g (cap * 32) l.length (fun x => l.getD x (zeros 32)) := by
  rcases h.2 with ⟨hv, _⟩ | ⟨g', cap', cur, hv, hb, hg, hnc, hcm, hcs, htake⟩
  · cases hv
  · simp only [Value.slice.injEq, Option.some.injEq, Addr.mk.injEq, and_true, true_and] at hv
    obtain ⟨rfl, rfl⟩ := hv
    have h1 : l.length * 32 ≤ cap * 32 := Nat.mul_le_mul_right _ hnc
    refine ⟨cur, hg, ⟨hcs, by omega⟩, fun x hx => ?_⟩
    have h2 : x * 32 + 32 ≤ l.length * 32 := by omega
    apply Array.ext'
    rw [Array.toList_extract, List.extract_eq_take_drop]
    have h3 : ((cur.toList.take (l.length * 32)).drop (x * 32)).take 32 = (cur.toList.drop (x * 32)).take 32 := by
      rw [List.drop_take, List.take_take]; congr 1; omega
    rw [show x * 32 + 32 - x * 32 = 32 by omega, ← h3, htake]
    exact row_at l x hx
theorem own_rowF {w : World} {base g cap m : Nat} {f : Nat → Bs 32} (h : RowF w g (cap * 32) m f) (hb : base ≤ g) (hmc : m ≤ cap) (hcm : cap ≤ maxLen) : w.ownsRow base 28 32 (.slice (some ⟨g, 0, none⟩) m cap) m (rowB ((List.range m).map f)) := by
  obtain ⟨C, h1, ⟨h2, h3⟩, h4⟩ := h
  refine ⟨by rw [length_rowB]; simp, .inr ⟨g, cap, C, rfl, hb, h1, hmc, hcm, h2, ?_⟩⟩
  have : ∀ n, n ≤ m → C.toList.take (n * 32) = rowB ((List.range n).map f) := by
    intro n
    induction n with
    | zero => intro _; simp [rowB]
    | succ n ih =>
      intro hn
      rw [List.range_succ, List.map_append, List.map_singleton, rowB_snoc, ← ih (by omega), ← h4 n (by omega), Array.toList_extract, List.extract_eq_take_drop, show (n + 1) * 32 = n * 32 + 32 by omega, List.take_add, show n * 32 + 32 - n * 32 = 32 by omega]
  exact this m (Nat.le_refl _)
attribute [local go_sem ↓] loadCells_blk
attribute [local go_sem] run_blkLoad rowAt_drew size_bcells
set_option maxHeartbeats 4000000 in
set_option maxRecDepth 100000 in
theorem reverse_none (w : World) : Calls Try.prog 55 #[.slice none 0 0] w fun r w' => r = .returned (.tuple #[]) ∧ w' = w := by
  go_enter Try.func55, Try.ntmps55
  go_wp2_with fail
  go_loopw [2, 3] (fun s2 s3 wr => s2 = .int .i64 0 ∧ s3 = .int .i64 (-1) ∧ wr = w) (fun _ _ _ => 0)
  case atStart => exact ⟨rfl, by go_num, rfl⟩
  case round =>
    obtain ⟨rfl, rfl, rfl⟩ := hrel
    go_wp2_with fail
    go_end0
    exact ⟨rfl, rfl⟩
set_option maxHeartbeats 4000000 in
set_option maxRecDepth 100000 in
theorem reverse_any (W w : World) (g z m cap : Nat) (f : Nat → Bs 32) (hm : m ≤ 1000) (hmc : m ≤ cap) (hcap : cap ≤ maxLen) (hx : Ext W w) (hWg : W.heap.size ≤ g) (h : RowF w g z m f) :
    Calls Try.prog 55 #[.slice (some ⟨g, 0, none⟩) m cap] w fun r w' => r = .returned (.tuple #[]) ∧ RowF w' g z m (fun x => f (m - 1 - x)) ∧ (∀ k, k ≠ g → w'.heap[k]? = w.heap[k]?) ∧ Ext W w' := by
  replace h := hide h
  go_enter Try.func55, Try.ntmps55
  have j1 : IntKind.i64.wrap ((m : Int) - 1) = (m : Int) - 1 := by rw [IntKind.wrap_i64]; omega
  go_wp2_with fail
  go_loopw [2, 3] (fun s2 s3 wr => ∃ (i : Nat), i ≤ m ∧ s2 = .int .i64 i ∧ s3 = .int .i64 ((m : Int) - 1 - i) ∧ RowF wr g z m (fun x => if x < i ∨ m - 1 - i < x then f (m - 1 - x) else f x) ∧ (i ≤ m - i + 1) ∧ (∀ k, k ≠ g → wr.heap[k]? = w.heap[k]?) ∧ Ext W wr) (fun s _ _ => (m - intOf s).toNat)
  case atStart => exact ⟨0, by omega, rfl, by go_num, h.out.congr (fun x hx => by rw [if_neg (by omega)]), by omega, fun _ _ => rfl, hx⟩
  case round =>
    obtain ⟨i, hi, rfl, rfl, hr, hii, hk, hxr⟩ := hrel
    obtain ⟨w2, rfl⟩ : ∃ w2, w2 = wr := ⟨_, rfl⟩
    by_cases hlt : (i : Int) < (m : Int) - 1 - i
    · obtain ⟨j, hj⟩ : ∃ j : Nat, j = m - 1 - i := ⟨_, rfl⟩
      have hji : (m : Int) - 1 - i = j := by omega
      rw [hji] at hlt ⊢
      have hi0 : (0 : Int) ≤ i := by omega
      have hj0 : (0 : Int) ≤ j := by omega
      have him : (i : Int) < m := by omega
      have hjm : (j : Int) < m := by omega
      have q1 : IntKind.i64.wrap ((j : Int) - 1) = (m : Int) - 1 - ((i + 1 : Nat) : Int) := by rw [IntKind.wrap_i64]; omega
      have q2 : (j : Int) - 1 = (m : Int) - 1 - ((i + 1 : Nat) : Int) := by omega
      have ri := hr.row i (by omega)
      have rj := hr.row j (by omega)
      have ei : (if i < i ∨ m - 1 - i < i then f (m - 1 - i) else f i) = f i := if_neg (by omega)
      have ej : (if j < i ∨ m - 1 - i < j then f (m - 1 - j) else f j) = f j := if_neg (by omega)
      rw [ei] at ri
      rw [ej] at rj
      obtain ⟨C1, s1, hr1⟩ := hr.drew.put i (by omega) (f j)
      obtain ⟨C2, s2, hr2⟩ := hr1.put j (by omega) (f i)
      have hfin : RowF ((w2.drew.setRow g C1).setRow g C2) g z m (fun x => if x < i + 1 ∨ m - 1 - (i + 1) < x then f (m - 1 - x) else f x) := hr2.congr (fun x hx => by
        by_cases h1 : x = j
        · rw [if_pos (by omega), if_pos h1]; exact congrArg f (by omega)
        · by_cases h2 : x = i
          · rw [if_pos (by omega), if_neg h1, if_pos h2]; exact congrArg f (by omega)
          · rw [if_neg h1, if_neg h2]
            by_cases h3 : x < i ∨ m - 1 - i < x
            · rw [if_pos (by omega), if_pos h3]
            · rw [if_neg (by omega), if_neg h3])
      have hkk : ∀ k, k ≠ g → ((w2.drew.setRow g C1).setRow g C2).heap[k]? = w.heap[k]? := fun k hkg => (setRow_other _ _ _ _ hkg).trans ((setRow_other _ _ _ _ hkg).trans (hk k hkg))
      have hxx : Ext W ((w2.drew.setRow g C1).setRow g C2) := below_setRow (below_setRow (hxr.then (ext_drew w2)) hWg _) hWg _
      clear hr hr1 hr2 ei ej
      replace hfin := hide hfin
      replace hkk := hide hkk
      replace hji := hide hji
      replace hj := hide hj
      go_wp2_with fail
      go_region_with (fail)
      all_goals
        go_wp2_with fail
        go_roundw
        case rel => exact ⟨i + 1, by omega, by go_num, by first | (rw [q2]; done) | go_num, hfin.out, by have := hj.out; omega, hkk.out, hxx⟩
        case measure => simp [intOf]; omega
    · go_wp2_with fail
      go_end0
      refine ⟨rfl, hr.congr (fun x hx => ?_), hk, hxr⟩
      by_cases h1 : x < i ∨ m - 1 - i < x
      · rw [if_pos h1]
      · rw [if_neg h1]; exact congrArg f (by omega)
end Go.Proofs.Ytldcaoclimcahaa
