/- Rows of wide elements of one's own, as cells that lie in a slice; evidence in a slice; the names of evidence. -/
import Derived.Test.YtgeijcielakeeaaFindW
import Derived.Test.YtgeijcielakeeaaContH
namespace Go.Proofs.Ytgeijcielakeeaa
open Go.RowKit
set_option linter.unusedVariables false
set_option linter.unusedSimpArgs false

section
variable {α : Type}
theorem rowsF_at (F : α → Array Value) {s : Nat} (hF : ∀ x, (F x).size = s) : ∀ (l : List α) (i : Nat) (x : α), l[i]? = some x → ((l.flatMap fun x => (F x).toList).drop (i * s)).take s = (F x).toList
  | [], i, x, h => by simp at h
  | y :: l, 0, x, h => by
    simp at h; subst h
    rw [Nat.zero_mul, List.drop_zero, List.flatMap_cons, ← hF y, ← Array.length_toList, List.take_left]
  | y :: l, i + 1, x, h => by
    simp at h
    rw [List.flatMap_cons, Nat.add_mul, Nat.one_mul, Nat.add_comm, ← List.drop_drop, ← hF y, ← Array.length_toList, List.drop_left, Array.length_toList, hF y]
    exact rowsF_at F hF l i x h
theorem own_cells {w : World} {base size : Nat} {e : TypeId} {v : Value} (F : α → Array Value) (hF : ∀ x, (F x).size = size) (l : List α) (h : w.ownsRow base e size v l.length (l.flatMap fun x => (F x).toList)) :
    ∃ a cap, v = .slice a l.length cap ∧ l.length ≤ cap ∧ cap ≤ maxLen ∧ (a = none → l.length = 0 ∧ cap = 0) ∧ (0 < l.length → ∃ ad, a = some ad ∧ ∀ i x, l[i]? = some x → CellsIn w (ad.add (i * size)) (F x)) := by
  have h' := h
  rcases h.2 with ⟨hv, h0⟩ | ⟨g, cap, cur, hv, hbg, hg, hn, hm, hsz, htk⟩
  · rw [h0]
    exact ⟨none, 0, hv, Nat.le_refl _, Nat.zero_le _, fun _ => ⟨rfl, rfl⟩, fun h => absurd h (by omega)⟩
  · subst hv
    refine ⟨_, cap, rfl, hn, hm, (fun e => by cases e), fun _ => ⟨_, rfl, fun i x hx => ?_⟩⟩
    have hi := (List.getElem?_eq_some_iff.1 hx).1
    rw [add_flat, Nat.zero_add]
    exact cells_row (rowAt_own h' i (F x) hi (rowsF_at F hF l i x hx)) (hF x)
end
def rowB (l : List (Bs 32)) : List Value := l.flatMap fun b => (bcells b).toList
theorem rowB_snoc (l : List (Bs 32)) (b : Bs 32) : rowB (l ++ [b]) = rowB l ++ (bcells b).toList := by simp [rowB]
/-- Hashes of one's own, in a slice. -/
theorem own_hashes {w : World} {base : Nat} {v : Value} (l : List (Bs 32)) (h : w.ownsRow base 26 32 v l.length (rowB l)) :
    ∃ a cap, v = .slice a l.length cap ∧ l.length ≤ cap ∧ cap ≤ maxLen ∧ HashIn w a l.length (fun i => l.getD i (zeros 32)) := by
  obtain ⟨a, cap, h1, h2, h3, _, h5⟩ := own_cells bcells (fun x => size_bcells x) l h
  refine ⟨a, cap, h1, h2, h3, fun h0 => ?_⟩
  obtain ⟨ad, e, h6⟩ := h5 h0
  exact ⟨ad, e, fun i hi => h6 i _ (by simp [hi])⟩
theorem any_getD (l : List (Bs 32)) (P : Bs 32 → Bool) : ((List.range l.length).any fun i => P (l.getD i (zeros 32))) = l.any P := by
  rw [Bool.eq_iff_iff, List.any_eq_true, List.any_eq_true]
  constructor
  · rintro ⟨i, hi, h⟩
    have hi := List.mem_range.1 hi
    exact ⟨_, List.getElem_mem hi, by simpa [List.getD, hi] using h⟩
  · rintro ⟨x, hx, h⟩
    obtain ⟨i, hi, rfl⟩ := List.getElem_of_mem hx
    exact ⟨i, List.mem_range.2 hi, by simpa [List.getD, hi] using h⟩
/-- Evidence in a slice. -/
def EvIn (w : World) (a : Option Addr) (n : Nat) (E : Nat → Ev) : Prop := 0 < n → ∃ ad, a = some ad ∧ ∀ i, i < n → CellsIn w (ad.add (i * 168)) (evCells (E i))
theorem EvIn.ext {w w' : World} (h : Ext w w') {a : Option Addr} {n : Nat} {E : Nat → Ev} (hs : EvIn w a n E) : EvIn w' a n E :=
  fun hn => let ⟨ad, e1, e2⟩ := hs hn; ⟨ad, e1, fun i hi => (e2 i hi).ext h⟩
def ev0 : Ev := ⟨zeros 32, ⟨0, 0, zeros 32, 0, zeros 32, none, 0, 0⟩, ⟨0, 0, zeros 32, 0, zeros 32, none, 0, 0⟩⟩
theorem own_evs {w : World} {base : Nat} {v : Value} (l : List Ev) (h : w.ownsRow base 42 168 v l.length (evsL l)) :
    ∃ a cap, v = .slice a l.length cap ∧ l.length ≤ cap ∧ cap ≤ maxLen ∧ EvIn w a l.length (fun i => l.getD i ev0) := by
  obtain ⟨a, cap, h1, h2, h3, _, h5⟩ := own_cells evCells size_evCells l h
  refine ⟨a, cap, h1, h2, h3, fun h0 => ?_⟩
  obtain ⟨ad, e, h6⟩ := h5 h0
  exact ⟨ad, e, fun i hi => h6 i _ (by simp [hi])⟩
/-- The keys of evidence, each once. -/
def nameL (K : Nat → Bs 32) : Nat → List (Bs 32)
  | 0 => []
  | i + 1 => if (nameL K i).any (fun x => bsEq (K i) x) then nameL K i else nameL K i ++ [K i]
theorem nameL_len (K : Nat → Bs 32) : ∀ m, (nameL K m).length ≤ m := by
  intro m
  induction m with
  | zero => simp [nameL]
  | succ m ih =>
    rw [nameL]
    split
    · omega
    · simp; omega
theorem info_hashes : (Try.prog.info? 26).map (fun i => (i.zero, i.size, i.bytes)) = some (some (.agg (bcells (zeros 32))), 32, 32) := by kernel_rfl
theorem exec_slice_H1 (ρ : Operand → Value) (d : Option Tmp) (n : Nat) (ps : Array (Nat × Operand)) (t : TypeId) (p : String) (af : Array Edge) (gd : Option (Nat × Bool)) (w : World) : (execOp ρ ⟨d, .buildSlice 38 n ps, t, p, af, gd⟩).run Try.prog w = sliceStep Try.prog 38 n (ps.map fun x => (x.1, ρ x.2)) w := exec_buildSlice _ n ρ d ps t p af gd w
theorem slice_H1 (w : World) (v : Bs 32) : sliceStep Try.prog 38 1 #[(0, .agg (bcells v))] w = .ok (.value (.slice (some ⟨w.heap.size, 0, none⟩) 1 1)) (w.alloc (.cells (bcells v) 26)) := by
  unfold sliceStep
  rw [run_buildSlice_one w 38 26 32 (.agg (bcells (zeros 32))) (bcells v) Try.underlying38 (by kernel_rfl) (by omega) (by omega) (size_bcells v)]
  rfl
end Go.Proofs.Ytgeijcielakeeaa
