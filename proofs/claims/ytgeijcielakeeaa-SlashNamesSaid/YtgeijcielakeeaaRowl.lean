/- Rows of wide elements: an own slice of structs read element by element, a slice of one struct put together; a slice of numbers that came in. Of whatever program. -/
import Derived.Test.YtgeijcielakeeaaAgg
import Derived.Deep.AppendLies
import Derived.Deep.Slices
import Derived.StillTailTactics
namespace Go.Proofs.Ytgeijcielakeeaa
open Go.RowKit Go.ChangeShapes Go.WideShapes
set_option linter.unusedVariables false
set_option linter.unusedSimpArgs false

/-- The cells of so many elements, one behind the other. -/
def rowsL (f : Nat → Array Value) : Nat → List Value
  | 0 => []
  | n + 1 => rowsL f n ++ (f n).toList
theorem length_rowsL {f : Nat → Array Value} {s : Nat} (hf : ∀ i, (f i).size = s) (n : Nat) : (rowsL f n).length = n * s := by
  induction n with
  | zero => simp [rowsL]
  | succ n ih => simp [rowsL, ih, hf, Nat.succ_mul]
theorem rowsL_at {f : Nat → Array Value} {s : Nat} (hf : ∀ i, (f i).size = s) (n j : Nat) (hj : j < n) : ((rowsL f n).drop (j * s)).take s = (f j).toList := by
  induction n with
  | zero => omega
  | succ n ih =>
    rw [rowsL]
    have hl := length_rowsL hf n
    by_cases h : j = n
    · subst h
      rw [← hl, List.drop_left, List.take_of_length_le (by simp [hf])]
    · have hjn : j < n := by omega
      have h1 : j * s + s ≤ n * s := by have := Nat.mul_le_mul_right s (show j + 1 ≤ n by omega); rw [Nat.succ_mul] at this; exact this
      rw [List.drop_append_of_le_length (by omega), List.take_append_of_le_length (by simp; omega), ih hjn]

theorem rowAt_own {w : World} {base g cap n size : Nat} {e : TypeId} {xs : List Value} (h : w.ownsRow base e size (.slice (some ⟨g, 0, none⟩) n cap) n xs) (j : Nat) (cs : Array Value) (hj : j < n)
    (hcs : (xs.drop (j * size)).take size = cs.toList) : rowAt w g (j * size) size = some cs := by
  rcases h.2 with ⟨hv, _⟩ | ⟨g', cap', cur, hv, _, hg, hn, _, hsz, htk⟩
  · cases hv
  · simp only [Value.slice.injEq, Option.some.injEq, Addr.mk.injEq, and_true] at hv
    obtain ⟨rfl, _, rfl⟩ := hv
    have h1 : j * size + size ≤ n * size := by have := Nat.mul_le_mul_right size (show j + 1 ≤ n by omega); rw [Nat.succ_mul] at this; exact this
    have h2 : n * size ≤ cap * size := Nat.mul_le_mul_right size hn
    unfold rowAt
    rw [hg]
    simp only
    rw [if_pos (by omega)]
    congr 1
    apply Array.ext'
    rw [Array.toList_extract, List.extract_eq_take_drop, ← hcs, ← htk, List.drop_take, List.take_take]
    congr 1
    omega
theorem rowAt_rows {w : World} {base g cap n size : Nat} {e : TypeId} {f : Nat → Array Value} (hf : ∀ i, (f i).size = size) (h : w.ownsRow base e size (.slice (some ⟨g, 0, none⟩) n cap) n (rowsL f n)) (j : Nat) (hj : j < n) : rowAt w g (j * size) size = some (f j) :=
  rowAt_own h j (f j) hj (rowsL_at hf n j hj)

theorem grown_ext {w w' : World} (h : Ext w w') (row : Option Nat) : w.grownBy w' row := ⟨h.os, h.tape, h.output, h.size, fun k hk _ => h.block k hk⟩
theorem own_ext {w w' : World} (h : Ext w w') {base n size : Nat} {e : TypeId} {v : Value} {xs : List Value} (ho : w.ownsRow base e size v n xs) : w'.ownsRow base e size v n xs :=
  ho.kept (grown_ext h none) (by cases v.ownBlock <;> simp)
/-- What is grown, but for a row that came later than the call, is as it was below. -/
theorem ext_grown {W w w' : World} {row : Option Nat} (h : Ext W w) (hg : w.grownBy w' row) (hrow : ∀ k, row = some k → W.heap.size ≤ k) : Ext W w' :=
  h.grown hg h.size hrow

theorem cell_of_rowAt' {w : World} {g o n : Nat} {cs : Array Value} (h : rowAt w g o n = some cs) (j : Nat) (hj : j < n) : w.cell? ⟨g, o + j, none⟩ = cs[j]? := by
  unfold rowAt at h
  split at h
  · rename_i row t fr hg
    split at h
    · simp only [Option.some.injEq] at h
      rw [cell_of_row w g (o + j) row t fr hg, ← h, Array.getElem?_extract, if_pos (by omega)]
    · simp at h
  · simp at h

/-! ### A slice of one wide element -/
theorem getElem?_setAll (l : List Value) (off : Nat) : ∀ (k : Nat) (A : Array Value), off + k + l.length ≤ A.size → ∀ i, ((l.zipIdx k).foldl (fun (cs : Array Value) (p : Value × Nat) => cs.setIfInBounds (off + p.2) p.1) A)[i]? = if off + k ≤ i ∧ i < off + k + l.length then l[i - (off + k)]? else A[i]? := by
  induction l with
  | nil => intro k A h i; simp; intro h1 h2; omega
  | cons x l ih =>
    intro k A h i
    simp only [List.length_cons] at h
    rw [List.zipIdx_cons, List.foldl_cons, ih (k + 1) _ (by simp; omega)]
    simp only [List.length_cons]
    by_cases h1 : off + (k + 1) ≤ i ∧ i < off + (k + 1) + l.length
    · rw [if_pos h1, if_pos (by omega), show i - (off + k) = (i - (off + (k + 1))) + 1 by omega, List.getElem?_cons_succ]
    · rw [if_neg h1, Array.getElem?_setIfInBounds]
      by_cases h2 : off + k = i
      · subst h2; rw [if_pos rfl, if_pos (by omega), if_pos (by omega)]; simp
      · rw [if_neg h2, if_neg (by omega)]
theorem setAll_full (cs A : Array Value) (h : cs.size = A.size) : cs.zipIdx.foldl (fun (B : Array Value) (p : Value × Nat) => B.setIfInBounds (0 + p.2) p.1) A = cs := by
  apply Array.ext_getElem?
  intro i
  rw [← Array.foldl_toList, Array.toList_zipIdx, getElem?_setAll _ _ _ _ (by simp; omega)]
  split
  · simp
  · rename_i hn
    simp at hn
    rw [Array.getElem?_eq_none (by omega), Array.getElem?_eq_none (by omega)]

theorem run_buildSlice_one {P : Program} (w : World) (t e n : Nat) (z : Value) (cs : Array Value) (ht : P.underlying t = some (.slice e)) (hi : (P.info? e).map (fun i => (i.zero, i.size)) = some (some z, n))
    (hn : 0 < n) (hm : n ≤ 2 ^ 24) (hcs : cs.size = n) : (Instr.buildSlice t 1 #[(0, .agg cs)]).run P w = .ok (.slice (some ⟨w.heap.size, 0, none⟩) 1 1) (w.alloc (.cells cs e)) := by
  cases hq : P.info? e with
  | none => simp [hq] at hi
  | some i =>
    simp [hq] at hi
    obtain ⟨hz, hs⟩ := hi
    have h1 : (sizeOf e).run P w = .ok n w := by simp [sizeOf, typeInfo, hq, hs]
    have h2 : (zeroValue e).run P w = .ok z w := by simp [zeroValue, typeInfo, hq, hz]
    have h3 : Instr.fill (fun i => some (i * n, n)) ((Array.range (1 * n)).map (z.cells[· % z.cells.size]!)) [(0, .agg cs)] = some cs := by
      unfold Instr.fill
      simp only [Value.cells, hcs]
      rw [if_neg (by simp)]
      have e1 := setAll_full cs ((Array.range (1 * n)).map (z.cells[· % z.cells.size]!)) (by simp [hcs])
      simp only [Instr.fill, Nat.zero_mul]
      exact congrArg some e1
    unfold Instr.buildSlice
    simp only [Sem.run_bind, run_underlying ht, Result.andThen_ok, h1, h2]
    rw [if_neg (by omega), if_neg (by omega)]
    simp only [Sem.run_bind, Result.andThen_ok, h2, Sem.run_pure]
    simp only [h3]
    rfl
def sliceStep (P : Program) (ty : TypeId) (n : Nat) (parts : Array (Nat × Value)) (w : World) : Result Next := ((Instr.buildSlice ty n parts).run P w).andThen fun a w' => .ok (.value a) w'
theorem exec_buildSlice {P : Program} (ty : TypeId) (n : Nat) (ρ : Operand → Value) (d : Option Tmp) (ps : Array (Nat × Operand)) (t : TypeId) (p : String) (af : Array Edge) (gd : Option (Nat × Bool)) (w : World) :
    (execOp ρ ⟨d, .buildSlice ty n ps, t, p, af, gd⟩).run P w = sliceStep P ty n (ps.map fun x => (x.1, ρ x.2)) w := by
  unfold sliceStep execOp
  simp only [Sem.run_bind, Sem.run_pure]

/-! ### A slice of numbers that came in -/
section
variable {H : Type} {enc : TypeId × Value → H} {P : Program} {w : World} {base : Nat} {spare : Nat → Bool} {held : Bool}
theorem open_ints {t e : TypeId} {k : IntKind} {fuel : Nat} {cs : List Value} {x : DataW H × List MemPlace} (ht : P.underlying t = some (.slice e)) (he : P.underlying e = some (.int k)) (hc : P.cellsOf e = 1)
    (h : DataW.trod enc P w base spare held fuel t cs = some x) :
    ∃ (a : Option Addr) (n cap : Nat) (E : Nat → Int), cs = [.slice a n cap] ∧ n ≤ cap ∧ cap ≤ maxLen ∧ (a = none → n = 0 ∧ cap = 0) ∧ (∀ ad, a = some ad → ∀ i, i < n → w.cell? (ad.add i) = some (.int k (E i))) ∧ ∀ i, i < n → (Lit.int k (E i)).wf = true := by
  rcases Deep.open_slice1 ht hc h with ⟨rfl, _⟩ | ⟨a, len, cap, m, n, V, D, Pl, rfl, _, hl, hm, hmm, _, hx⟩
  · exact ⟨none, 0, 0, fun _ => 0, rfl, Nat.le_refl _, Nat.zero_le _, fun _ => ⟨rfl, rfl⟩, fun _ h => (by cases h), fun i hi => by omega⟩
  · have hmle : len ≤ m := by rw [hmm]; split <;> omega
    have hv : ∀ i, i < len → ∃ z : Int, V i = .int k z ∧ (Lit.int k z).wf = true := by
      intro i hi
      obtain ⟨z, hz, _, hw⟩ := DataW.trod_int he (hx i (by omega)).2
      simp only [List.cons.injEq, and_true] at hz
      exact ⟨z, hz, hw⟩
    obtain ⟨E, hE⟩ := Deep.choose_lt (α := Int) (p := fun i z => V i = .int k z ∧ (Lit.int k z).wf = true) hv
    refine ⟨some a, len, cap, E, rfl, hl, hm, fun h => (by cases h), ?_, fun i hi => (hE i hi).2⟩
    intro ad had i hi
    cases had
    rw [(hx i (by omega)).1, (hE i hi).1]
theorem ints_arg {W : World} {t e : TypeId} {k : IntKind} {v : Value} {d : DataW H} {p : List MemPlace} {r : Reach} {b0 : Nat} (ht : P.underlying t = some (.slice e)) (he : P.underlying e = some (.int k)) (hc : P.cellsOf e = 1)
    (ho : Value.okWide P W r b0 t v) (h : DataW.Trod enc P W 0 (fun _ => true) true t v d p) :
    ∃ (a : Option Addr) (n cap : Nat) (E : Nat → Int), v = .slice a n cap ∧ n ≤ cap ∧ cap ≤ maxLen ∧ (a = none → n = 0 ∧ cap = 0) ∧ ∀ ad, a = some ad → ∀ i, i < n → W.cell? (ad.add i) = some (.int k (E i)) := by
  obtain ⟨a, n, cap, rfl⟩ := okWide_slice ht ho
  obtain ⟨fuel, hf⟩ := h
  obtain ⟨a', n', cap', E, hc', h1, h2, h3, h4, _⟩ := open_ints ht he hc hf
  simp only [Value.cells, List.cons.injEq, Value.slice.injEq, and_true] at hc'
  obtain ⟨rfl, rfl, rfl⟩ := hc'
  exact ⟨a, n, cap, E, rfl, h1, h2, h3, h4⟩
end
end Go.Proofs.Ytgeijcielakeeaa
