/- Evidence that is found: what it is, and where it lies. -/
import Derived.Test.YtgeijcielakeeaaFindP
import Derived.Test.YtgeijcielakeeaaSameV
import Derived.Test.YtgeijcielakeeaaMapK
namespace Go.Proofs.Ytgeijcielakeeaa
open Go.RowKit
set_option linter.unusedVariables false

/-- e is the evidence of the pair p. -/
structure EvIs (w : World) (L : Nat → Sg) (C : Nat → List UInt8) (p : Nat × Nat) (e : Ev) : Prop where
  k : e.k = (L p.1).k
  a : ∃ a n c, e.a = vtWith (L p.1).v a n c
  b : ∃ a n c, e.b = vtWith (L p.2).v a n c
  sa : SigIn w e.a (C p.1)
  sb : SigIn w e.b (C p.2)
theorem EvIs.ext {w w' : World} (h : Ext w w') {L : Nat → Sg} {C : Nat → List UInt8} {p : Nat × Nat} {e : Ev} (o : EvIs w L C p e) : EvIs w' L C p e := ⟨o.k, o.a, o.b, o.sa.ext h, o.sb.ext h⟩
def evsL (es : List Ev) : List Value := es.flatMap fun e => (evCells e).toList
theorem evsL_snoc (es : List Ev) (e : Ev) : evsL (es ++ [e]) = evsL es ++ (evCells e).toList := by simp [evsL]
theorem length_evsL (es : List Ev) : (evsL es).length = es.length * 168 := by
  induction es with
  | nil => rfl
  | cons e es ih => rw [evsL, List.flatMap_cons, List.length_append, ← evsL, ih, Array.length_toList, size_evCells, List.length_cons]; omega
/-- The evidence of the pairs of l. -/
def EvsAre (w : World) (L : Nat → Sg) (C : Nat → List UInt8) (l : List (Nat × Nat)) (es : List Ev) : Prop := es.length = l.length ∧ ∀ (t : Nat) (p : Nat × Nat) (e : Ev), l[t]? = some p → es[t]? = some e → EvIs w L C p e
theorem EvsAre.ext {w w' : World} (h : Ext w w') {L : Nat → Sg} {C : Nat → List UInt8} {l : List (Nat × Nat)} {es : List Ev} (o : EvsAre w L C l es) : EvsAre w' L C l es := ⟨o.1, fun t p e h1 h2 => (o.2 t p e h1 h2).ext h⟩
theorem EvsAre.snoc {w : World} {L : Nat → Sg} {C : Nat → List UInt8} {l : List (Nat × Nat)} {es : List Ev} (o : EvsAre w L C l es) {p : Nat × Nat} {e : Ev} (he : EvIs w L C p e) : EvsAre w L C (l ++ [p]) (es ++ [e]) := by
  refine ⟨by simp [o.1], fun t q f h1 h2 => ?_⟩
  by_cases ht : t < l.length
  · rw [List.getElem?_append_left ht] at h1
    rw [List.getElem?_append_left (by rw [o.1]; exact ht)] at h2
    exact o.2 t q f h1 h2
  · rw [List.getElem?_append_right (by omega)] at h1
    rw [List.getElem?_append_right (by rw [o.1]; omega)] at h2
    rw [o.1] at h2
    obtain ⟨e1, rfl⟩ := List.getElem?_eq_some_iff.1 h1
    obtain ⟨e2, rfl⟩ := List.getElem?_eq_some_iff.1 h2
    simpa using he
theorem HoldsH.mono {w : World} {b n n' : Nat} {l : List (Bs 32)} (h : HoldsH w b n l) (hn : n ≤ n') : HoldsH w b n' l := by
  obtain ⟨D, h, h1, h2⟩ := h
  exact ⟨D, h.mono hn, h1, h2⟩
end Go.Proofs.Ytgeijcielakeeaa
