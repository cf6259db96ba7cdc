/- Arguments opened: a slice of bytes, a slice of slices of bytes, a byte. -/
import Derived.Test.YtclghfnmmnnceaaOpen
import Derived.Test.YtclghfnmmnnceaaByt
namespace Go.Proofs.Ytclghfnmmnnceaa
open Go.ChangeShapes Go.WideShapes Go.ChangeAt Go.RowKit
set_option linter.unusedVariables false
section
variable {H : Type} {enc : TypeId × Value → H} {W : World} {v : Value} {d : DataW H} {p : List MemPlace}
theorem wf_u8 {z : Int} (h : (Lit.int .u8 z).wf = true) : ∃ b : UInt8, z = (b.toNat : Int) := by
  have hb : 0 ≤ z ∧ z ≤ 255 := by simpa [Lit.wf, IntKind.min, IntKind.max, IntKind.signed, IntKind.bits] using h
  refine ⟨UInt8.ofNat z.toNat, ?_⟩
  rw [UInt8.toNat_ofNat']
  omega
theorem bytes_of {t : TypeId} {base fuel : Nat} {spare : Nat → Bool} {held : Bool} {cs : List Value} {x : DataW H × List MemPlace} (ht : Try.prog.underlying t = some (.slice 5)) (h : DataW.trod enc Try.prog W base spare held fuel t cs = some x) :
    ∃ (a : Option Addr) (n cap : Nat) (c : List UInt8), cs = [.slice a n cap] ∧ n ≤ cap ∧ cap ≤ maxLen ∧ (a = none → n = 0 ∧ cap = 0) ∧ BytesIn W a n c := by
  obtain ⟨a, n, cap, E, rfl, h1, h2, h3, h4, h5⟩ := open_ints ht Try.underlying5 (by kernel_rfl) h
  have hv : ∀ i, i < n → ∃ b : UInt8, E i = (b.toNat : Int) := fun i hi => wf_u8 (h5 i hi)
  obtain ⟨X, hX⟩ := Deep.choose_lt (α := UInt8) (p := fun i b => E i = (b.toNat : Int)) hv
  refine ⟨a, n, cap, (List.range n).map X, rfl, h1, h2, h3, by simp, fun hn => ?_⟩
  cases a with
  | none => exact absurd (h3 rfl).1 (by omega)
  | some ad =>
    refine ⟨ad, rfl, fun j hj => ?_⟩
    rw [h4 ad rfl j hj, hX j hj]
    simp [cb, List.getD, hj]
theorem pieces_arg (ho : Value.okWide Try.prog W .any 0 68 v) (h : DataW.Trod enc Try.prog W 0 (fun _ => true) true 68 v d p) :
    ∃ (a : Option Addr) (n cap : Nat) (ps : List (List UInt8)), v = .slice a n cap ∧ n ≤ cap ∧ cap ≤ maxLen ∧ (a = none → n = 0 ∧ cap = 0) ∧ PiecesIn W a n ps := by
  obtain ⟨a, n, cap, rfl⟩ := okWide_slice Try.underlying68 ho
  obtain ⟨fuel, hf⟩ := h
  rcases Deep.open_slice1 Try.underlying68 (by kernel_rfl) hf with ⟨hc, _⟩ | ⟨a', len, cap', m, k, V, D, Pl, hc, _, hl, hm, hmm, _, hx⟩
  · simp only [Value.cells, List.cons.injEq, Value.slice.injEq, and_true] at hc
    obtain ⟨rfl, rfl, rfl⟩ := hc
    exact ⟨none, 0, 0, [], rfl, Nat.le_refl _, Nat.zero_le _, fun _ => ⟨rfl, rfl⟩, rfl, fun h => absurd h (by omega)⟩
  · simp only [Value.cells, List.cons.injEq, Value.slice.injEq, and_true] at hc
    obtain ⟨rfl, rfl, rfl⟩ := hc
    have hmle : n ≤ m := by rw [hmm]; split <;> omega
    have hv : ∀ i, i < n → ∃ c : List UInt8, ∃ a1 q cap1, W.cell? (a'.add i) = some (.slice a1 q cap1) ∧ q ≤ cap1 ∧ cap1 ≤ maxLen ∧ BytesIn W a1 q c := by
      intro i hi
      obtain ⟨h1, h2⟩ := hx i (by omega)
      obtain ⟨a1, q, cap1, c, e, b1, b2, _, b4⟩ := bytes_of Try.underlying28 h2
      simp only [List.cons.injEq, and_true] at e
      exact ⟨c, a1, q, cap1, by rw [h1, e], b1, b2, b4⟩
    obtain ⟨X, hX⟩ := Deep.choose_lt (α := List UInt8) (p := fun i c => ∃ a1 q cap1, W.cell? (a'.add i) = some (.slice a1 q cap1) ∧ q ≤ cap1 ∧ cap1 ≤ maxLen ∧ BytesIn W a1 q c) hv
    refine ⟨some a', n, cap, (List.range n).map X, rfl, hl, hm, fun h => (by cases h), by simp, fun _ => ⟨a', rfl, fun i hi => ?_⟩⟩
    have : ((List.range n).map X).getD i [] = X i := by simp [List.getD, hi]
    rw [this]
    exact hX i hi
theorem bytes_arg (ho : Value.okWide Try.prog W .any 0 28 v) (h : DataW.Trod enc Try.prog W 0 (fun _ => true) true 28 v d p) :
    ∃ (a : Option Addr) (n cap : Nat) (c : List UInt8), v = .slice a n cap ∧ n ≤ cap ∧ cap ≤ maxLen ∧ (a = none → n = 0 ∧ cap = 0) ∧ BytesIn W a n c := by
  obtain ⟨a, n, cap, rfl⟩ := okWide_slice Try.underlying28 ho
  obtain ⟨fuel, hf⟩ := h
  obtain ⟨a1, n1, cap1, c, e, h1, h2, h3, h4⟩ := bytes_of Try.underlying28 hf
  simp only [Value.cells, List.cons.injEq, Value.slice.injEq, and_true] at e
  obtain ⟨rfl, rfl, rfl⟩ := e
  exact ⟨a, n, cap, c, rfl, h1, h2, h3, h4⟩
theorem wf_i64 {z : Int} (h : (Lit.int .i64 z).wf = true) : -9223372036854775808 ≤ z ∧ z ≤ 9223372036854775807 := by
  simpa [Lit.wf, IntKind.min, IntKind.max, IntKind.signed, IntKind.bits] using h
theorem wf_u64 {z : Int} (h : (Lit.int .u64 z).wf = true) : ∃ n : Nat, z = (n : Int) ∧ n < 18446744073709551616 := by
  have hb : 0 ≤ z ∧ z ≤ 18446744073709551615 := by simpa [Lit.wf, IntKind.min, IntKind.max, IntKind.signed, IntKind.bits] using h
  exact ⟨z.toNat, by omega, by omega⟩
theorem byte_arg (ho : Value.okWide Try.prog W .any 0 5 v) (h : DataW.Trod enc Try.prog W 0 (fun _ => true) true 5 v d p) : ∃ z : Int, v = .int .u8 z ∧ ∃ b : UInt8, z = (b.toNat : Int) := by
  obtain ⟨s, rfl, _, _, w1⟩ := open_int Try.underlying5 ho h
  exact ⟨s, rfl, wf_u8 w1⟩
end
end Go.Proofs.Ytclghfnmmnnceaa
