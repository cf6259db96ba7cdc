/- Arguments opened: a slice of wants. -/
import Derived.Test.YtoiiapjmmjmeoaaArgsB
import Derived.Test.YtoiiapjmmjmeoaaAnyW
namespace Go.Proofs.Ytoiiapjmmjmeoaa
open Go.ChangeShapes Go.WideShapes Go.ChangeAt Go.RowKit
set_option linter.unusedVariables false
section
variable {H : Type} {enc : TypeId × Value → H} {W : World} {v : Value} {d : DataW H} {p : List MemPlace}
theorem open_Want {w : World} {base fuel : Nat} {spare : Nat → Bool} {held : Bool} {cs : List Value} {x : DataW H × List MemPlace} (h : DataW.trod enc Try.prog w base spare held fuel 31 cs = some x) : ∃ k n : Int, cs = [.int .i64 k, .int .i64 n] ∧ (Lit.int .i64 n).wf = true := by
  obtain ⟨hl, m, hf⟩ := trod_fields (fs := Try.prog.fieldsOf 31) (by kernel_rfl) h
  have hm : ((Try.prog.fieldsOf 31).toList.map fun f => (f.type, f.offset)) = [(3, 0), (3, 1)] := by kernel_rfl
  rw [hm] at hf
  have c0 : Try.prog.cellsOf 31 = 2 := by kernel_rfl
  have c1 : Try.prog.cellsOf 3 = 1 := by kernel_rfl
  obtain ⟨y1, h1⟩ := hf 0 _ _ rfl
  obtain ⟨y2, h2⟩ := hf 1 _ _ rfl
  rw [c0] at hl
  rw [c1] at h1 h2
  obtain ⟨k, hk, _, _⟩ := DataW.trod_int Try.underlying3 h1
  obtain ⟨n, hn, _, hw⟩ := DataW.trod_int Try.underlying3 h2
  exact ⟨k, n, by rw [parts2 cs 1 1 hl, hk, hn]; rfl, hw⟩
theorem wants_arg (ho : Value.okWide Try.prog W .any 0 23 v) (h : DataW.Trod enc Try.prog W 0 (fun _ => true) true 23 v d p) :
    ∃ (a : Option Addr) (n cap : Nat) (K N : Nat → Int), v = .slice a n cap ∧ n ≤ cap ∧ cap ≤ maxLen ∧ (a = none → n = 0 ∧ cap = 0) ∧ WantsIn W a n K N := by
  obtain ⟨a, n, cap, rfl⟩ := okWide_slice Try.underlying23 ho
  obtain ⟨fuel, hf⟩ := h
  rcases Deep.open_slice Try.underlying23 hf with ⟨hc, _⟩ | ⟨a', len, cap', m, k, D, Pl, hc, _, hl, hm, hmm, _, hx⟩
  · simp only [Value.cells, List.cons.injEq, Value.slice.injEq, and_true] at hc
    obtain ⟨rfl, rfl, rfl⟩ := hc
    exact ⟨none, 0, 0, fun _ => 0, fun _ => 0, rfl, Nat.le_refl _, Nat.zero_le _, fun _ => ⟨rfl, rfl⟩, fun h => absurd h (by omega)⟩
  · simp only [Value.cells, List.cons.injEq, Value.slice.injEq, and_true] at hc
    obtain ⟨rfl, rfl, rfl⟩ := hc
    have hmle : n ≤ m := by rw [hmm]; split <;> omega
    have hce : Try.prog.cellsOf 31 = 2 := by kernel_rfl
    rw [hce] at hx
    have hv : ∀ i, i < n → ∃ kn : Int × Int, W.cell? (a'.add (i * 2)) = some (.int .i64 kn.1) ∧ W.cell? ⟨(a'.add (i * 2)).block, (a'.add (i * 2)).off + 1, none⟩ = some (.int .i64 kn.2) ∧ -9223372036854775808 ≤ kn.2 ∧ kn.2 ≤ 9223372036854775807 := by
      intro i hi
      obtain ⟨cs', h1, h2⟩ := hx i (by omega)
      obtain ⟨k, n', rfl, hw⟩ := open_Want h2
      obtain ⟨hw1, hw2⟩ := wf_i64 hw
      obtain ⟨_, _, h3⟩ := World.cells?_some h1
      have h4 := h3 0 (by decide)
      have h5 := h3 1 (by decide)
      refine ⟨(k, n'), ?_, ?_, hw1, hw2⟩
      · rw [show a'.add (i * 2) = (a'.add (i * 2)).add 0 from rfl, h4]; rfl
      · rw [show (⟨(a'.add (i * 2)).block, (a'.add (i * 2)).off + 1, none⟩ : Addr) = (a'.add (i * 2)).add 1 from rfl, h5]; rfl
    obtain ⟨X, hX⟩ := Deep.choose_lt (α := Int × Int) (p := fun i kn => W.cell? (a'.add (i * 2)) = some (.int .i64 kn.1) ∧ W.cell? ⟨(a'.add (i * 2)).block, (a'.add (i * 2)).off + 1, none⟩ = some (.int .i64 kn.2) ∧ -9223372036854775808 ≤ kn.2 ∧ kn.2 ≤ 9223372036854775807) hv
    exact ⟨some a', n, cap, fun i => (X i).1, fun i => (X i).2, rfl, hl, hm, fun h => (by cases h), fun _ => ⟨a', rfl, hX⟩⟩
end
end Go.Proofs.Ytoiiapjmmjmeoaa
