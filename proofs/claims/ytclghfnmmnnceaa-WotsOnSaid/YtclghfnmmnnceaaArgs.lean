/- Arguments opened: a hash. -/
import Derived.Test.YtclghfnmmnnceaaOpen
namespace Go.Proofs.Ytclghfnmmnnceaa
open Go.ChangeShapes Go.WideShapes Go.ChangeAt Go.RowKit
set_option linter.unusedVariables false
theorem hash_arg {H : Type} {enc : TypeId × Value → H} {W : World} {v : Value} {d : DataW H} {p : List MemPlace}
    (ho : Value.okWide Try.prog W .any 0 27 v) (h : DataW.Trod enc Try.prog W 0 (fun _ => true) true 27 v d p) : ∃ x : Bs 32, v = .agg (bcells x) := by
  simp only [Value.okWide, Try.underlying27] at ho
  obtain ⟨cs, rfl, _⟩ := ho
  obtain ⟨fuel, hf⟩ := h
  obtain ⟨x, hx⟩ := open_Bs Try.underlying27 Try.underlying5 (by kernel_rfl) (by kernel_rfl) hf
  exact ⟨x, congrArg Value.agg (Array.toList_inj.1 hx)⟩
end Go.Proofs.Ytclghfnmmnnceaa
