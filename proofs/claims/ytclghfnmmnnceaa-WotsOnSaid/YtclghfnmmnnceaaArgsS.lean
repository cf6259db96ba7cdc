/- Arguments opened: a node, a secret. -/
import Derived.Test.YtclghfnmmnnceaaArgs
import Derived.Test.YtclghfnmmnnceaaChain
namespace Go.Proofs.Ytclghfnmmnnceaa
open Go.ChangeShapes Go.WideShapes Go.ChangeAt Go.RowKit
set_option linter.unusedVariables false
set_option linter.unusedSimpArgs false
section
variable {H : Type} {enc : TypeId × Value → H} {W : World} {v : Value} {d : DataW H} {p : List MemPlace}
theorem node_arg (ho : Value.okWide Try.prog W .any 0 23 v) (h : DataW.Trod enc Try.prog W 0 (fun _ => true) true 23 v d p) : ∃ x : Bs 16, v = .agg (bcells x) := by
  simp only [Value.okWide, Try.underlying23] at ho
  obtain ⟨cs, rfl, _⟩ := ho
  obtain ⟨fuel, hf⟩ := h
  obtain ⟨x, hx⟩ := open_Bs Try.underlying23 Try.underlying5 (by kernel_rfl) (by kernel_rfl) hf
  exact ⟨x, congrArg Value.agg (Array.toList_inj.1 hx)⟩
theorem rows_joinB (cs : List Value) (S : Nat → Bs 16) (hS : ∀ i, i < 68 → (cs.drop (i * 16)).take 16 = (bcells (S i)).toList) : ∀ n, n ≤ 68 → (joinB S n).map cb = cs.take (n * 16) := by
  intro n
  induction n with
  | zero => intro _; simp [joinB]
  | succ n ih =>
    intro hn
    rw [joinB, List.map_append, ih (by omega), show (n + 1) * 16 = n * 16 + 16 by omega, List.take_add, hS n (by omega), toList_bcells]
theorem secret_arg (ho : Value.okWide Try.prog W .any 0 25 v) (h : DataW.Trod enc Try.prog W 0 (fun _ => true) true 25 v d p) : ∃ S : Nat → Bs 16, v = .agg (scells S) := by
  simp only [Value.okWide, Try.underlying25] at ho
  obtain ⟨cs, rfl, _⟩ := ho
  obtain ⟨fuel, hf⟩ := h
  have hce : Try.prog.cellsOf 23 = 16 := by kernel_rfl
  have hct : Try.prog.cellsOf 25 = 1088 := by kernel_rfl
  obtain ⟨xs, m, _, _, hl, hxs, hi⟩ := DataW.trod_array Try.underlying25 hf
  rw [hct] at hl
  rw [hce] at hi
  have hv : ∀ i, i < 68 → ∃ b : Bs 16, (((Value.agg cs).cells.toList.drop (i * 16)).take 16) = (bcells b).toList := by
    intro i hlt
    have h1 := hi i hlt
    rw [List.getElem?_eq_getElem (by omega)] at h1
    exact open_Bs Try.underlying23 Try.underlying5 (by kernel_rfl) (by kernel_rfl) h1
  have inst : Inhabited (Bs 16) := ⟨zeros 16⟩
  obtain ⟨S, hS⟩ := Deep.choose_lt (α := Bs 16) (p := fun i b => (((Value.agg cs).cells.toList.drop (i * 16)).take 16) = (bcells b).toList) hv
  refine ⟨S, congrArg Value.agg (Array.toList_inj.1 ?_)⟩
  have := rows_joinB _ S hS 68 (Nat.le_refl _)
  rw [List.take_of_length_le (by omega)] at this
  rw [toList_scells, this]; rfl
end
/-- A secret of noughts, as an argument: that it is a value of its type is shown cell by cell (all at once it is too much for the kernel). -/
def zsecN (n : Nat) : Array Value := (List.replicate n (Value.int .u8 0)).toArray
theorem size_zsecN (n : Nat) : (zsecN n).size = n := by simp [zsecN]
theorem zsecN_at (n i : Nat) (h : i < n) : (zsecN n)[i]? = some (.int .u8 0) := by simp [zsecN, h]
def zsec : Array Value := zsecN 1088
set_option maxRecDepth 100000 in
theorem types_secret : Try.prog.cellTypes Try.prog.depth 25 = some (List.replicate 1088 5) := by kernel_rfl
theorem ok_u8 (w : World) : Cell.okWideB Try.prog w 5 (.int .u8 0) = true := by kernel_rfl
theorem cells_secret : Try.prog.cellsOf 25 = 1088 := by kernel_rfl
theorem ok_secret (w : World) : Value.okWideB Try.prog w 25 (.agg zsec) = true := by
  have hz : zsec.size = 1088 := size_zsecN 1088
  have hg : ∀ i, i < 1088 → zsec[i]? = some (.int .u8 0) := fun i hi => zsecN_at 1088 i hi
  have h1 := ok_u8 w
  unfold Value.okWideB
  rw [Try.underlying25]
  simp only
  rw [cells_secret, hz]
  unfold Cell.okWideRowB
  rw [types_secret]
  simp only
  rw [Bool.and_eq_true]
  refine ⟨rfl, ?_⟩
  rw [Bool.and_eq_true]
  refine ⟨by rw [List.length_replicate, hz]; rfl, ?_⟩
  rw [List.all_eq_true]
  intro i hi
  rw [List.mem_range, hz] at hi
  rw [hg i hi, List.length_replicate, List.getElem?_replicate, if_pos (Nat.mod_lt _ (by omega))]
  exact h1
theorem input_ok {P : Program} {w : World} {f : FuncId} {fn : Func} {args : Array Value} (hi : (P.inits.idxOf? f).isNone = true) (hf : P.funcs[f]? = some fn) (h : (fn.body.isSome && !fn.ours && fn.nfree == 0 && args.size == fn.params.size) = true)
    (hv : ∀ (j : Nat) t v, fn.params[j]? = some t → args[j]? = some v → Value.okWideB P w t v = true) : Input.okWideB P w f ⟨#[], args, []⟩ = true := by
  unfold Input.okWideB
  rw [hi, hf]
  have hs : args.size = fn.params.size := by
    rw [Bool.and_eq_true] at h
    exact eq_of_beq h.2
  refine Bool.and_eq_true_iff.2 ⟨rfl, Bool.and_eq_true_iff.2 ⟨h, List.all_eq_true.2 fun j hj => ?_⟩⟩
  have hj := List.mem_range.1 hj
  have h1 : fn.params[j]? = some fn.params[j] := Array.getElem?_eq_getElem hj
  have h2 : args[j]? = some (args[j]'(by omega)) := Array.getElem?_eq_getElem (by omega)
  simp only [h1, h2]
  exact hv j _ _ h1 h2
end Go.Proofs.Ytclghfnmmnnceaa
