/- Arguments opened: a checkpoint, a vote. -/
import Derived.Test.YtgeijcielakeeaaOpen
namespace Go.Proofs.Ytgeijcielakeeaa
open Go.ChangeShapes Go.WideShapes Go.ChangeAt Go.RowKit Go.Joins
set_option linter.unusedVariables false
set_option linter.unusedSimpArgs false
section
variable {H : Type} {enc : TypeId × Value → H} {w : World} {base fuel : Nat} {spare : Nat → Bool} {held : Bool} {cs : List Value} {x : DataW H × List MemPlace}
theorem open_Point (h : DataW.trod enc Try.prog w base spare held fuel 28 cs = some x) : ∃ (e : Int) (n : Bs 32), cs = (ptCells e n).toList ∧ (Lit.int .u64 e).wf = true := by
  obtain ⟨hl, m, hf⟩ := trod_fields (fs := Try.prog.fieldsOf 28) (by kernel_rfl) h
  have hm : ((Try.prog.fieldsOf 28).toList.map fun f => (f.type, f.offset)) = [(24, 0), (26, 1)] := by kernel_rfl
  rw [hm] at hf
  have c0 : Try.prog.cellsOf 28 = 33 := by kernel_rfl
  have c1 : Try.prog.cellsOf 24 = 1 := by kernel_rfl
  have c2 : Try.prog.cellsOf 26 = 32 := by kernel_rfl
  obtain ⟨y1, h1⟩ := hf 0 _ _ rfl
  obtain ⟨y2, h2⟩ := hf 1 _ _ rfl
  rw [c0] at hl
  rw [c1] at h1
  rw [c2] at h2
  obtain ⟨e, he, _, hw⟩ := DataW.trod_int Try.underlying24 h1
  obtain ⟨n, hn⟩ := open_Bs Try.underlying26 Try.underlying5 (by kernel_rfl) (by kernel_rfl) h2
  refine ⟨e, n, ?_, hw⟩
  rw [parts2 cs 1 32 hl, he, hn]
  simp [ptCells]

theorem open_Vt (h : DataW.trod enc Try.prog w base spare held fuel 31 cs = some x) : ∃ v : Vt, cs = (vtCells v).toList ∧ (Lit.int .i64 v.val).wf = true ∧ (Lit.int .u64 v.se).wf = true ∧ (Lit.int .u64 v.te).wf = true := by
  obtain ⟨hl, m, hf⟩ := trod_fields (fs := Try.prog.fieldsOf 31) (by kernel_rfl) h
  have hm : ((Try.prog.fieldsOf 31).toList.map fun f => (f.type, f.offset)) = [(3, 0), (28, 1), (28, 34), (29, 67)] := by kernel_rfl
  rw [hm] at hf
  have c0 : Try.prog.cellsOf 31 = 68 := by kernel_rfl
  have c1 : Try.prog.cellsOf 3 = 1 := by kernel_rfl
  have c2 : Try.prog.cellsOf 28 = 33 := by kernel_rfl
  have c3 : Try.prog.cellsOf 29 = 1 := by kernel_rfl
  obtain ⟨y1, h1⟩ := hf 0 _ _ rfl
  obtain ⟨y2, h2⟩ := hf 1 _ _ rfl
  obtain ⟨y3, h3⟩ := hf 2 _ _ rfl
  obtain ⟨y4, h4⟩ := hf 3 _ _ rfl
  rw [c0] at hl
  rw [c1] at h1
  rw [c2] at h2 h3
  rw [c3] at h4
  obtain ⟨k, hk, _, hw⟩ := DataW.trod_int Try.underlying3 h1
  obtain ⟨e, n, hn, hw1⟩ := open_Point h2
  obtain ⟨e', n', hn', hw2⟩ := open_Point h3
  obtain ⟨a, l, c, hs⟩ := slice_form Try.underlying29 h4
  refine ⟨⟨k, e, n, e', n', a, l, c⟩, ?_, hw, hw1, hw2⟩
  have e1 : cs = (cs.drop 0).take 1 ++ ((cs.drop 1).take 33 ++ ((cs.drop 34).take 33 ++ (cs.drop 67).take 1)) := by
    have a1 := parts2 (cs.drop 34) 33 1 (by simp; omega)
    have a2 : cs.drop 1 = (cs.drop 1).take 33 ++ cs.drop 34 := by
      have := List.take_append_drop 33 (cs.drop 1); rw [List.drop_drop] at this; exact this.symm
    have a3 := List.take_append_drop 1 cs
    have a4 : (cs.drop 34).drop 33 = cs.drop 67 := List.drop_drop
    rw [List.drop_zero, a4] at a1
    rw [← a1, ← a2, List.drop_zero, a3]
  rw [e1, hk, hn, hn', hs]
  simp [vtCells]
end
end Go.Proofs.Ytgeijcielakeeaa
