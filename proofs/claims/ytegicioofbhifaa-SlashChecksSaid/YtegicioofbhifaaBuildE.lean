/- A struct of three parts put together; a piece of evidence. -/
import Derived.Test.YtegicioofbhifaaZA
namespace Go.Proofs.Ytegicioofbhifaa
open Go.RowKit
set_option linter.unusedVariables false

def setsA (off : Nat) (A Z : Array Value) : Array Value := A.zipIdx.foldl (fun (B : Array Value) (p : Value × Nat) => B.setIfInBounds (off + p.2) p.1) Z
theorem setsA_at (off : Nat) (A Z : Array Value) (h : off + A.size ≤ Z.size) (i : Nat) : (setsA off A Z)[i]? = if off ≤ i ∧ i < off + A.size then A[i - off]? else Z[i]? := by
  unfold setsA
  rw [← Array.foldl_toList, Array.toList_zipIdx, getElem?_setAll _ _ _ _ (by simp; omega)]
  simp
theorem size_foldSet (off : Nat) (l : List (Value × Nat)) : ∀ Z : Array Value, (l.foldl (fun (B : Array Value) (p : Value × Nat) => B.setIfInBounds (off + p.2) p.1) Z).size = Z.size := by
  induction l with
  | nil => intro Z; rfl
  | cons p l ih => intro Z; rw [List.foldl_cons, ih, Array.size_setIfInBounds]
theorem size_setsA (off : Nat) (A Z : Array Value) : (setsA off A Z).size = Z.size := by
  unfold setsA
  rw [← Array.foldl_toList, size_foldSet]
theorem setsA_three (A B C Z : Array Value) (hz : Z.size = A.size + B.size + C.size) : setsA (A.size + B.size) C (setsA A.size B (setsA 0 A Z)) = A ++ (B ++ C) := by
  apply Array.ext_getElem?
  intro i
  rw [setsA_at _ _ _ (by rw [size_setsA, size_setsA]; omega), setsA_at _ _ _ (by rw [size_setsA]; omega), setsA_at _ _ _ (by omega), Array.getElem?_append, Array.getElem?_append]
  by_cases h1 : i < A.size
  · rw [if_neg (by omega), if_neg (by omega), if_pos (by omega), if_pos h1, Nat.sub_zero]
  · rw [if_neg h1]
    by_cases h2 : i < A.size + B.size
    · rw [if_neg (by omega), if_pos (by omega), if_pos (by omega)]
    · rw [if_neg (by omega : ¬ i - A.size < B.size)]
      by_cases h3 : i < A.size + B.size + C.size
      · rw [if_pos (by omega), Nat.sub_sub]
      · rw [if_neg (by omega), if_neg (by omega), if_neg (by omega), Array.getElem?_eq_none (by omega), Array.getElem?_eq_none (by omega)]
theorem fill_step {place : Nat → Option (Nat × Nat)} {Z A : Array Value} {i off : Nat} {rest : List (Nat × Value)} (hp : place i = some (off, A.size)) (h : off + A.size ≤ Z.size) :
    Instr.fill place Z ((i, .agg A) :: rest) = Instr.fill place (setsA off A Z) rest := by
  conv => lhs; unfold Instr.fill
  rw [hp]
  have e : (Value.agg A).cells = A := rfl
  simp only [e]
  rw [if_neg (by simp; omega)]
  rfl
theorem built_three {P : Program} {t : TypeId} {A B C : Array Value} {a b c n : Nat} {fs : Array Field} (hu : P.underlying t = some (.struct fs)) (hz : ((P.info? t).bind (·.zero)).map (·.cells.size) = some n)
    (hp : fs.toList.mapM (fun f => (P.info? f.type).map fun i => (f.offset, i.size)) = some [(0, a), (a, b), (a + b, c)]) (hn : n = a + b + c) (ha : A.size = a) (hb : B.size = b) (hc : C.size = c) :
    P.built t [(0, .agg A), (1, .agg B), (2, .agg C)] = some (A ++ (B ++ C)) := by
  cases hq : P.info? t with
  | none => simp [hq] at hz
  | some it =>
    cases hzz : it.zero with
    | none => simp [hq, hzz] at hz
    | some z =>
      simp only [hq, hzz, Option.bind_some, Option.map_some, Option.some.injEq] at hz
      unfold Program.built
      rw [hq, hu]
      simp only [hzz, hp]
      subst ha hb hc
      rw [fill_step (off := 0) rfl (by omega), fill_step (off := A.size) rfl (by rw [size_setsA]; omega), fill_step (off := A.size + B.size) rfl (by rw [size_setsA, size_setsA]; omega), Instr.fill, setsA_three A B C z.cells (by omega)]
theorem built_ev (k : Bs 32) (a b : Vt) : Try.prog.built 52 [(0, .agg (bcells k)), (1, .agg (vtCells a)), (2, .agg (vtCells b))] = some (evCells ⟨k, a, b⟩) :=
  built_three (fs := Try.prog.fieldsOf 52) (n := 168) (a := 32) (b := 68) (c := 68) (by kernel_rfl) (by kernel_rfl) (by kernel_rfl) rfl (size_bcells _) (size_vtCells _) (size_vtCells _)
theorem build_ev (w : World) (k : Bs 32) (a b : Vt) : buildStep Try.prog 52 #[(0, .agg (bcells k)), (1, .agg (vtCells a)), (2, .agg (vtCells b))] w = .ok (.value (.agg (evCells ⟨k, a, b⟩))) w :=
  buildStep_eq w _ _ _ (built_ev k a b)
end Go.Proofs.Ytegicioofbhifaa
