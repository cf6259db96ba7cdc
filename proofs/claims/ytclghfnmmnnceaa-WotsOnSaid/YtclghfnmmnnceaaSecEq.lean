/- '==' on a secret and itself. -/
import Derived.Test.YtclghfnmmnnceaaSecret
import Derived.ChangeKeysEq
namespace Go.Proofs.Ytclghfnmmnnceaa
open Go.RowKit
set_option linter.unusedVariables false
set_option linter.unusedSimpArgs false

theorem extract_scells (S : Nat → Bs 16) (i : Nat) (hi : i < 68) : (scells S).extract (i * 16) (i * 16 + 16) = bcells (S i) := by
  apply Array.ext'
  rw [Array.toList_extract, List.extract_eq_take_drop, show i * 16 + 16 - i * 16 = 16 by omega, toList_scells, toList_bcells, ← List.map_drop, ← List.map_take, joinB_at S i 68 hi]
theorem part_node (w : World) (S : Nat → Bs 16) (i : Nat) (hi : i < 68) : (part 23 (scells S) (i * 16)).run Try.prog w = .ok (.agg (bcells (S i))) w := by
  have hz := run_sizeOf w 23 16 (P := Try.prog) (by kernel_rfl)
  have hx := extract_scells S i hi
  generalize bcells (S i) = c at hx ⊢
  generalize scells S = xs at hx ⊢
  simp [part, isAgg, run_underlying Try.underlying23, hz, hx]
theorem equal_node (w : World) (d : Nat) (a b : Bs 16) : (Op.equalIn (d + 2) 23 (.agg (bcells a)) (.agg (bcells b))).run Try.prog w = .ok (bsEq a b) w :=
  equalIn_Bs w d 23 5 16 Try.underlying23 Try.underlying5 (by kernel_rfl) a b
/-- '==' on an array and itself. -/
theorem equal_same_array {P : Program} (w : World) (d : Nat) {t e : TypeId} {n m : Nat} {j : TypeInfo} (xs : Array Value) (item : Nat → Value) (hu : P.underlying t = some (.array n e)) (hj : P.info? e = some j) (hc : P.cellsOf e = m)
    (hp : ∀ i, i < n → (part e xs (i * m)).run P w = .ok (item i) w) (he : ∀ i, i < n → (Op.equalIn d e (item i) (item i)).run P w = .ok true w) : (Op.equalIn (d + 1) t (.agg xs) (.agg xs)).run P w = .ok true w := by
  rw [run_equalIn_array w d xs xs hu hj, hc]
  have : ∀ is : List Nat, (∀ i ∈ is, i < n) → (Op.eqItems d e m xs xs is).run P w = .ok true w := by
    intro is
    induction is with
    | nil => intro _; simp [Op.eqItems]
    | cons i is ih =>
      intro h
      have h1 := hp i (h i (by simp))
      have h2 := he i (h i (by simp))
      simp only [Op.eqItems, Sem.run_bind, h1, h2, Result.andThen_ok, Bool.not_true, Bool.false_eq_true, if_false]
      exact ih fun k hk => h k (by simp [hk])
  exact this _ fun i hi => by simpa using hi
theorem node_info : ∃ j, Try.prog.info? 23 = some j := Option.isSome_iff_exists.1 (by kernel_rfl)
theorem equal_secret (w : World) (S : Nat → Bs 16) : (Op.equalIn 10000 25 (.agg (scells S)) (.agg (scells S))).run Try.prog w = .ok true w :=
  node_info.elim fun j hj => equal_same_array w 9999 (scells S) (fun i => .agg (bcells (S i))) Try.underlying25 hj (by kernel_rfl) (part_node w S) (fun i _ => by have h := equal_node w 9997 (S i) (S i); rw [bsEq_self] at h; exact h)
theorem index_secret (w : World) (S : Nat → Bs 16) (i : Nat) (hi : i < 68) : (Instr.index 25 (.agg (scells S)) (.int .i64 (i : Int))).run Try.prog w = .ok (.agg (bcells (S i))) w := by
  have hz := run_sizeOf w 23 16 (P := Try.prog) (by kernel_rfl)
  have hp := part_node w S i hi
  have hn : 0 ≤ (i : Int) ∧ (i : Int) < (68 : Int) := by omega
  generalize bcells (S i) = c at hp ⊢
  generalize scells S = xs at hp ⊢
  simp [Instr.index, run_underlying Try.underlying25, asIntOf, hz, hp, hi]
end Go.Proofs.Ytclghfnmmnnceaa
