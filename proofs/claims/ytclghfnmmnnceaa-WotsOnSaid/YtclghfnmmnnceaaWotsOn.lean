/- From what was signed of a hash each node of another hash's signature that lies behind it can be told, step by step, and none that lies ahead is in it: for any secret and any two hashes the law returns true. No condition. -/
import Derived.Test.YtclghfnmmnnceaaOnL
import Derived.Test.YtclghfnmmnnceaaArgsS
namespace Go.Proofs.Ytclghfnmmnnceaa.wotsOn
open Go.ChangeShapes Go.WideShapes Go.ChangeAt Go.RowKit
set_option linter.unusedVariables false

theorem ok_h0 (w : World) : Value.okWideB Try.prog w 27 (.agg (bcells (zeros 32))) = true := by kernel_rfl
theorem ok_args (w : World) (j : Nat) (t : TypeId) (v : Value) (hj : Try.f3.params[j]? = some t) (hv : (#[.agg zsec, .agg (bcells (zeros 32)), .agg (bcells (zeros 32))] : Array Value)[j]? = some v) : Value.okWideB Try.prog w t v = true := by
  rw [Try.params3] at hj
  match j, hj, hv with
  | 0, hj, hv =>
    obtain rfl := Option.some.inj hj
    obtain rfl := Option.some.inj hv
    exact ok_secret w
  | 1, hj, hv =>
    obtain rfl := Option.some.inj hj
    obtain rfl := Option.some.inj hv
    exact ok_h0 w
  | 2, hj, hv =>
    obtain rfl := Option.some.inj hj
    obtain rfl := Option.some.inj hv
    exact ok_h0 w
  | j + 3, hj, hv => simp at hj

set_option maxRecDepth 100000 in
theorem lifted (os : Os) (started : os.Started) (H : Type) (enc : TypeId × Value → H) :
    ReturnsInHanded {} Try.checked os 3 .any (Rows.wotsOnSpec.pre6 enc Try.prog Try.f3 Rows.wotsOnRow.domain false) (Rows.wotsOnSpec.post enc Try.prog Try.f3 false true false false) := by
  refine returnsInHanded_of_change (C := Try.checked) own started (by kernel_rfl) Try.func3
    (ChangeSpec.witness6 (enc := enc) (C := Try.checked) false ⟨#[], #[.agg zsec, .agg (bcells (zeros 32)), .agg (bcells (zeros 32))], []⟩ 8 (by kernel_rfl) (by kernel_rfl) (input_ok (fn := Try.f3) (by kernel_rfl) Try.func3 (by kernel_rfl) (fun j t v hj hv => ok_args _ j t v hj hv)) (by kernel_rfl)) ?_
  intro W base args ds gs before hval0 hW hcnd _
  have hval : ∀ (j : Nat) t v, Try.f3.params[j]? = some t → args[j]? = some v → Value.okWide Try.prog W .any base t v := hval0
  have hW' := hW
  obtain ⟨p, q, hA0, hV, rfl, hfz, hnd⟩ := hW
  have hA : DataW.TrodAll enc Try.prog W 0 (fun _ => true) true Try.f3.params.toList args.toList ds p := hA0
  rw [Try.params3] at hA hval
  obtain ⟨v0, vs0, d0, ds0, p0, q0, hargs, rfl, rfl, h0, r0⟩ := trodAll_cons hA
  obtain ⟨v1, vs1, d1, ds1, p1, q1, rfl, rfl, rfl, h1, r1⟩ := trodAll_cons r0
  obtain ⟨v2, vs2, d2, ds2, p2, q2, rfl, rfl, rfl, h2, r2⟩ := trodAll_cons r1
  obtain ⟨rfl, rfl, rfl⟩ := trodAll_nil r2
  obtain rfl : args = #[v0, v1, v2] := by cases args; simp_all
  obtain ⟨rfl, rfl⟩ := trodVars_none hV
  obtain ⟨S, rfl⟩ := secret_arg (hval 0 _ v0 rfl rfl) h0
  obtain ⟨h, rfl⟩ := hash_arg (hval 1 _ v1 rfl rfl) h1
  obtain ⟨g, rfl⟩ := hash_arg (hval 2 _ v2 rfl rfl) h2
  clear hA0 hval0
  refine (wotsOn_walk S h g W).mono fun e W' ⟨he, hb⟩ => ?_
  subst he
  exact ⟨_, rfl, post_true rfl rfl (by decide +kernel) hW' rfl hb⟩

theorem proved : Rows.WotsOnSaid :=
  OpenClaim.holds_of_wide 3 Try.f3 rfl rfl rfl rfl rfl rfl rfl ⟨rfl, rfl, rfl, rfl, rfl⟩ rfl rfl rfl rfl rfl (by kernel_rfl) Try.func3 (by kernel_rfl)
    (of_decide_eq_true (by kernel_rfl)) (by unfold Func.isWrapper; first | (rw [if_pos (by decide +kernel)]; kernel_rfl) | (rw [if_neg (by decide +kernel)]; exact ⟨rfl, rfl⟩))
    (fun os started H enc _ => lifted os started H enc)
#print axioms proved
end Go.Proofs.Ytclghfnmmnnceaa.wotsOn
