/- What is signed is the reference's, and the public comes of it: for any secret and any hash the law returns true. No condition. -/
import Derived.Test.YtclghfnmmnnceaaSignsL
import Derived.Test.YtclghfnmmnnceaaArgsS
namespace Go.Proofs.Ytclghfnmmnnceaa.wotsSigns
open Go.ChangeShapes Go.WideShapes Go.ChangeAt Go.RowKit
set_option linter.unusedVariables false

theorem ok_h0 (w : World) : Value.okWideB Try.prog w 27 (.agg (bcells (zeros 32))) = true := by kernel_rfl
theorem ok_args (w : World) (j : Nat) (t : TypeId) (v : Value) (hj : Try.f6.params[j]? = some t) (hv : (#[.agg zsec, .agg (bcells (zeros 32))] : Array Value)[j]? = some v) : Value.okWideB Try.prog w t v = true := by
  rw [Try.params6] at hj
  match j, hj, hv with
  | 0, hj, hv =>
    obtain rfl := Option.some.inj hj
    obtain rfl := Option.some.inj hv
    exact ok_secret w
  | 1, hj, hv =>
    obtain rfl := Option.some.inj hj
    obtain rfl := Option.some.inj hv
    exact ok_h0 w
  | j + 2, hj, hv => simp at hj

set_option maxRecDepth 100000 in
theorem lifted (os : Os) (started : os.Started) (H : Type) (enc : TypeId × Value → H) :
    ReturnsInHanded {} Try.checked os 6 .any (Rows.wotsSignsSpec.pre6 enc Try.prog Try.f6 Rows.wotsSignsRow.domain false) (Rows.wotsSignsSpec.post enc Try.prog Try.f6 false true false false) := by
  refine returnsInHanded_of_change (C := Try.checked) own started (by kernel_rfl) Try.func6
    (ChangeSpec.witness6 (enc := enc) (C := Try.checked) false ⟨#[], #[.agg zsec, .agg (bcells (zeros 32))], []⟩ 8 (by kernel_rfl) (by kernel_rfl) (input_ok (fn := Try.f6) (by kernel_rfl) Try.func6 (by kernel_rfl) (fun j t v hj hv => ok_args _ j t v hj hv)) (by kernel_rfl)) ?_
  intro W base args ds gs before hval0 hW hcnd _
  have hval : ∀ (j : Nat) t v, Try.f6.params[j]? = some t → args[j]? = some v → Value.okWide Try.prog W .any base t v := hval0
  have hW' := hW
  obtain ⟨p, q, hA0, hV, rfl, hfz, hnd⟩ := hW
  have hA : DataW.TrodAll enc Try.prog W 0 (fun _ => true) true Try.f6.params.toList args.toList ds p := hA0
  rw [Try.params6] at hA hval
  obtain ⟨v0, vs0, d0, ds0, p0, q0, hargs, rfl, rfl, h0, r0⟩ := trodAll_cons hA
  obtain ⟨v1, vs1, d1, ds1, p1, q1, rfl, rfl, rfl, h1, r1⟩ := trodAll_cons r0
  obtain ⟨rfl, rfl, rfl⟩ := trodAll_nil r1
  obtain rfl : args = #[v0, v1] := by cases args; simp_all
  obtain ⟨rfl, rfl⟩ := trodVars_none hV
  obtain ⟨S, rfl⟩ := secret_arg (hval 0 _ v0 rfl rfl) h0
  obtain ⟨h, rfl⟩ := hash_arg (hval 1 _ v1 rfl rfl) h1
  clear hA0 hval0
  refine (wotsSigns_walk S h W).mono fun e W' ⟨he, hb⟩ => ?_
  subst he
  exact ⟨_, rfl, post_true rfl rfl (by decide +kernel) hW' rfl hb⟩

theorem proved : Rows.WotsSignsSaid :=
  OpenClaim.holds_of_wide 6 Try.f6 rfl rfl rfl rfl rfl rfl rfl ⟨rfl, rfl, rfl, rfl, rfl⟩ rfl rfl rfl rfl rfl (by kernel_rfl) Try.func6 (by kernel_rfl)
    (of_decide_eq_true (by kernel_rfl)) (by unfold Func.isWrapper; first | (rw [if_pos (by decide +kernel)]; kernel_rfl) | (rw [if_neg (by decide +kernel)]; exact ⟨rfl, rfl⟩))
    (fun os started H enc _ => lifted os started H enc)
#print axioms proved
end Go.Proofs.Ytclghfnmmnnceaa.wotsSigns
