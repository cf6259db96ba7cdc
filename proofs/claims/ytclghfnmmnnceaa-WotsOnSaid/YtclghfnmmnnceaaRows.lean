/-
  No cell of these rows narrows 'for every input' (looked for: loops, veiled, ifaces, maps, wideKeys, modest, calm, conditions, laid).
  DERIVED. THE GIVEN ROWS OF THIS SEAT. 4 by the template 'for every input the law returns true; each argument reads behind the call as it read before'; 0 by the template 'total and deterministic' (their statements: YtclghfnmmnnceaaTotals.lean).
  GIVEN WITH THE SEED: the statements are not yours to turn. If you find one false, say at which input.
  Laid BY PROGRAM, IN A SANDBOX (cutbox-rows.mjs): the forced cells as the released guide's own fill.sh prints them over the translation 4e9130f8bc10f15c… (all of the seat's roots in one cut). By AI agents, Wed Nov 11 2026. No macro, syntax, notation, axiom, sorry.
-/
import Derived.Test.YtclghfnmmnnceaaChecked
import GoSem.Claim
import GoSem.ClaimJoined
import GoSem.ClaimMapViews
import Derived.JoinedTies
import Derived.KernelRfl
namespace Go.Proofs.Ytclghfnmmnnceaa
/- THE CELL 'sum', in the pinned program and in every row, IS THE sha256 OF THE DUMP (.gsa) THAT YtclghfnmmnnceaaProg.lean LOADS. Nothing in Lean hashes anything: it is a label: what it is worth is what the hold of that sum in a sandbox is worth. -/
noncomputable def Try.pinned : Pinned := { name := "ytclghfnmmnnceaa", sum := "4e9130f8bc10f15c74a798d4048621267f3e37f08caf3a8b5e8569a72b9e588e", checked := Try.checked }
namespace Rows
def none {H : Type} : Left H := { results := [], args := [] }

/-- 'landmarklaw06.WotsOn': WHATEVER THE INPUT: true; the input reads as it did. -/
def wotsOnSpec : ChangeSpec := { name := "wotsOn", fn := fun _ => fun
  | [d1, d2, d3] => { results := [.lit (.bool true)], args := [d1, d2, d3] }
  | _ => none }
def wotsOnRow : OpenClaim := { program := "ytclghfnmmnnceaa", sum := "4e9130f8bc10f15c74a798d4048621267f3e37f08caf3a8b5e8569a72b9e588e", func := "landmark/landmarklaw06.WotsOn", spec := "wotsOn", unfollowed := true, recurses := true, apart := false }
def WotsOnSaid : Prop := wotsOnRow.holds Try.pinned (OpenSpec.ofChange wotsOnSpec)

/-- ITS FALSE NEIGHBOUR: 'it returns false'. Refute it at one input. -/
def wotsOnWrong : ChangeSpec := { name := "wotsOn", fn := fun _ => fun
  | [d1, d2, d3] => { results := [.lit (.bool false)], args := [d1, d2, d3] }
  | _ => none }
def WotsOnWrongFalsely : Prop := wotsOnRow.holds Try.pinned (OpenSpec.ofChange wotsOnWrong)

/-- 'landmarklaw06.WotsRecovers': WHATEVER THE INPUT: true; the input reads as it did. -/
def wotsRecoversSpec : ChangeSpec := { name := "wotsRecovers", fn := fun _ => fun
  | [d1, d2] => { results := [.lit (.bool true)], args := [d1, d2] }
  | _ => none }
def wotsRecoversRow : OpenClaim := { program := "ytclghfnmmnnceaa", sum := "4e9130f8bc10f15c74a798d4048621267f3e37f08caf3a8b5e8569a72b9e588e", func := "landmark/landmarklaw06.WotsRecovers", spec := "wotsRecovers", unfollowed := true, recurses := true, apart := false }
def WotsRecoversSaid : Prop := wotsRecoversRow.holds Try.pinned (OpenSpec.ofChange wotsRecoversSpec)

/-- ITS FALSE NEIGHBOUR: 'it returns false'. Refute it at one input. -/
def wotsRecoversWrong : ChangeSpec := { name := "wotsRecovers", fn := fun _ => fun
  | [d1, d2] => { results := [.lit (.bool false)], args := [d1, d2] }
  | _ => none }
def WotsRecoversWrongFalsely : Prop := wotsRecoversRow.holds Try.pinned (OpenSpec.ofChange wotsRecoversWrong)

/-- 'landmarklaw06.WotsSteps': WHATEVER THE INPUT: true; the input reads as it did. -/
def wotsStepsSpec : ChangeSpec := { name := "wotsSteps", fn := fun _ => fun
  | [d1, d2, d3, d4, d5] => { results := [.lit (.bool true)], args := [d1, d2, d3, d4, d5] }
  | _ => none }
def wotsStepsRow : OpenClaim := { program := "ytclghfnmmnnceaa", sum := "4e9130f8bc10f15c74a798d4048621267f3e37f08caf3a8b5e8569a72b9e588e", func := "landmark/landmarklaw06.WotsSteps", spec := "wotsSteps", unfollowed := true, recurses := true, apart := false }
def WotsStepsSaid : Prop := wotsStepsRow.holds Try.pinned (OpenSpec.ofChange wotsStepsSpec)

/-- ITS FALSE NEIGHBOUR: 'it returns false'. Refute it at one input. -/
def wotsStepsWrong : ChangeSpec := { name := "wotsSteps", fn := fun _ => fun
  | [d1, d2, d3, d4, d5] => { results := [.lit (.bool false)], args := [d1, d2, d3, d4, d5] }
  | _ => none }
def WotsStepsWrongFalsely : Prop := wotsStepsRow.holds Try.pinned (OpenSpec.ofChange wotsStepsWrong)

/-- 'landmarklaw06.WotsSigns': WHATEVER THE INPUT: true; the input reads as it did. -/
def wotsSignsSpec : ChangeSpec := { name := "wotsSigns", fn := fun _ => fun
  | [d1, d2] => { results := [.lit (.bool true)], args := [d1, d2] }
  | _ => none }
def wotsSignsRow : OpenClaim := { program := "ytclghfnmmnnceaa", sum := "4e9130f8bc10f15c74a798d4048621267f3e37f08caf3a8b5e8569a72b9e588e", func := "landmark/landmarklaw06.WotsSigns", spec := "wotsSigns", unfollowed := true, recurses := true, apart := false }
def WotsSignsSaid : Prop := wotsSignsRow.holds Try.pinned (OpenSpec.ofChange wotsSignsSpec)

/-- ITS FALSE NEIGHBOUR: 'it returns false'. Refute it at one input. -/
def wotsSignsWrong : ChangeSpec := { name := "wotsSigns", fn := fun _ => fun
  | [d1, d2] => { results := [.lit (.bool false)], args := [d1, d2] }
  | _ => none }
def WotsSignsWrongFalsely : Prop := wotsSignsRow.holds Try.pinned (OpenSpec.ofChange wotsSignsWrong)

/- THE SECOND FORM. 'bulk': how many values and letters a reading holds, each counted each time it is reached (what is shared counts as often as it is met; a slice's spare places count too). A statement '..UptoSaid' is the law's where the arguments, and the package variables that the reading takes, are together of bulk at most 1048576: NARROWER than '..Said'. Prove '..Said' where nothing that the law and all that it calls make is longer than what came in: it says more and counts as full. Else prove '..UptoSaid'. A law counts once. -/
mutual
def uptoBulk {H : Type} : DataW H → Nat
  | .lit (.string bytes) => bytes.length + 1
  | .lit _ => 1
  | .nil => 1
  | .ptr d => uptoBulk d + 1
  | .slice elems spare => uptoBulkAll elems + uptoBulkAll spare + 1
  | .agg parts => uptoBulkAll parts + 1
  | .iface _ d => uptoBulk d + 1
  | .map entries => uptoBulkEntries entries + 1
  | .held _ => 1
def uptoBulkAll {H : Type} : List (DataW H) → Nat
  | [] => 0
  | d :: r => uptoBulk d + uptoBulkAll r
def uptoBulkEntries {H : Type} : List (Lit × DataW H) → Nat
  | [] => 0
  | x :: r => uptoBulkEntry x + uptoBulkEntries r
def uptoBulkEntry {H : Type} : Lit × DataW H → Nat
  | (.string bytes, d) => bytes.length + uptoBulk d + 1
  | (_, d) => uptoBulk d + 1
 end
def uptoSmall : (H : Type) → List (DataW H) → Bool := fun _ ds => decide (uptoBulkAll ds ≤ 1048576)
def OpenSpec.upto (s : _root_.Go.ChangeSpec) : _root_.Go.OpenSpec := { _root_.Go.OpenSpec.ofChange s with cond := some uptoSmall }

/-- 'landmarklaw06.WotsOn', WHERE WHAT IT READS IS OF BULK AT MOST 1048576: true; the input reads as it did. -/
def wotsOnUptoRow : OpenClaim := { program := "ytclghfnmmnnceaa", sum := "4e9130f8bc10f15c74a798d4048621267f3e37f08caf3a8b5e8569a72b9e588e", func := "landmark/landmarklaw06.WotsOn", spec := "wotsOn", unfollowed := true, recurses := true, apart := false, narrowed := true }
def WotsOnUptoSaid : Prop := wotsOnUptoRow.holds Try.pinned (OpenSpec.upto wotsOnSpec)

/-- 'landmarklaw06.WotsRecovers', WHERE WHAT IT READS IS OF BULK AT MOST 1048576: true; the input reads as it did. -/
def wotsRecoversUptoRow : OpenClaim := { program := "ytclghfnmmnnceaa", sum := "4e9130f8bc10f15c74a798d4048621267f3e37f08caf3a8b5e8569a72b9e588e", func := "landmark/landmarklaw06.WotsRecovers", spec := "wotsRecovers", unfollowed := true, recurses := true, apart := false, narrowed := true }
def WotsRecoversUptoSaid : Prop := wotsRecoversUptoRow.holds Try.pinned (OpenSpec.upto wotsRecoversSpec)

/-- 'landmarklaw06.WotsSteps', WHERE WHAT IT READS IS OF BULK AT MOST 1048576: true; the input reads as it did. -/
def wotsStepsUptoRow : OpenClaim := { program := "ytclghfnmmnnceaa", sum := "4e9130f8bc10f15c74a798d4048621267f3e37f08caf3a8b5e8569a72b9e588e", func := "landmark/landmarklaw06.WotsSteps", spec := "wotsSteps", unfollowed := true, recurses := true, apart := false, narrowed := true }
def WotsStepsUptoSaid : Prop := wotsStepsUptoRow.holds Try.pinned (OpenSpec.upto wotsStepsSpec)

/-- 'landmarklaw06.WotsSigns', WHERE WHAT IT READS IS OF BULK AT MOST 1048576: true; the input reads as it did. -/
def wotsSignsUptoRow : OpenClaim := { program := "ytclghfnmmnnceaa", sum := "4e9130f8bc10f15c74a798d4048621267f3e37f08caf3a8b5e8569a72b9e588e", func := "landmark/landmarklaw06.WotsSigns", spec := "wotsSigns", unfollowed := true, recurses := true, apart := false, narrowed := true }
def WotsSignsUptoSaid : Prop := wotsSignsUptoRow.holds Try.pinned (OpenSpec.upto wotsSignsSpec)

end Rows
end Go.Proofs.Ytclghfnmmnnceaa
