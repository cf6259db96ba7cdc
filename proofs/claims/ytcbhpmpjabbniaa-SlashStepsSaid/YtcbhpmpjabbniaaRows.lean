/-
  No cell of these rows narrows 'for every input' (looked for: loops, veiled, ifaces, maps, wideKeys, modest, calm, conditions, laid).
  DERIVED. THE GIVEN ROWS OF THIS SEAT. 8 by the template 'for every input the law returns true; each argument reads behind the call as it read before'; 0 by the template 'total and deterministic' (their statements: YtcbhpmpjabbniaaTotals.lean).
  GIVEN WITH THE SEED: the statements are not yours to turn. If you find one false, say at which input.
  Laid BY PROGRAM, IN A SANDBOX (cutbox-rows.mjs): the forced cells as the released guide's own fill.sh prints them over the translation 49a1f53d7552c3df… (all of the seat's roots in one cut). By AI agents, Wed Nov 11 2026. No macro, syntax, notation, axiom, sorry.
-/
import Derived.Test.YtcbhpmpjabbniaaChecked
import GoSem.Claim
import GoSem.ClaimJoined
import GoSem.ClaimMapViews
import Derived.JoinedTies
import Derived.KernelRfl
namespace Go.Proofs.Ytcbhpmpjabbniaa
/- THE CELL 'sum', in the pinned program and in every row, IS THE sha256 OF THE DUMP (.gsa) THAT YtcbhpmpjabbniaaProg.lean LOADS. Nothing in Lean hashes anything: it is a label: what it is worth is what the hold of that sum in a sandbox is worth. -/
noncomputable def Try.pinned : Pinned := { name := "ytcbhpmpjabbniaa", sum := "49a1f53d7552c3df794ca2e089c1fb07fab060760afa0314fe875d072219465f", checked := Try.checked }
namespace Rows
def none {H : Type} : Left H := { results := [], args := [] }

/-- 'landmarklaw14.SlashBreaks': WHATEVER THE INPUT: true; the input reads as it did. -/
def slashBreaksSpec : ChangeSpec := { name := "slashBreaks", fn := fun _ => fun
  | [d1, d2] => { results := [.lit (.bool true)], args := [d1, d2] }
  | _ => none }
def slashBreaksRow : OpenClaim := { program := "ytcbhpmpjabbniaa", sum := "49a1f53d7552c3df794ca2e089c1fb07fab060760afa0314fe875d072219465f", func := "landmark/landmarklaw14.SlashBreaks", spec := "slashBreaks", unfollowed := true, recurses := true, apart := false }
def SlashBreaksSaid : Prop := slashBreaksRow.holds Try.pinned (OpenSpec.ofChange slashBreaksSpec)

/-- ITS FALSE NEIGHBOUR: 'it returns false'. Refute it at one input. -/
def slashBreaksWrong : ChangeSpec := { name := "slashBreaks", fn := fun _ => fun
  | [d1, d2] => { results := [.lit (.bool false)], args := [d1, d2] }
  | _ => none }
def SlashBreaksWrongFalsely : Prop := slashBreaksRow.holds Try.pinned (OpenSpec.ofChange slashBreaksWrong)

/-- 'landmarklaw14.SlashSteps': WHATEVER THE INPUT: true; the input reads as it did. -/
def slashStepsSpec : ChangeSpec := { name := "slashSteps", fn := fun _ => fun
  | [d1, d2, d3] => { results := [.lit (.bool true)], args := [d1, d2, d3] }
  | _ => none }
def slashStepsRow : OpenClaim := { program := "ytcbhpmpjabbniaa", sum := "49a1f53d7552c3df794ca2e089c1fb07fab060760afa0314fe875d072219465f", func := "landmark/landmarklaw14.SlashSteps", spec := "slashSteps", unfollowed := true, recurses := true, apart := false }
def SlashStepsSaid : Prop := slashStepsRow.holds Try.pinned (OpenSpec.ofChange slashStepsSpec)

/-- ITS FALSE NEIGHBOUR: 'it returns false'. Refute it at one input. -/
def slashStepsWrong : ChangeSpec := { name := "slashSteps", fn := fun _ => fun
  | [d1, d2, d3] => { results := [.lit (.bool false)], args := [d1, d2, d3] }
  | _ => none }
def SlashStepsWrongFalsely : Prop := slashStepsRow.holds Try.pinned (OpenSpec.ofChange slashStepsWrong)

/-- 'landmarklaw06.WotsDigits': WHATEVER THE INPUT: true; the input reads as it did. -/
def wotsDigitsSpec : ChangeSpec := { name := "wotsDigits", fn := fun _ => fun
  | [d1, d2] => { results := [.lit (.bool true)], args := [d1, d2] }
  | _ => none }
def wotsDigitsRow : OpenClaim := { program := "ytcbhpmpjabbniaa", sum := "49a1f53d7552c3df794ca2e089c1fb07fab060760afa0314fe875d072219465f", func := "landmark/landmarklaw06.WotsDigits", spec := "wotsDigits", unfollowed := true, recurses := true, apart := false }
def WotsDigitsSaid : Prop := wotsDigitsRow.holds Try.pinned (OpenSpec.ofChange wotsDigitsSpec)

/-- ITS FALSE NEIGHBOUR: 'it returns false'. Refute it at one input. -/
def wotsDigitsWrong : ChangeSpec := { name := "wotsDigits", fn := fun _ => fun
  | [d1, d2] => { results := [.lit (.bool false)], args := [d1, d2] }
  | _ => none }
def WotsDigitsWrongFalsely : Prop := wotsDigitsRow.holds Try.pinned (OpenSpec.ofChange wotsDigitsWrong)

/-- 'landmarklaw16.WeakWindows': WHATEVER THE INPUT: true; the input reads as it did. -/
def weakWindowsSpec : ChangeSpec := { name := "weakWindows", fn := fun _ => fun
  | [d1, d2] => { results := [.lit (.bool true)], args := [d1, d2] }
  | _ => none }
def weakWindowsRow : OpenClaim := { program := "ytcbhpmpjabbniaa", sum := "49a1f53d7552c3df794ca2e089c1fb07fab060760afa0314fe875d072219465f", func := "landmark/landmarklaw16.WeakWindows", spec := "weakWindows", unfollowed := true, recurses := true, apart := false }
def WeakWindowsSaid : Prop := weakWindowsRow.holds Try.pinned (OpenSpec.ofChange weakWindowsSpec)

/-- ITS FALSE NEIGHBOUR: 'it returns false'. Refute it at one input. -/
def weakWindowsWrong : ChangeSpec := { name := "weakWindows", fn := fun _ => fun
  | [d1, d2] => { results := [.lit (.bool false)], args := [d1, d2] }
  | _ => none }
def WeakWindowsWrongFalsely : Prop := weakWindowsRow.holds Try.pinned (OpenSpec.ofChange weakWindowsWrong)

/-- 'landmarklaw16.WeakMeans': WHATEVER THE INPUT: true; the input reads as it did. -/
def weakMeansSpec : ChangeSpec := { name := "weakMeans", fn := fun _ => fun
  | [d1, d2, d3, d4, d5, d6, d7] => { results := [.lit (.bool true)], args := [d1, d2, d3, d4, d5, d6, d7] }
  | _ => none }
def weakMeansRow : OpenClaim := { program := "ytcbhpmpjabbniaa", sum := "49a1f53d7552c3df794ca2e089c1fb07fab060760afa0314fe875d072219465f", func := "landmark/landmarklaw16.WeakMeans", spec := "weakMeans", unfollowed := true, recurses := true, apart := false }
def WeakMeansSaid : Prop := weakMeansRow.holds Try.pinned (OpenSpec.ofChange weakMeansSpec)

/-- ITS FALSE NEIGHBOUR: 'it returns false'. Refute it at one input. -/
def weakMeansWrong : ChangeSpec := { name := "weakMeans", fn := fun _ => fun
  | [d1, d2, d3, d4, d5, d6, d7] => { results := [.lit (.bool false)], args := [d1, d2, d3, d4, d5, d6, d7] }
  | _ => none }
def WeakMeansWrongFalsely : Prop := weakMeansRow.holds Try.pinned (OpenSpec.ofChange weakMeansWrong)

/-- 'landmarklaw16.WeakScales': WHATEVER THE INPUT: true; the input reads as it did. -/
def weakScalesSpec : ChangeSpec := { name := "weakScales", fn := fun _ => fun
  | [d1, d2, d3] => { results := [.lit (.bool true)], args := [d1, d2, d3] }
  | _ => none }
def weakScalesRow : OpenClaim := { program := "ytcbhpmpjabbniaa", sum := "49a1f53d7552c3df794ca2e089c1fb07fab060760afa0314fe875d072219465f", func := "landmark/landmarklaw16.WeakScales", spec := "weakScales", unfollowed := true, recurses := true, apart := false }
def WeakScalesSaid : Prop := weakScalesRow.holds Try.pinned (OpenSpec.ofChange weakScalesSpec)

/-- ITS FALSE NEIGHBOUR: 'it returns false'. Refute it at one input. -/
def weakScalesWrong : ChangeSpec := { name := "weakScales", fn := fun _ => fun
  | [d1, d2, d3] => { results := [.lit (.bool false)], args := [d1, d2, d3] }
  | _ => none }
def WeakScalesWrongFalsely : Prop := weakScalesRow.holds Try.pinned (OpenSpec.ofChange weakScalesWrong)

/-- 'landmarklaw16.WeakTimes': WHATEVER THE INPUT: true; the input reads as it did. -/
def weakTimesSpec : ChangeSpec := { name := "weakTimes", fn := fun _ => fun
  | [d1, d2, d3] => { results := [.lit (.bool true)], args := [d1, d2, d3] }
  | _ => none }
def weakTimesRow : OpenClaim := { program := "ytcbhpmpjabbniaa", sum := "49a1f53d7552c3df794ca2e089c1fb07fab060760afa0314fe875d072219465f", func := "landmark/landmarklaw16.WeakTimes", spec := "weakTimes", unfollowed := true, recurses := true, apart := false }
def WeakTimesSaid : Prop := weakTimesRow.holds Try.pinned (OpenSpec.ofChange weakTimesSpec)

/-- ITS FALSE NEIGHBOUR: 'it returns false'. Refute it at one input. -/
def weakTimesWrong : ChangeSpec := { name := "weakTimes", fn := fun _ => fun
  | [d1, d2, d3] => { results := [.lit (.bool false)], args := [d1, d2, d3] }
  | _ => none }
def WeakTimesWrongFalsely : Prop := weakTimesRow.holds Try.pinned (OpenSpec.ofChange weakTimesWrong)

/-- 'landmarklaw16.WeakEnds': WHATEVER THE INPUT: true; the input reads as it did. -/
def weakEndsSpec : ChangeSpec := { name := "weakEnds", fn := fun _ => fun
  | [d1, d2, d3] => { results := [.lit (.bool true)], args := [d1, d2, d3] }
  | _ => none }
def weakEndsRow : OpenClaim := { program := "ytcbhpmpjabbniaa", sum := "49a1f53d7552c3df794ca2e089c1fb07fab060760afa0314fe875d072219465f", func := "landmark/landmarklaw16.WeakEnds", spec := "weakEnds", unfollowed := true, recurses := true, apart := false }
def WeakEndsSaid : Prop := weakEndsRow.holds Try.pinned (OpenSpec.ofChange weakEndsSpec)

/-- ITS FALSE NEIGHBOUR: 'it returns false'. Refute it at one input. -/
def weakEndsWrong : ChangeSpec := { name := "weakEnds", fn := fun _ => fun
  | [d1, d2, d3] => { results := [.lit (.bool false)], args := [d1, d2, d3] }
  | _ => none }
def WeakEndsWrongFalsely : Prop := weakEndsRow.holds Try.pinned (OpenSpec.ofChange weakEndsWrong)

/- THE SECOND FORM. 'bulk': how many values and letters a reading holds, each counted each time it is reached (what is shared counts as often as it is met; a slice's spare places count too). A statement '..UptoSaid' is the law's where the arguments, and the package variables that the reading takes, are together of bulk at most 1048576: NARROWER than '..Said'. Prove '..Said' where nothing that the law and all that it calls make is longer than what came in: it says more and counts as full. Else prove '..UptoSaid'. A law counts once. -/
mutual
def uptoBulk {H : Type} : DataW H → Nat
  | .lit (.string bytes) => bytes.length + 1
  | .lit _ => 1
  | .nil => 1
  | .ptr d => uptoBulk d + 1
  | .slice elems spare => uptoBulkAll elems + uptoBulkAll spare + 1
  | .agg parts => uptoBulkAll parts + 1
  | .iface _ d => uptoBulk d + 1
  | .map entries => uptoBulkEntries entries + 1
  | .held _ => 1
def uptoBulkAll {H : Type} : List (DataW H) → Nat
  | [] => 0
  | d :: r => uptoBulk d + uptoBulkAll r
def uptoBulkEntries {H : Type} : List (Lit × DataW H) → Nat
  | [] => 0
  | x :: r => uptoBulkEntry x + uptoBulkEntries r
def uptoBulkEntry {H : Type} : Lit × DataW H → Nat
  | (.string bytes, d) => bytes.length + uptoBulk d + 1
  | (_, d) => uptoBulk d + 1
 end
def uptoSmall : (H : Type) → List (DataW H) → Bool := fun _ ds => decide (uptoBulkAll ds ≤ 1048576)
def OpenSpec.upto (s : _root_.Go.ChangeSpec) : _root_.Go.OpenSpec := { _root_.Go.OpenSpec.ofChange s with cond := some uptoSmall }

/-- 'landmarklaw14.SlashBreaks', WHERE WHAT IT READS IS OF BULK AT MOST 1048576: true; the input reads as it did. -/
def slashBreaksUptoRow : OpenClaim := { program := "ytcbhpmpjabbniaa", sum := "49a1f53d7552c3df794ca2e089c1fb07fab060760afa0314fe875d072219465f", func := "landmark/landmarklaw14.SlashBreaks", spec := "slashBreaks", unfollowed := true, recurses := true, apart := false, narrowed := true }
def SlashBreaksUptoSaid : Prop := slashBreaksUptoRow.holds Try.pinned (OpenSpec.upto slashBreaksSpec)

/-- 'landmarklaw14.SlashSteps', WHERE WHAT IT READS IS OF BULK AT MOST 1048576: true; the input reads as it did. -/
def slashStepsUptoRow : OpenClaim := { program := "ytcbhpmpjabbniaa", sum := "49a1f53d7552c3df794ca2e089c1fb07fab060760afa0314fe875d072219465f", func := "landmark/landmarklaw14.SlashSteps", spec := "slashSteps", unfollowed := true, recurses := true, apart := false, narrowed := true }
def SlashStepsUptoSaid : Prop := slashStepsUptoRow.holds Try.pinned (OpenSpec.upto slashStepsSpec)

/-- 'landmarklaw06.WotsDigits', WHERE WHAT IT READS IS OF BULK AT MOST 1048576: true; the input reads as it did. -/
def wotsDigitsUptoRow : OpenClaim := { program := "ytcbhpmpjabbniaa", sum := "49a1f53d7552c3df794ca2e089c1fb07fab060760afa0314fe875d072219465f", func := "landmark/landmarklaw06.WotsDigits", spec := "wotsDigits", unfollowed := true, recurses := true, apart := false, narrowed := true }
def WotsDigitsUptoSaid : Prop := wotsDigitsUptoRow.holds Try.pinned (OpenSpec.upto wotsDigitsSpec)

/-- 'landmarklaw16.WeakWindows', WHERE WHAT IT READS IS OF BULK AT MOST 1048576: true; the input reads as it did. -/
def weakWindowsUptoRow : OpenClaim := { program := "ytcbhpmpjabbniaa", sum := "49a1f53d7552c3df794ca2e089c1fb07fab060760afa0314fe875d072219465f", func := "landmark/landmarklaw16.WeakWindows", spec := "weakWindows", unfollowed := true, recurses := true, apart := false, narrowed := true }
def WeakWindowsUptoSaid : Prop := weakWindowsUptoRow.holds Try.pinned (OpenSpec.upto weakWindowsSpec)

/-- 'landmarklaw16.WeakMeans', WHERE WHAT IT READS IS OF BULK AT MOST 1048576: true; the input reads as it did. -/
def weakMeansUptoRow : OpenClaim := { program := "ytcbhpmpjabbniaa", sum := "49a1f53d7552c3df794ca2e089c1fb07fab060760afa0314fe875d072219465f", func := "landmark/landmarklaw16.WeakMeans", spec := "weakMeans", unfollowed := true, recurses := true, apart := false, narrowed := true }
def WeakMeansUptoSaid : Prop := weakMeansUptoRow.holds Try.pinned (OpenSpec.upto weakMeansSpec)

/-- 'landmarklaw16.WeakScales', WHERE WHAT IT READS IS OF BULK AT MOST 1048576: true; the input reads as it did. -/
def weakScalesUptoRow : OpenClaim := { program := "ytcbhpmpjabbniaa", sum := "49a1f53d7552c3df794ca2e089c1fb07fab060760afa0314fe875d072219465f", func := "landmark/landmarklaw16.WeakScales", spec := "weakScales", unfollowed := true, recurses := true, apart := false, narrowed := true }
def WeakScalesUptoSaid : Prop := weakScalesUptoRow.holds Try.pinned (OpenSpec.upto weakScalesSpec)

/-- 'landmarklaw16.WeakTimes', WHERE WHAT IT READS IS OF BULK AT MOST 1048576: true; the input reads as it did. -/
def weakTimesUptoRow : OpenClaim := { program := "ytcbhpmpjabbniaa", sum := "49a1f53d7552c3df794ca2e089c1fb07fab060760afa0314fe875d072219465f", func := "landmark/landmarklaw16.WeakTimes", spec := "weakTimes", unfollowed := true, recurses := true, apart := false, narrowed := true }
def WeakTimesUptoSaid : Prop := weakTimesUptoRow.holds Try.pinned (OpenSpec.upto weakTimesSpec)

/-- 'landmarklaw16.WeakEnds', WHERE WHAT IT READS IS OF BULK AT MOST 1048576: true; the input reads as it did. -/
def weakEndsUptoRow : OpenClaim := { program := "ytcbhpmpjabbniaa", sum := "49a1f53d7552c3df794ca2e089c1fb07fab060760afa0314fe875d072219465f", func := "landmark/landmarklaw16.WeakEnds", spec := "weakEnds", unfollowed := true, recurses := true, apart := false, narrowed := true }
def WeakEndsUptoSaid : Prop := weakEndsUptoRow.holds Try.pinned (OpenSpec.upto weakEndsSpec)

end Rows
end Go.Proofs.Ytcbhpmpjabbniaa
