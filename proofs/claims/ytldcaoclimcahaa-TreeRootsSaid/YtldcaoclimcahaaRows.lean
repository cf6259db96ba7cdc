/-
  No cell of these rows narrows 'for every input' (looked for: loops, veiled, ifaces, maps, wideKeys, modest, calm, conditions, laid).
  DERIVED. THE GIVEN ROWS OF THIS SEAT. 9 by the template 'for every input the law returns true; each argument reads behind the call as it read before'; 0 by the template 'total and deterministic' (their statements: YtldcaoclimcahaaTotals.lean).
  GIVEN WITH THE SEED: the statements are not yours to turn. If you find one false, say at which input.
  Laid BY PROGRAM, IN A SANDBOX (cutbox-rows.mjs): the forced cells as the released guide's own fill.sh prints them over the translation fbc428665cc9b1f9… (all of the seat's roots in one cut). By AI agents, Wed Nov 11 2026. No macro, syntax, notation, axiom, sorry.
-/
import Derived.Test.YtldcaoclimcahaaChecked
import GoSem.Claim
import GoSem.ClaimJoined
import GoSem.ClaimMapViews
import Derived.JoinedTies
import Derived.KernelRfl
namespace Go.Proofs.Ytldcaoclimcahaa
/- THE CELL 'sum', in the pinned program and in every row, IS THE sha256 OF THE DUMP (.gsa) THAT YtldcaoclimcahaaProg.lean LOADS. Nothing in Lean hashes anything: it is a label: what it is worth is what the hold of that sum in a sandbox is worth. -/
noncomputable def Try.pinned : Pinned := { name := "ytldcaoclimcahaa", sum := "fbc428665cc9b1f91554e0f9d38d829c4e52fabd47db0bdcb553fcfa71eacc22", checked := Try.checked }
namespace Rows
def none {H : Type} : Left H := { results := [], args := [] }

/-- 'landmarklaw03.NamesPieces': WHATEVER THE INPUT: true; the input reads as it did. -/
def namesPiecesSpec : ChangeSpec := { name := "namesPieces", fn := fun _ => fun
  | [d1, d2] => { results := [.lit (.bool true)], args := [d1, d2] }
  | _ => none }
def namesPiecesRow : OpenClaim := { program := "ytldcaoclimcahaa", sum := "fbc428665cc9b1f91554e0f9d38d829c4e52fabd47db0bdcb553fcfa71eacc22", func := "landmark/landmarklaw03.NamesPieces", spec := "namesPieces", unfollowed := true, recurses := true, apart := false }
def NamesPiecesSaid : Prop := namesPiecesRow.holds Try.pinned (OpenSpec.ofChange namesPiecesSpec)

/-- ITS FALSE NEIGHBOUR: 'it returns false'. Refute it at one input. -/
def namesPiecesWrong : ChangeSpec := { name := "namesPieces", fn := fun _ => fun
  | [d1, d2] => { results := [.lit (.bool false)], args := [d1, d2] }
  | _ => none }
def NamesPiecesWrongFalsely : Prop := namesPiecesRow.holds Try.pinned (OpenSpec.ofChange namesPiecesWrong)

/-- 'landmarklaw03.NamesLengths': WHATEVER THE INPUT: true; the input reads as it did. -/
def namesLengthsSpec : ChangeSpec := { name := "namesLengths", fn := fun _ => fun
  | [] => { results := [.lit (.bool true)], args := [] }
  | _ => none }
def namesLengthsRow : OpenClaim := { program := "ytldcaoclimcahaa", sum := "fbc428665cc9b1f91554e0f9d38d829c4e52fabd47db0bdcb553fcfa71eacc22", func := "landmark/landmarklaw03.NamesLengths", spec := "namesLengths", unfollowed := true, recurses := true, apart := false }
def NamesLengthsSaid : Prop := namesLengthsRow.holds Try.pinned (OpenSpec.ofChange namesLengthsSpec)

/-- ITS FALSE NEIGHBOUR: 'it returns false'. Refute it at one input. -/
def namesLengthsWrong : ChangeSpec := { name := "namesLengths", fn := fun _ => fun
  | [] => { results := [.lit (.bool false)], args := [] }
  | _ => none }
def NamesLengthsWrongFalsely : Prop := namesLengthsRow.holds Try.pinned (OpenSpec.ofChange namesLengthsWrong)

/-- 'landmarklaw03.NamesWords': WHATEVER THE INPUT: true; the input reads as it did. -/
def namesWordsSpec : ChangeSpec := { name := "namesWords", fn := fun _ => fun
  | [] => { results := [.lit (.bool true)], args := [] }
  | _ => none }
def namesWordsRow : OpenClaim := { program := "ytldcaoclimcahaa", sum := "fbc428665cc9b1f91554e0f9d38d829c4e52fabd47db0bdcb553fcfa71eacc22", func := "landmark/landmarklaw03.NamesWords", spec := "namesWords", unfollowed := true, recurses := true, apart := false }
def NamesWordsSaid : Prop := namesWordsRow.holds Try.pinned (OpenSpec.ofChange namesWordsSpec)

/-- ITS FALSE NEIGHBOUR: 'it returns false'. Refute it at one input. -/
def namesWordsWrong : ChangeSpec := { name := "namesWords", fn := fun _ => fun
  | [] => { results := [.lit (.bool false)], args := [] }
  | _ => none }
def NamesWordsWrongFalsely : Prop := namesWordsRow.holds Try.pinned (OpenSpec.ofChange namesWordsWrong)

/-- 'landmarklaw03.NamesNodes': WHATEVER THE INPUT: true; the input reads as it did. -/
def namesNodesSpec : ChangeSpec := { name := "namesNodes", fn := fun _ => fun
  | [d1, d2, d3] => { results := [.lit (.bool true)], args := [d1, d2, d3] }
  | _ => none }
def namesNodesRow : OpenClaim := { program := "ytldcaoclimcahaa", sum := "fbc428665cc9b1f91554e0f9d38d829c4e52fabd47db0bdcb553fcfa71eacc22", func := "landmark/landmarklaw03.NamesNodes", spec := "namesNodes", unfollowed := true, recurses := true, apart := false }
def NamesNodesSaid : Prop := namesNodesRow.holds Try.pinned (OpenSpec.ofChange namesNodesSpec)

/-- ITS FALSE NEIGHBOUR: 'it returns false'. Refute it at one input. -/
def namesNodesWrong : ChangeSpec := { name := "namesNodes", fn := fun _ => fun
  | [d1, d2, d3] => { results := [.lit (.bool false)], args := [d1, d2, d3] }
  | _ => none }
def NamesNodesWrongFalsely : Prop := namesNodesRow.holds Try.pinned (OpenSpec.ofChange namesNodesWrong)

/-- 'landmarklaw07.TreeClimbs': WHATEVER THE INPUT: true; the input reads as it did. -/
def treeClimbsSpec : ChangeSpec := { name := "treeClimbs", fn := fun _ => fun
  | [d1, d2, d3] => { results := [.lit (.bool true)], args := [d1, d2, d3] }
  | _ => none }
def treeClimbsRow : OpenClaim := { program := "ytldcaoclimcahaa", sum := "fbc428665cc9b1f91554e0f9d38d829c4e52fabd47db0bdcb553fcfa71eacc22", func := "landmark/landmarklaw07.TreeClimbs", spec := "treeClimbs", unfollowed := true, recurses := true, apart := false }
def TreeClimbsSaid : Prop := treeClimbsRow.holds Try.pinned (OpenSpec.ofChange treeClimbsSpec)

/-- ITS FALSE NEIGHBOUR: 'it returns false'. Refute it at one input. -/
def treeClimbsWrong : ChangeSpec := { name := "treeClimbs", fn := fun _ => fun
  | [d1, d2, d3] => { results := [.lit (.bool false)], args := [d1, d2, d3] }
  | _ => none }
def TreeClimbsWrongFalsely : Prop := treeClimbsRow.holds Try.pinned (OpenSpec.ofChange treeClimbsWrong)

/-- 'landmarklaw07.TreeApart': WHATEVER THE INPUT: true; the input reads as it did. -/
def treeApartSpec : ChangeSpec := { name := "treeApart", fn := fun _ => fun
  | [d1, d2, d3, d4] => { results := [.lit (.bool true)], args := [d1, d2, d3, d4] }
  | _ => none }
def treeApartRow : OpenClaim := { program := "ytldcaoclimcahaa", sum := "fbc428665cc9b1f91554e0f9d38d829c4e52fabd47db0bdcb553fcfa71eacc22", func := "landmark/landmarklaw07.TreeApart", spec := "treeApart", unfollowed := true, recurses := true, apart := false }
def TreeApartSaid : Prop := treeApartRow.holds Try.pinned (OpenSpec.ofChange treeApartSpec)

/-- ITS FALSE NEIGHBOUR: 'it returns false'. Refute it at one input. -/
def treeApartWrong : ChangeSpec := { name := "treeApart", fn := fun _ => fun
  | [d1, d2, d3, d4] => { results := [.lit (.bool false)], args := [d1, d2, d3, d4] }
  | _ => none }
def TreeApartWrongFalsely : Prop := treeApartRow.holds Try.pinned (OpenSpec.ofChange treeApartWrong)

/-- 'landmarklaw03.NamesOrder': WHATEVER THE INPUT: true; the input reads as it did. -/
def namesOrderSpec : ChangeSpec := { name := "namesOrder", fn := fun _ => fun
  | [d1, d2] => { results := [.lit (.bool true)], args := [d1, d2] }
  | _ => none }
def namesOrderRow : OpenClaim := { program := "ytldcaoclimcahaa", sum := "fbc428665cc9b1f91554e0f9d38d829c4e52fabd47db0bdcb553fcfa71eacc22", func := "landmark/landmarklaw03.NamesOrder", spec := "namesOrder", unfollowed := true, recurses := true, apart := false }
def NamesOrderSaid : Prop := namesOrderRow.holds Try.pinned (OpenSpec.ofChange namesOrderSpec)

/-- ITS FALSE NEIGHBOUR: 'it returns false'. Refute it at one input. -/
def namesOrderWrong : ChangeSpec := { name := "namesOrder", fn := fun _ => fun
  | [d1, d2] => { results := [.lit (.bool false)], args := [d1, d2] }
  | _ => none }
def NamesOrderWrongFalsely : Prop := namesOrderRow.holds Try.pinned (OpenSpec.ofChange namesOrderWrong)

/-- 'landmarklaw07.TreeHalves': WHATEVER THE INPUT: true; the input reads as it did. -/
def treeHalvesSpec : ChangeSpec := { name := "treeHalves", fn := fun _ => fun
  | [d1, d2, d3] => { results := [.lit (.bool true)], args := [d1, d2, d3] }
  | _ => none }
def treeHalvesRow : OpenClaim := { program := "ytldcaoclimcahaa", sum := "fbc428665cc9b1f91554e0f9d38d829c4e52fabd47db0bdcb553fcfa71eacc22", func := "landmark/landmarklaw07.TreeHalves", spec := "treeHalves", unfollowed := true, recurses := true, apart := false }
def TreeHalvesSaid : Prop := treeHalvesRow.holds Try.pinned (OpenSpec.ofChange treeHalvesSpec)

/-- ITS FALSE NEIGHBOUR: 'it returns false'. Refute it at one input. -/
def treeHalvesWrong : ChangeSpec := { name := "treeHalves", fn := fun _ => fun
  | [d1, d2, d3] => { results := [.lit (.bool false)], args := [d1, d2, d3] }
  | _ => none }
def TreeHalvesWrongFalsely : Prop := treeHalvesRow.holds Try.pinned (OpenSpec.ofChange treeHalvesWrong)

/-- 'landmarklaw07.TreeRoots': WHATEVER THE INPUT: true; the input reads as it did. -/
def treeRootsSpec : ChangeSpec := { name := "treeRoots", fn := fun _ => fun
  | [d1, d2] => { results := [.lit (.bool true)], args := [d1, d2] }
  | _ => none }
def treeRootsRow : OpenClaim := { program := "ytldcaoclimcahaa", sum := "fbc428665cc9b1f91554e0f9d38d829c4e52fabd47db0bdcb553fcfa71eacc22", func := "landmark/landmarklaw07.TreeRoots", spec := "treeRoots", unfollowed := true, recurses := true, apart := false }
def TreeRootsSaid : Prop := treeRootsRow.holds Try.pinned (OpenSpec.ofChange treeRootsSpec)

/-- ITS FALSE NEIGHBOUR: 'it returns false'. Refute it at one input. -/
def treeRootsWrong : ChangeSpec := { name := "treeRoots", fn := fun _ => fun
  | [d1, d2] => { results := [.lit (.bool false)], args := [d1, d2] }
  | _ => none }
def TreeRootsWrongFalsely : Prop := treeRootsRow.holds Try.pinned (OpenSpec.ofChange treeRootsWrong)

/- THE SECOND FORM. 'bulk': how many values and letters a reading holds, each counted each time it is reached (what is shared counts as often as it is met; a slice's spare places count too). A statement '..UptoSaid' is the law's where the arguments, and the package variables that the reading takes, are together of bulk at most 1048576: NARROWER than '..Said'. Prove '..Said' where nothing that the law and all that it calls make is longer than what came in: it says more and counts as full. Else prove '..UptoSaid'. A law counts once. -/
mutual
def uptoBulk {H : Type} : DataW H → Nat
  | .lit (.string bytes) => bytes.length + 1
  | .lit _ => 1
  | .nil => 1
  | .ptr d => uptoBulk d + 1
  | .slice elems spare => uptoBulkAll elems + uptoBulkAll spare + 1
  | .agg parts => uptoBulkAll parts + 1
  | .iface _ d => uptoBulk d + 1
  | .map entries => uptoBulkEntries entries + 1
  | .held _ => 1
def uptoBulkAll {H : Type} : List (DataW H) → Nat
  | [] => 0
  | d :: r => uptoBulk d + uptoBulkAll r
def uptoBulkEntries {H : Type} : List (Lit × DataW H) → Nat
  | [] => 0
  | x :: r => uptoBulkEntry x + uptoBulkEntries r
def uptoBulkEntry {H : Type} : Lit × DataW H → Nat
  | (.string bytes, d) => bytes.length + uptoBulk d + 1
  | (_, d) => uptoBulk d + 1
 end
def uptoSmall : (H : Type) → List (DataW H) → Bool := fun _ ds => decide (uptoBulkAll ds ≤ 1048576)
def OpenSpec.upto (s : _root_.Go.ChangeSpec) : _root_.Go.OpenSpec := { _root_.Go.OpenSpec.ofChange s with cond := some uptoSmall }

/-- 'landmarklaw03.NamesPieces', WHERE WHAT IT READS IS OF BULK AT MOST 1048576: true; the input reads as it did. -/
def namesPiecesUptoRow : OpenClaim := { program := "ytldcaoclimcahaa", sum := "fbc428665cc9b1f91554e0f9d38d829c4e52fabd47db0bdcb553fcfa71eacc22", func := "landmark/landmarklaw03.NamesPieces", spec := "namesPieces", unfollowed := true, recurses := true, apart := false, narrowed := true }
def NamesPiecesUptoSaid : Prop := namesPiecesUptoRow.holds Try.pinned (OpenSpec.upto namesPiecesSpec)

/-- 'landmarklaw03.NamesLengths', WHERE WHAT IT READS IS OF BULK AT MOST 1048576: true; the input reads as it did. -/
def namesLengthsUptoRow : OpenClaim := { program := "ytldcaoclimcahaa", sum := "fbc428665cc9b1f91554e0f9d38d829c4e52fabd47db0bdcb553fcfa71eacc22", func := "landmark/landmarklaw03.NamesLengths", spec := "namesLengths", unfollowed := true, recurses := true, apart := false, narrowed := true }
def NamesLengthsUptoSaid : Prop := namesLengthsUptoRow.holds Try.pinned (OpenSpec.upto namesLengthsSpec)

/-- 'landmarklaw03.NamesWords', WHERE WHAT IT READS IS OF BULK AT MOST 1048576: true; the input reads as it did. -/
def namesWordsUptoRow : OpenClaim := { program := "ytldcaoclimcahaa", sum := "fbc428665cc9b1f91554e0f9d38d829c4e52fabd47db0bdcb553fcfa71eacc22", func := "landmark/landmarklaw03.NamesWords", spec := "namesWords", unfollowed := true, recurses := true, apart := false, narrowed := true }
def NamesWordsUptoSaid : Prop := namesWordsUptoRow.holds Try.pinned (OpenSpec.upto namesWordsSpec)

/-- 'landmarklaw03.NamesNodes', WHERE WHAT IT READS IS OF BULK AT MOST 1048576: true; the input reads as it did. -/
def namesNodesUptoRow : OpenClaim := { program := "ytldcaoclimcahaa", sum := "fbc428665cc9b1f91554e0f9d38d829c4e52fabd47db0bdcb553fcfa71eacc22", func := "landmark/landmarklaw03.NamesNodes", spec := "namesNodes", unfollowed := true, recurses := true, apart := false, narrowed := true }
def NamesNodesUptoSaid : Prop := namesNodesUptoRow.holds Try.pinned (OpenSpec.upto namesNodesSpec)

/-- 'landmarklaw07.TreeClimbs', WHERE WHAT IT READS IS OF BULK AT MOST 1048576: true; the input reads as it did. -/
def treeClimbsUptoRow : OpenClaim := { program := "ytldcaoclimcahaa", sum := "fbc428665cc9b1f91554e0f9d38d829c4e52fabd47db0bdcb553fcfa71eacc22", func := "landmark/landmarklaw07.TreeClimbs", spec := "treeClimbs", unfollowed := true, recurses := true, apart := false, narrowed := true }
def TreeClimbsUptoSaid : Prop := treeClimbsUptoRow.holds Try.pinned (OpenSpec.upto treeClimbsSpec)

/-- 'landmarklaw07.TreeApart', WHERE WHAT IT READS IS OF BULK AT MOST 1048576: true; the input reads as it did. -/
def treeApartUptoRow : OpenClaim := { program := "ytldcaoclimcahaa", sum := "fbc428665cc9b1f91554e0f9d38d829c4e52fabd47db0bdcb553fcfa71eacc22", func := "landmark/landmarklaw07.TreeApart", spec := "treeApart", unfollowed := true, recurses := true, apart := false, narrowed := true }
def TreeApartUptoSaid : Prop := treeApartUptoRow.holds Try.pinned (OpenSpec.upto treeApartSpec)

/-- 'landmarklaw03.NamesOrder', WHERE WHAT IT READS IS OF BULK AT MOST 1048576: true; the input reads as it did. -/
def namesOrderUptoRow : OpenClaim := { program := "ytldcaoclimcahaa", sum := "fbc428665cc9b1f91554e0f9d38d829c4e52fabd47db0bdcb553fcfa71eacc22", func := "landmark/landmarklaw03.NamesOrder", spec := "namesOrder", unfollowed := true, recurses := true, apart := false, narrowed := true }
def NamesOrderUptoSaid : Prop := namesOrderUptoRow.holds Try.pinned (OpenSpec.upto namesOrderSpec)

/-- 'landmarklaw07.TreeHalves', WHERE WHAT IT READS IS OF BULK AT MOST 1048576: true; the input reads as it did. -/
def treeHalvesUptoRow : OpenClaim := { program := "ytldcaoclimcahaa", sum := "fbc428665cc9b1f91554e0f9d38d829c4e52fabd47db0bdcb553fcfa71eacc22", func := "landmark/landmarklaw07.TreeHalves", spec := "treeHalves", unfollowed := true, recurses := true, apart := false, narrowed := true }
def TreeHalvesUptoSaid : Prop := treeHalvesUptoRow.holds Try.pinned (OpenSpec.upto treeHalvesSpec)

/-- 'landmarklaw07.TreeRoots', WHERE WHAT IT READS IS OF BULK AT MOST 1048576: true; the input reads as it did. -/
def treeRootsUptoRow : OpenClaim := { program := "ytldcaoclimcahaa", sum := "fbc428665cc9b1f91554e0f9d38d829c4e52fabd47db0bdcb553fcfa71eacc22", func := "landmark/landmarklaw07.TreeRoots", spec := "treeRoots", unfollowed := true, recurses := true, apart := false, narrowed := true }
def TreeRootsUptoSaid : Prop := treeRootsUptoRow.holds Try.pinned (OpenSpec.upto treeRootsSpec)

end Rows
end Go.Proofs.Ytldcaoclimcahaa
