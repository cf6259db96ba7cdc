/-
  No cell of these rows narrows 'for every input' (looked for: loops, veiled, ifaces, maps, wideKeys, modest, calm, conditions, laid).
  DERIVED. THE GIVEN ROWS OF THIS SEAT. 6 by the template 'for every input the law returns true; each argument reads behind the call as it read before'; 0 by the template 'total and deterministic' (their statements: YtoiiapjmmjmeoaaTotals.lean).
  GIVEN WITH THE SEED: the statements are not yours to turn. If you find one false, say at which input.
  Laid BY PROGRAM, IN A SANDBOX (cutbox-rows.mjs): the forced cells as the released guide's own fill.sh prints them over the translation e83697f115a20a64… (all of the seat's roots in one cut). By AI agents, Wed Nov 11 2026. No macro, syntax, notation, axiom, sorry.
-/
import Derived.Test.YtoiiapjmmjmeoaaChecked
import GoSem.Claim
import GoSem.ClaimJoined
import GoSem.ClaimMapViews
import Derived.JoinedTies
import Derived.KernelRfl
namespace Go.Proofs.Ytoiiapjmmjmeoaa
/- THE CELL 'sum', in the pinned program and in every row, IS THE sha256 OF THE DUMP (.gsa) THAT YtoiiapjmmjmeoaaProg.lean LOADS. Nothing in Lean hashes anything: it is a label: what it is worth is what the hold of that sum in a sandbox is worth. -/
noncomputable def Try.pinned : Pinned := { name := "ytoiiapjmmjmeoaa", sum := "e83697f115a20a6474c294cba10656149e9e9095b8fa4b007475dfce6e2f98c9", checked := Try.checked }
namespace Rows
def none {H : Type} : Left H := { results := [], args := [] }

/-- 'landmarklaw01.RowsAny': WHATEVER THE INPUT: true; the input reads as it did. -/
def rowsAnySpec : ChangeSpec := { name := "rowsAny", fn := fun _ => fun
  | [d1, d2] => { results := [.lit (.bool true)], args := [d1, d2] }
  | _ => none }
def rowsAnyRow : OpenClaim := { program := "ytoiiapjmmjmeoaa", sum := "e83697f115a20a6474c294cba10656149e9e9095b8fa4b007475dfce6e2f98c9", func := "landmark/landmarklaw01.RowsAny", spec := "rowsAny", inPlace := ["internal/bytealg.Count", "internal/bytealg.IndexByte", "internal/bytealg.Index"], named := ["internal/bytealg.MaxLen"], apart := false }
def RowsAnySaid : Prop := rowsAnyRow.holds Try.pinned (OpenSpec.ofChange rowsAnySpec)

/-- ITS FALSE NEIGHBOUR: 'it returns false'. Refute it at one input. -/
def rowsAnyWrong : ChangeSpec := { name := "rowsAny", fn := fun _ => fun
  | [d1, d2] => { results := [.lit (.bool false)], args := [d1, d2] }
  | _ => none }
def RowsAnyWrongFalsely : Prop := rowsAnyRow.holds Try.pinned (OpenSpec.ofChange rowsAnyWrong)

/-- 'landmarklaw01.RowsNone': WHATEVER THE INPUT: true; the input reads as it did. -/
def rowsNoneSpec : ChangeSpec := { name := "rowsNone", fn := fun _ => fun
  | [] => { results := [.lit (.bool true)], args := [] }
  | _ => none }
def rowsNoneRow : OpenClaim := { program := "ytoiiapjmmjmeoaa", sum := "e83697f115a20a6474c294cba10656149e9e9095b8fa4b007475dfce6e2f98c9", func := "landmark/landmarklaw01.RowsNone", spec := "rowsNone", inPlace := ["internal/bytealg.Count", "internal/bytealg.IndexByte", "internal/bytealg.Index"], named := ["internal/bytealg.MaxLen"], apart := false }
def RowsNoneSaid : Prop := rowsNoneRow.holds Try.pinned (OpenSpec.ofChange rowsNoneSpec)

/-- ITS FALSE NEIGHBOUR: 'it returns false'. Refute it at one input. -/
def rowsNoneWrong : ChangeSpec := { name := "rowsNone", fn := fun _ => fun
  | [] => { results := [.lit (.bool false)], args := [] }
  | _ => none }
def RowsNoneWrongFalsely : Prop := rowsNoneRow.holds Try.pinned (OpenSpec.ofChange rowsNoneWrong)

/-- 'landmarklaw01.FieldWidths': WHATEVER THE INPUT: true; the input reads as it did. -/
def fieldWidthsSpec : ChangeSpec := { name := "fieldWidths", fn := fun _ => fun
  | [d1, d2, d3, d4] => { results := [.lit (.bool true)], args := [d1, d2, d3, d4] }
  | _ => none }
def fieldWidthsRow : OpenClaim := { program := "ytoiiapjmmjmeoaa", sum := "e83697f115a20a6474c294cba10656149e9e9095b8fa4b007475dfce6e2f98c9", func := "landmark/landmarklaw01.FieldWidths", spec := "fieldWidths", inPlace := ["internal/bytealg.Count", "internal/bytealg.IndexByte", "internal/bytealg.Index", "internal/bytealg.MakeNoZero"], named := ["internal/bytealg.MaxLen"], apart := false }
def FieldWidthsSaid : Prop := fieldWidthsRow.holds Try.pinned (OpenSpec.ofChange fieldWidthsSpec)

/-- ITS FALSE NEIGHBOUR: 'it returns false'. Refute it at one input. -/
def fieldWidthsWrong : ChangeSpec := { name := "fieldWidths", fn := fun _ => fun
  | [d1, d2, d3, d4] => { results := [.lit (.bool false)], args := [d1, d2, d3, d4] }
  | _ => none }
def FieldWidthsWrongFalsely : Prop := fieldWidthsRow.holds Try.pinned (OpenSpec.ofChange fieldWidthsWrong)

/-- 'landmarklaw01.FieldBlobs': WHATEVER THE INPUT: true; the input reads as it did. -/
def fieldBlobsSpec : ChangeSpec := { name := "fieldBlobs", fn := fun _ => fun
  | [d1, d2] => { results := [.lit (.bool true)], args := [d1, d2] }
  | _ => none }
def fieldBlobsRow : OpenClaim := { program := "ytoiiapjmmjmeoaa", sum := "e83697f115a20a6474c294cba10656149e9e9095b8fa4b007475dfce6e2f98c9", func := "landmark/landmarklaw01.FieldBlobs", spec := "fieldBlobs", inPlace := ["internal/bytealg.Count", "internal/bytealg.IndexByte", "internal/bytealg.Index", "internal/bytealg.MakeNoZero"], named := ["internal/bytealg.MaxLen"], apart := false }
def FieldBlobsSaid : Prop := fieldBlobsRow.holds Try.pinned (OpenSpec.ofChange fieldBlobsSpec)

/-- ITS FALSE NEIGHBOUR: 'it returns false'. Refute it at one input. -/
def fieldBlobsWrong : ChangeSpec := { name := "fieldBlobs", fn := fun _ => fun
  | [d1, d2] => { results := [.lit (.bool false)], args := [d1, d2] }
  | _ => none }
def FieldBlobsWrongFalsely : Prop := fieldBlobsRow.holds Try.pinned (OpenSpec.ofChange fieldBlobsWrong)

/-- 'landmarklaw01.RowsBack': WHATEVER THE INPUT: true; the input reads as it did. -/
def rowsBackSpec : ChangeSpec := { name := "rowsBack", fn := fun _ => fun
  | [d1, d2, d3, d4] => { results := [.lit (.bool true)], args := [d1, d2, d3, d4] }
  | _ => none }
def rowsBackRow : OpenClaim := { program := "ytoiiapjmmjmeoaa", sum := "e83697f115a20a6474c294cba10656149e9e9095b8fa4b007475dfce6e2f98c9", func := "landmark/landmarklaw01.RowsBack", spec := "rowsBack", inPlace := ["internal/bytealg.Count", "internal/bytealg.IndexByte", "internal/bytealg.Index", "internal/bytealg.MakeNoZero"], named := ["internal/bytealg.MaxLen"], apart := false }
def RowsBackSaid : Prop := rowsBackRow.holds Try.pinned (OpenSpec.ofChange rowsBackSpec)

/-- ITS FALSE NEIGHBOUR: 'it returns false'. Refute it at one input. -/
def rowsBackWrong : ChangeSpec := { name := "rowsBack", fn := fun _ => fun
  | [d1, d2, d3, d4] => { results := [.lit (.bool false)], args := [d1, d2, d3, d4] }
  | _ => none }
def RowsBackWrongFalsely : Prop := rowsBackRow.holds Try.pinned (OpenSpec.ofChange rowsBackWrong)

/-- 'landmarklaw01.FieldTexts': WHATEVER THE INPUT: true; the input reads as it did. -/
def fieldTextsSpec : ChangeSpec := { name := "fieldTexts", fn := fun _ => fun
  | [d1, d2, d3] => { results := [.lit (.bool true)], args := [d1, d2, d3] }
  | _ => none }
def fieldTextsRow : OpenClaim := { program := "ytoiiapjmmjmeoaa", sum := "e83697f115a20a6474c294cba10656149e9e9095b8fa4b007475dfce6e2f98c9", func := "landmark/landmarklaw01.FieldTexts", spec := "fieldTexts", inPlace := ["internal/bytealg.Count", "internal/bytealg.IndexByte", "internal/bytealg.Index", "internal/bytealg.IndexByteString", "internal/abi.NoEscape", "internal/bytealg.MakeNoZero"], named := ["internal/bytealg.MaxLen"], apart := false }
def FieldTextsSaid : Prop := fieldTextsRow.holds Try.pinned (OpenSpec.ofChange fieldTextsSpec)

/-- ITS FALSE NEIGHBOUR: 'it returns false'. Refute it at one input. -/
def fieldTextsWrong : ChangeSpec := { name := "fieldTexts", fn := fun _ => fun
  | [d1, d2, d3] => { results := [.lit (.bool false)], args := [d1, d2, d3] }
  | _ => none }
def FieldTextsWrongFalsely : Prop := fieldTextsRow.holds Try.pinned (OpenSpec.ofChange fieldTextsWrong)

/- THE SECOND FORM. 'bulk': how many values and letters a reading holds, each counted each time it is reached (what is shared counts as often as it is met; a slice's spare places count too). A statement '..UptoSaid' is the law's where the arguments, and the package variables that the reading takes, are together of bulk at most 1048576: NARROWER than '..Said'. Prove '..Said' where nothing that the law and all that it calls make is longer than what came in: it says more and counts as full. Else prove '..UptoSaid'. A law counts once. -/
mutual
def uptoBulk {H : Type} : DataW H → Nat
  | .lit (.string bytes) => bytes.length + 1
  | .lit _ => 1
  | .nil => 1
  | .ptr d => uptoBulk d + 1
  | .slice elems spare => uptoBulkAll elems + uptoBulkAll spare + 1
  | .agg parts => uptoBulkAll parts + 1
  | .iface _ d => uptoBulk d + 1
  | .map entries => uptoBulkEntries entries + 1
  | .held _ => 1
def uptoBulkAll {H : Type} : List (DataW H) → Nat
  | [] => 0
  | d :: r => uptoBulk d + uptoBulkAll r
def uptoBulkEntries {H : Type} : List (Lit × DataW H) → Nat
  | [] => 0
  | x :: r => uptoBulkEntry x + uptoBulkEntries r
def uptoBulkEntry {H : Type} : Lit × DataW H → Nat
  | (.string bytes, d) => bytes.length + uptoBulk d + 1
  | (_, d) => uptoBulk d + 1
 end
def uptoSmall : (H : Type) → List (DataW H) → Bool := fun _ ds => decide (uptoBulkAll ds ≤ 1048576)
def OpenSpec.upto (s : _root_.Go.ChangeSpec) : _root_.Go.OpenSpec := { _root_.Go.OpenSpec.ofChange s with cond := some uptoSmall }

/-- 'landmarklaw01.RowsAny', WHERE WHAT IT READS IS OF BULK AT MOST 1048576: true; the input reads as it did. -/
def rowsAnyUptoRow : OpenClaim := { program := "ytoiiapjmmjmeoaa", sum := "e83697f115a20a6474c294cba10656149e9e9095b8fa4b007475dfce6e2f98c9", func := "landmark/landmarklaw01.RowsAny", spec := "rowsAny", inPlace := ["internal/bytealg.Count", "internal/bytealg.IndexByte", "internal/bytealg.Index"], named := ["internal/bytealg.MaxLen"], apart := false, narrowed := true }
def RowsAnyUptoSaid : Prop := rowsAnyUptoRow.holds Try.pinned (OpenSpec.upto rowsAnySpec)

/-- 'landmarklaw01.RowsNone', WHERE WHAT IT READS IS OF BULK AT MOST 1048576: true; the input reads as it did. -/
def rowsNoneUptoRow : OpenClaim := { program := "ytoiiapjmmjmeoaa", sum := "e83697f115a20a6474c294cba10656149e9e9095b8fa4b007475dfce6e2f98c9", func := "landmark/landmarklaw01.RowsNone", spec := "rowsNone", inPlace := ["internal/bytealg.Count", "internal/bytealg.IndexByte", "internal/bytealg.Index"], named := ["internal/bytealg.MaxLen"], apart := false, narrowed := true }
def RowsNoneUptoSaid : Prop := rowsNoneUptoRow.holds Try.pinned (OpenSpec.upto rowsNoneSpec)

/-- 'landmarklaw01.FieldWidths', WHERE WHAT IT READS IS OF BULK AT MOST 1048576: true; the input reads as it did. -/
def fieldWidthsUptoRow : OpenClaim := { program := "ytoiiapjmmjmeoaa", sum := "e83697f115a20a6474c294cba10656149e9e9095b8fa4b007475dfce6e2f98c9", func := "landmark/landmarklaw01.FieldWidths", spec := "fieldWidths", inPlace := ["internal/bytealg.Count", "internal/bytealg.IndexByte", "internal/bytealg.Index", "internal/bytealg.MakeNoZero"], named := ["internal/bytealg.MaxLen"], apart := false, narrowed := true }
def FieldWidthsUptoSaid : Prop := fieldWidthsUptoRow.holds Try.pinned (OpenSpec.upto fieldWidthsSpec)

/-- 'landmarklaw01.FieldBlobs', WHERE WHAT IT READS IS OF BULK AT MOST 1048576: true; the input reads as it did. -/
def fieldBlobsUptoRow : OpenClaim := { program := "ytoiiapjmmjmeoaa", sum := "e83697f115a20a6474c294cba10656149e9e9095b8fa4b007475dfce6e2f98c9", func := "landmark/landmarklaw01.FieldBlobs", spec := "fieldBlobs", inPlace := ["internal/bytealg.Count", "internal/bytealg.IndexByte", "internal/bytealg.Index", "internal/bytealg.MakeNoZero"], named := ["internal/bytealg.MaxLen"], apart := false, narrowed := true }
def FieldBlobsUptoSaid : Prop := fieldBlobsUptoRow.holds Try.pinned (OpenSpec.upto fieldBlobsSpec)

/-- 'landmarklaw01.RowsBack', WHERE WHAT IT READS IS OF BULK AT MOST 1048576: true; the input reads as it did. -/
def rowsBackUptoRow : OpenClaim := { program := "ytoiiapjmmjmeoaa", sum := "e83697f115a20a6474c294cba10656149e9e9095b8fa4b007475dfce6e2f98c9", func := "landmark/landmarklaw01.RowsBack", spec := "rowsBack", inPlace := ["internal/bytealg.Count", "internal/bytealg.IndexByte", "internal/bytealg.Index", "internal/bytealg.MakeNoZero"], named := ["internal/bytealg.MaxLen"], apart := false, narrowed := true }
def RowsBackUptoSaid : Prop := rowsBackUptoRow.holds Try.pinned (OpenSpec.upto rowsBackSpec)

/-- 'landmarklaw01.FieldTexts', WHERE WHAT IT READS IS OF BULK AT MOST 1048576: true; the input reads as it did. -/
def fieldTextsUptoRow : OpenClaim := { program := "ytoiiapjmmjmeoaa", sum := "e83697f115a20a6474c294cba10656149e9e9095b8fa4b007475dfce6e2f98c9", func := "landmark/landmarklaw01.FieldTexts", spec := "fieldTexts", inPlace := ["internal/bytealg.Count", "internal/bytealg.IndexByte", "internal/bytealg.Index", "internal/bytealg.IndexByteString", "internal/abi.NoEscape", "internal/bytealg.MakeNoZero"], named := ["internal/bytealg.MaxLen"], apart := false, narrowed := true }
def FieldTextsUptoSaid : Prop := fieldTextsUptoRow.holds Try.pinned (OpenSpec.upto fieldTextsSpec)

end Rows
end Go.Proofs.Ytoiiapjmmjmeoaa
