/-
  No cell of these rows narrows 'for every input' (looked for: loops, veiled, ifaces, maps, wideKeys, modest, calm, conditions, laid).
  DERIVED. THE GIVEN ROWS OF THIS SEAT. 14 by the template 'for every input the law returns true; each argument reads behind the call as it read before'; 0 by the template 'total and deterministic' (their statements: YtnndhmnabbkamaaTotals.lean).
  GIVEN WITH THE SEED: the statements are not yours to turn. If you find one false, say at which input.
  Laid BY PROGRAM, IN A SANDBOX (cutbox-rows.mjs): the forced cells as the released guide's own fill.sh prints them over the translation 26d4c63a3f1932ab… (all of the seat's roots in one cut). By AI agents, Wed Nov 11 2026. No macro, syntax, notation, axiom, sorry.
-/
import Derived.Test.YtnndhmnabbkamaaChecked
import GoSem.Claim
import GoSem.ClaimJoined
import GoSem.ClaimMapViews
import Derived.JoinedTies
import Derived.KernelRfl
namespace Go.Proofs.Ytnndhmnabbkamaa
/- THE CELL 'sum', in the pinned program and in every row, IS THE sha256 OF THE DUMP (.gsa) THAT YtnndhmnabbkamaaProg.lean LOADS. Nothing in Lean hashes anything: it is a label: what it is worth is what the hold of that sum in a sandbox is worth. -/
noncomputable def Try.pinned : Pinned := { name := "ytnndhmnabbkamaa", sum := "26d4c63a3f1932ab839a01d8ca1090aee063c6910f5df000610b903ed35266f4", checked := Try.checked }
namespace Rows
def none {H : Type} : Left H := { results := [], args := [] }

/-- 'barbicanlaw05.FieldForms': WHATEVER THE INPUT: true; the input reads as it did. -/
def fieldFormsSpec : ChangeSpec := { name := "fieldForms", fn := fun _ => fun
  | [d1, d2] => { results := [.lit (.bool true)], args := [d1, d2] }
  | _ => none }
def fieldFormsRow : OpenClaim := { program := "ytnndhmnabbkamaa", sum := "26d4c63a3f1932ab839a01d8ca1090aee063c6910f5df000610b903ed35266f4", func := "barbican/barbicanlaw05.FieldForms", spec := "fieldForms", inPlace := ["math/bits.Sub64", "math/bits.Add64"], apart := false }
def FieldFormsSaid : Prop := fieldFormsRow.holds Try.pinned (OpenSpec.ofChange fieldFormsSpec)

/-- ITS FALSE NEIGHBOUR: 'it returns false'. Refute it at one input. -/
def fieldFormsWrong : ChangeSpec := { name := "fieldForms", fn := fun _ => fun
  | [d1, d2] => { results := [.lit (.bool false)], args := [d1, d2] }
  | _ => none }
def FieldFormsWrongFalsely : Prop := fieldFormsRow.holds Try.pinned (OpenSpec.ofChange fieldFormsWrong)

/-- 'barbicanlaw05.FieldSums': WHATEVER THE INPUT: true; the input reads as it did. -/
def fieldSumsSpec : ChangeSpec := { name := "fieldSums", fn := fun _ => fun
  | [d1, d2, d3] => { results := [.lit (.bool true)], args := [d1, d2, d3] }
  | _ => none }
def fieldSumsRow : OpenClaim := { program := "ytnndhmnabbkamaa", sum := "26d4c63a3f1932ab839a01d8ca1090aee063c6910f5df000610b903ed35266f4", func := "barbican/barbicanlaw05.FieldSums", spec := "fieldSums", inPlace := ["math/bits.Sub64", "math/bits.Add64"], apart := false }
def FieldSumsSaid : Prop := fieldSumsRow.holds Try.pinned (OpenSpec.ofChange fieldSumsSpec)

/-- ITS FALSE NEIGHBOUR: 'it returns false'. Refute it at one input. -/
def fieldSumsWrong : ChangeSpec := { name := "fieldSums", fn := fun _ => fun
  | [d1, d2, d3] => { results := [.lit (.bool false)], args := [d1, d2, d3] }
  | _ => none }
def FieldSumsWrongFalsely : Prop := fieldSumsRow.holds Try.pinned (OpenSpec.ofChange fieldSumsWrong)

/-- 'barbicanlaw05.FieldPowers': WHATEVER THE INPUT: true; the input reads as it did. -/
def fieldPowersSpec : ChangeSpec := { name := "fieldPowers", fn := fun _ => fun
  | [d1, d2, d3] => { results := [.lit (.bool true)], args := [d1, d2, d3] }
  | _ => none }
def fieldPowersRow : OpenClaim := { program := "ytnndhmnabbkamaa", sum := "26d4c63a3f1932ab839a01d8ca1090aee063c6910f5df000610b903ed35266f4", func := "barbican/barbicanlaw05.FieldPowers", spec := "fieldPowers", inPlace := ["math/bits.Sub64", "math/bits.Add64"], apart := false }
def FieldPowersSaid : Prop := fieldPowersRow.holds Try.pinned (OpenSpec.ofChange fieldPowersSpec)

/-- ITS FALSE NEIGHBOUR: 'it returns false'. Refute it at one input. -/
def fieldPowersWrong : ChangeSpec := { name := "fieldPowers", fn := fun _ => fun
  | [d1, d2, d3] => { results := [.lit (.bool false)], args := [d1, d2, d3] }
  | _ => none }
def FieldPowersWrongFalsely : Prop := fieldPowersRow.holds Try.pinned (OpenSpec.ofChange fieldPowersWrong)

/-- 'barbicanlaw05.FieldRoots': WHATEVER THE INPUT: true; the input reads as it did. -/
def fieldRootsSpec : ChangeSpec := { name := "fieldRoots", fn := fun _ => fun
  | [d1, d2] => { results := [.lit (.bool true)], args := [d1, d2] }
  | _ => none }
def fieldRootsRow : OpenClaim := { program := "ytnndhmnabbkamaa", sum := "26d4c63a3f1932ab839a01d8ca1090aee063c6910f5df000610b903ed35266f4", func := "barbican/barbicanlaw05.FieldRoots", spec := "fieldRoots", inPlace := ["math/bits.Sub64", "math/bits.Add64"], apart := false }
def FieldRootsSaid : Prop := fieldRootsRow.holds Try.pinned (OpenSpec.ofChange fieldRootsSpec)

/-- ITS FALSE NEIGHBOUR: 'it returns false'. Refute it at one input. -/
def fieldRootsWrong : ChangeSpec := { name := "fieldRoots", fn := fun _ => fun
  | [d1, d2] => { results := [.lit (.bool false)], args := [d1, d2] }
  | _ => none }
def FieldRootsWrongFalsely : Prop := fieldRootsRow.holds Try.pinned (OpenSpec.ofChange fieldRootsWrong)

/-- 'barbicanlaw05.FieldLaws': WHATEVER THE INPUT: true; the input reads as it did. -/
def fieldLawsSpec : ChangeSpec := { name := "fieldLaws", fn := fun _ => fun
  | [d1, d2] => { results := [.lit (.bool true)], args := [d1, d2] }
  | _ => none }
def fieldLawsRow : OpenClaim := { program := "ytnndhmnabbkamaa", sum := "26d4c63a3f1932ab839a01d8ca1090aee063c6910f5df000610b903ed35266f4", func := "barbican/barbicanlaw05.FieldLaws", spec := "fieldLaws", inPlace := ["math/bits.Sub64", "math/bits.Add64"], apart := false }
def FieldLawsSaid : Prop := fieldLawsRow.holds Try.pinned (OpenSpec.ofChange fieldLawsSpec)

/-- ITS FALSE NEIGHBOUR: 'it returns false'. Refute it at one input. -/
def fieldLawsWrong : ChangeSpec := { name := "fieldLaws", fn := fun _ => fun
  | [d1, d2] => { results := [.lit (.bool false)], args := [d1, d2] }
  | _ => none }
def FieldLawsWrongFalsely : Prop := fieldLawsRow.holds Try.pinned (OpenSpec.ofChange fieldLawsWrong)

/-- 'barbicanlaw06.CurveAdds': WHATEVER THE INPUT: true; the input reads as it did. -/
def curveAddsSpec : ChangeSpec := { name := "curveAdds", fn := fun _ => fun
  | [d1, d2] => { results := [.lit (.bool true)], args := [d1, d2] }
  | _ => none }
def curveAddsRow : OpenClaim := { program := "ytnndhmnabbkamaa", sum := "26d4c63a3f1932ab839a01d8ca1090aee063c6910f5df000610b903ed35266f4", func := "barbican/barbicanlaw06.CurveAdds", spec := "curveAdds", inPlace := ["math/bits.Sub64", "math/bits.Add64"], apart := false }
def CurveAddsSaid : Prop := curveAddsRow.holds Try.pinned (OpenSpec.ofChange curveAddsSpec)

/-- ITS FALSE NEIGHBOUR: 'it returns false'. Refute it at one input. -/
def curveAddsWrong : ChangeSpec := { name := "curveAdds", fn := fun _ => fun
  | [d1, d2] => { results := [.lit (.bool false)], args := [d1, d2] }
  | _ => none }
def CurveAddsWrongFalsely : Prop := curveAddsRow.holds Try.pinned (OpenSpec.ofChange curveAddsWrong)

/-- 'barbicanlaw06.CurveMuls': WHATEVER THE INPUT: true; the input reads as it did. -/
def curveMulsSpec : ChangeSpec := { name := "curveMuls", fn := fun _ => fun
  | [d1, d2, d3] => { results := [.lit (.bool true)], args := [d1, d2, d3] }
  | _ => none }
def curveMulsRow : OpenClaim := { program := "ytnndhmnabbkamaa", sum := "26d4c63a3f1932ab839a01d8ca1090aee063c6910f5df000610b903ed35266f4", func := "barbican/barbicanlaw06.CurveMuls", spec := "curveMuls", inPlace := ["math/bits.Sub64", "math/bits.Add64"], apart := false }
def CurveMulsSaid : Prop := curveMulsRow.holds Try.pinned (OpenSpec.ofChange curveMulsSpec)

/-- ITS FALSE NEIGHBOUR: 'it returns false'. Refute it at one input. -/
def curveMulsWrong : ChangeSpec := { name := "curveMuls", fn := fun _ => fun
  | [d1, d2, d3] => { results := [.lit (.bool false)], args := [d1, d2, d3] }
  | _ => none }
def CurveMulsWrongFalsely : Prop := curveMulsRow.holds Try.pinned (OpenSpec.ofChange curveMulsWrong)

/-- 'barbicanlaw06.CurveGroup': WHATEVER THE INPUT: true; the input reads as it did. -/
def curveGroupSpec : ChangeSpec := { name := "curveGroup", fn := fun _ => fun
  | [d] => { results := [.lit (.bool true)], args := [d] }
  | _ => none }
def curveGroupRow : OpenClaim := { program := "ytnndhmnabbkamaa", sum := "26d4c63a3f1932ab839a01d8ca1090aee063c6910f5df000610b903ed35266f4", func := "barbican/barbicanlaw06.CurveGroup", spec := "curveGroup", inPlace := ["math/bits.Sub64", "math/bits.Add64"], apart := false }
def CurveGroupSaid : Prop := curveGroupRow.holds Try.pinned (OpenSpec.ofChange curveGroupSpec)

/-- ITS FALSE NEIGHBOUR: 'it returns false'. Refute it at one input. -/
def curveGroupWrong : ChangeSpec := { name := "curveGroup", fn := fun _ => fun
  | [d] => { results := [.lit (.bool false)], args := [d] }
  | _ => none }
def CurveGroupWrongFalsely : Prop := curveGroupRow.holds Try.pinned (OpenSpec.ofChange curveGroupWrong)

/-- 'barbicanlaw06.CurveDecodes': WHATEVER THE INPUT: true; the input reads as it did. -/
def curveDecodesSpec : ChangeSpec := { name := "curveDecodes", fn := fun _ => fun
  | [d] => { results := [.lit (.bool true)], args := [d] }
  | _ => none }
def curveDecodesRow : OpenClaim := { program := "ytnndhmnabbkamaa", sum := "26d4c63a3f1932ab839a01d8ca1090aee063c6910f5df000610b903ed35266f4", func := "barbican/barbicanlaw06.CurveDecodes", spec := "curveDecodes", inPlace := ["math/bits.Sub64", "math/bits.Add64"], apart := false }
def CurveDecodesSaid : Prop := curveDecodesRow.holds Try.pinned (OpenSpec.ofChange curveDecodesSpec)

/-- ITS FALSE NEIGHBOUR: 'it returns false'. Refute it at one input. -/
def curveDecodesWrong : ChangeSpec := { name := "curveDecodes", fn := fun _ => fun
  | [d] => { results := [.lit (.bool false)], args := [d] }
  | _ => none }
def CurveDecodesWrongFalsely : Prop := curveDecodesRow.holds Try.pinned (OpenSpec.ofChange curveDecodesWrong)

/-- 'barbicanlaw06.CurvePoints': WHATEVER THE INPUT: true; the input reads as it did. -/
def curvePointsSpec : ChangeSpec := { name := "curvePoints", fn := fun _ => fun
  | [d] => { results := [.lit (.bool true)], args := [d] }
  | _ => none }
def curvePointsRow : OpenClaim := { program := "ytnndhmnabbkamaa", sum := "26d4c63a3f1932ab839a01d8ca1090aee063c6910f5df000610b903ed35266f4", func := "barbican/barbicanlaw06.CurvePoints", spec := "curvePoints", inPlace := ["math/bits.Sub64", "math/bits.Add64"], apart := false }
def CurvePointsSaid : Prop := curvePointsRow.holds Try.pinned (OpenSpec.ofChange curvePointsSpec)

/-- ITS FALSE NEIGHBOUR: 'it returns false'. Refute it at one input. -/
def curvePointsWrong : ChangeSpec := { name := "curvePoints", fn := fun _ => fun
  | [d] => { results := [.lit (.bool false)], args := [d] }
  | _ => none }
def CurvePointsWrongFalsely : Prop := curvePointsRow.holds Try.pinned (OpenSpec.ofChange curvePointsWrong)

/-- 'barbicanlaw07.EcdsaParts': WHATEVER THE INPUT: true; the input reads as it did. -/
def ecdsaPartsSpec : ChangeSpec := { name := "ecdsaParts", fn := fun _ => fun
  | [d1, d2, d3] => { results := [.lit (.bool true)], args := [d1, d2, d3] }
  | _ => none }
def ecdsaPartsRow : OpenClaim := { program := "ytnndhmnabbkamaa", sum := "26d4c63a3f1932ab839a01d8ca1090aee063c6910f5df000610b903ed35266f4", func := "barbican/barbicanlaw07.EcdsaParts", spec := "ecdsaParts", inPlace := ["math/bits.Sub64", "math/bits.Add64"], apart := false }
def EcdsaPartsSaid : Prop := ecdsaPartsRow.holds Try.pinned (OpenSpec.ofChange ecdsaPartsSpec)

/-- ITS FALSE NEIGHBOUR: 'it returns false'. Refute it at one input. -/
def ecdsaPartsWrong : ChangeSpec := { name := "ecdsaParts", fn := fun _ => fun
  | [d1, d2, d3] => { results := [.lit (.bool false)], args := [d1, d2, d3] }
  | _ => none }
def EcdsaPartsWrongFalsely : Prop := ecdsaPartsRow.holds Try.pinned (OpenSpec.ofChange ecdsaPartsWrong)

/-- 'barbicanlaw07.EcdsaVerifies': WHATEVER THE INPUT: true; the input reads as it did. -/
def ecdsaVerifiesSpec : ChangeSpec := { name := "ecdsaVerifies", fn := fun _ => fun
  | [d1, d2, d3] => { results := [.lit (.bool true)], args := [d1, d2, d3] }
  | _ => none }
def ecdsaVerifiesRow : OpenClaim := { program := "ytnndhmnabbkamaa", sum := "26d4c63a3f1932ab839a01d8ca1090aee063c6910f5df000610b903ed35266f4", func := "barbican/barbicanlaw07.EcdsaVerifies", spec := "ecdsaVerifies", inPlace := ["math/bits.Sub64", "math/bits.Add64"], apart := false }
def EcdsaVerifiesSaid : Prop := ecdsaVerifiesRow.holds Try.pinned (OpenSpec.ofChange ecdsaVerifiesSpec)

/-- ITS FALSE NEIGHBOUR: 'it returns false'. Refute it at one input. -/
def ecdsaVerifiesWrong : ChangeSpec := { name := "ecdsaVerifies", fn := fun _ => fun
  | [d1, d2, d3] => { results := [.lit (.bool false)], args := [d1, d2, d3] }
  | _ => none }
def EcdsaVerifiesWrongFalsely : Prop := ecdsaVerifiesRow.holds Try.pinned (OpenSpec.ofChange ecdsaVerifiesWrong)

/-- 'barbicanlaw07.EcdsaSigned': WHATEVER THE INPUT: true; the input reads as it did. -/
def ecdsaSignedSpec : ChangeSpec := { name := "ecdsaSigned", fn := fun _ => fun
  | [d] => { results := [.lit (.bool true)], args := [d] }
  | _ => none }
def ecdsaSignedRow : OpenClaim := { program := "ytnndhmnabbkamaa", sum := "26d4c63a3f1932ab839a01d8ca1090aee063c6910f5df000610b903ed35266f4", func := "barbican/barbicanlaw07.EcdsaSigned", spec := "ecdsaSigned", inPlace := ["math/bits.Sub64", "math/bits.Add64"], apart := false }
def EcdsaSignedSaid : Prop := ecdsaSignedRow.holds Try.pinned (OpenSpec.ofChange ecdsaSignedSpec)

/-- ITS FALSE NEIGHBOUR: 'it returns false'. Refute it at one input. -/
def ecdsaSignedWrong : ChangeSpec := { name := "ecdsaSigned", fn := fun _ => fun
  | [d] => { results := [.lit (.bool false)], args := [d] }
  | _ => none }
def EcdsaSignedWrongFalsely : Prop := ecdsaSignedRow.holds Try.pinned (OpenSpec.ofChange ecdsaSignedWrong)

/-- 'barbicanlaw07.EcdsaBound': WHATEVER THE INPUT: true; the input reads as it did. -/
def ecdsaBoundSpec : ChangeSpec := { name := "ecdsaBound", fn := fun _ => fun
  | [d1, d2] => { results := [.lit (.bool true)], args := [d1, d2] }
  | _ => none }
def ecdsaBoundRow : OpenClaim := { program := "ytnndhmnabbkamaa", sum := "26d4c63a3f1932ab839a01d8ca1090aee063c6910f5df000610b903ed35266f4", func := "barbican/barbicanlaw07.EcdsaBound", spec := "ecdsaBound", inPlace := ["math/bits.Sub64", "math/bits.Add64"], apart := false }
def EcdsaBoundSaid : Prop := ecdsaBoundRow.holds Try.pinned (OpenSpec.ofChange ecdsaBoundSpec)

/-- ITS FALSE NEIGHBOUR: 'it returns false'. Refute it at one input. -/
def ecdsaBoundWrong : ChangeSpec := { name := "ecdsaBound", fn := fun _ => fun
  | [d1, d2] => { results := [.lit (.bool false)], args := [d1, d2] }
  | _ => none }
def EcdsaBoundWrongFalsely : Prop := ecdsaBoundRow.holds Try.pinned (OpenSpec.ofChange ecdsaBoundWrong)

/- THE SECOND FORM. 'bulk': how many values and letters a reading holds, each counted each time it is reached (what is shared counts as often as it is met; a slice's spare places count too). A statement '..UptoSaid' is the law's where the arguments, and the package variables that the reading takes, are together of bulk at most 1048576: NARROWER than '..Said'. Prove '..Said' where nothing that the law and all that it calls make is longer than what came in: it says more and counts as full. Else prove '..UptoSaid'. A law counts once. -/
mutual
def uptoBulk {H : Type} : DataW H → Nat
  | .lit (.string bytes) => bytes.length + 1
  | .lit _ => 1
  | .nil => 1
  | .ptr d => uptoBulk d + 1
  | .slice elems spare => uptoBulkAll elems + uptoBulkAll spare + 1
  | .agg parts => uptoBulkAll parts + 1
  | .iface _ d => uptoBulk d + 1
  | .map entries => uptoBulkEntries entries + 1
  | .held _ => 1
def uptoBulkAll {H : Type} : List (DataW H) → Nat
  | [] => 0
  | d :: r => uptoBulk d + uptoBulkAll r
def uptoBulkEntries {H : Type} : List (Lit × DataW H) → Nat
  | [] => 0
  | x :: r => uptoBulkEntry x + uptoBulkEntries r
def uptoBulkEntry {H : Type} : Lit × DataW H → Nat
  | (.string bytes, d) => bytes.length + uptoBulk d + 1
  | (_, d) => uptoBulk d + 1
 end
def uptoSmall : (H : Type) → List (DataW H) → Bool := fun _ ds => decide (uptoBulkAll ds ≤ 1048576)
def OpenSpec.upto (s : _root_.Go.ChangeSpec) : _root_.Go.OpenSpec := { _root_.Go.OpenSpec.ofChange s with cond := some uptoSmall }

/-- 'barbicanlaw05.FieldForms', WHERE WHAT IT READS IS OF BULK AT MOST 1048576: true; the input reads as it did. -/
def fieldFormsUptoRow : OpenClaim := { program := "ytnndhmnabbkamaa", sum := "26d4c63a3f1932ab839a01d8ca1090aee063c6910f5df000610b903ed35266f4", func := "barbican/barbicanlaw05.FieldForms", spec := "fieldForms", inPlace := ["math/bits.Sub64", "math/bits.Add64"], apart := false, narrowed := true }
def FieldFormsUptoSaid : Prop := fieldFormsUptoRow.holds Try.pinned (OpenSpec.upto fieldFormsSpec)

/-- 'barbicanlaw05.FieldSums', WHERE WHAT IT READS IS OF BULK AT MOST 1048576: true; the input reads as it did. -/
def fieldSumsUptoRow : OpenClaim := { program := "ytnndhmnabbkamaa", sum := "26d4c63a3f1932ab839a01d8ca1090aee063c6910f5df000610b903ed35266f4", func := "barbican/barbicanlaw05.FieldSums", spec := "fieldSums", inPlace := ["math/bits.Sub64", "math/bits.Add64"], apart := false, narrowed := true }
def FieldSumsUptoSaid : Prop := fieldSumsUptoRow.holds Try.pinned (OpenSpec.upto fieldSumsSpec)

/-- 'barbicanlaw05.FieldPowers', WHERE WHAT IT READS IS OF BULK AT MOST 1048576: true; the input reads as it did. -/
def fieldPowersUptoRow : OpenClaim := { program := "ytnndhmnabbkamaa", sum := "26d4c63a3f1932ab839a01d8ca1090aee063c6910f5df000610b903ed35266f4", func := "barbican/barbicanlaw05.FieldPowers", spec := "fieldPowers", inPlace := ["math/bits.Sub64", "math/bits.Add64"], apart := false, narrowed := true }
def FieldPowersUptoSaid : Prop := fieldPowersUptoRow.holds Try.pinned (OpenSpec.upto fieldPowersSpec)

/-- 'barbicanlaw05.FieldRoots', WHERE WHAT IT READS IS OF BULK AT MOST 1048576: true; the input reads as it did. -/
def fieldRootsUptoRow : OpenClaim := { program := "ytnndhmnabbkamaa", sum := "26d4c63a3f1932ab839a01d8ca1090aee063c6910f5df000610b903ed35266f4", func := "barbican/barbicanlaw05.FieldRoots", spec := "fieldRoots", inPlace := ["math/bits.Sub64", "math/bits.Add64"], apart := false, narrowed := true }
def FieldRootsUptoSaid : Prop := fieldRootsUptoRow.holds Try.pinned (OpenSpec.upto fieldRootsSpec)

/-- 'barbicanlaw05.FieldLaws', WHERE WHAT IT READS IS OF BULK AT MOST 1048576: true; the input reads as it did. -/
def fieldLawsUptoRow : OpenClaim := { program := "ytnndhmnabbkamaa", sum := "26d4c63a3f1932ab839a01d8ca1090aee063c6910f5df000610b903ed35266f4", func := "barbican/barbicanlaw05.FieldLaws", spec := "fieldLaws", inPlace := ["math/bits.Sub64", "math/bits.Add64"], apart := false, narrowed := true }
def FieldLawsUptoSaid : Prop := fieldLawsUptoRow.holds Try.pinned (OpenSpec.upto fieldLawsSpec)

/-- 'barbicanlaw06.CurveAdds', WHERE WHAT IT READS IS OF BULK AT MOST 1048576: true; the input reads as it did. -/
def curveAddsUptoRow : OpenClaim := { program := "ytnndhmnabbkamaa", sum := "26d4c63a3f1932ab839a01d8ca1090aee063c6910f5df000610b903ed35266f4", func := "barbican/barbicanlaw06.CurveAdds", spec := "curveAdds", inPlace := ["math/bits.Sub64", "math/bits.Add64"], apart := false, narrowed := true }
def CurveAddsUptoSaid : Prop := curveAddsUptoRow.holds Try.pinned (OpenSpec.upto curveAddsSpec)

/-- 'barbicanlaw06.CurveMuls', WHERE WHAT IT READS IS OF BULK AT MOST 1048576: true; the input reads as it did. -/
def curveMulsUptoRow : OpenClaim := { program := "ytnndhmnabbkamaa", sum := "26d4c63a3f1932ab839a01d8ca1090aee063c6910f5df000610b903ed35266f4", func := "barbican/barbicanlaw06.CurveMuls", spec := "curveMuls", inPlace := ["math/bits.Sub64", "math/bits.Add64"], apart := false, narrowed := true }
def CurveMulsUptoSaid : Prop := curveMulsUptoRow.holds Try.pinned (OpenSpec.upto curveMulsSpec)

/-- 'barbicanlaw06.CurveGroup', WHERE WHAT IT READS IS OF BULK AT MOST 1048576: true; the input reads as it did. -/
def curveGroupUptoRow : OpenClaim := { program := "ytnndhmnabbkamaa", sum := "26d4c63a3f1932ab839a01d8ca1090aee063c6910f5df000610b903ed35266f4", func := "barbican/barbicanlaw06.CurveGroup", spec := "curveGroup", inPlace := ["math/bits.Sub64", "math/bits.Add64"], apart := false, narrowed := true }
def CurveGroupUptoSaid : Prop := curveGroupUptoRow.holds Try.pinned (OpenSpec.upto curveGroupSpec)

/-- 'barbicanlaw06.CurveDecodes', WHERE WHAT IT READS IS OF BULK AT MOST 1048576: true; the input reads as it did. -/
def curveDecodesUptoRow : OpenClaim := { program := "ytnndhmnabbkamaa", sum := "26d4c63a3f1932ab839a01d8ca1090aee063c6910f5df000610b903ed35266f4", func := "barbican/barbicanlaw06.CurveDecodes", spec := "curveDecodes", inPlace := ["math/bits.Sub64", "math/bits.Add64"], apart := false, narrowed := true }
def CurveDecodesUptoSaid : Prop := curveDecodesUptoRow.holds Try.pinned (OpenSpec.upto curveDecodesSpec)

/-- 'barbicanlaw06.CurvePoints', WHERE WHAT IT READS IS OF BULK AT MOST 1048576: true; the input reads as it did. -/
def curvePointsUptoRow : OpenClaim := { program := "ytnndhmnabbkamaa", sum := "26d4c63a3f1932ab839a01d8ca1090aee063c6910f5df000610b903ed35266f4", func := "barbican/barbicanlaw06.CurvePoints", spec := "curvePoints", inPlace := ["math/bits.Sub64", "math/bits.Add64"], apart := false, narrowed := true }
def CurvePointsUptoSaid : Prop := curvePointsUptoRow.holds Try.pinned (OpenSpec.upto curvePointsSpec)

/-- 'barbicanlaw07.EcdsaParts', WHERE WHAT IT READS IS OF BULK AT MOST 1048576: true; the input reads as it did. -/
def ecdsaPartsUptoRow : OpenClaim := { program := "ytnndhmnabbkamaa", sum := "26d4c63a3f1932ab839a01d8ca1090aee063c6910f5df000610b903ed35266f4", func := "barbican/barbicanlaw07.EcdsaParts", spec := "ecdsaParts", inPlace := ["math/bits.Sub64", "math/bits.Add64"], apart := false, narrowed := true }
def EcdsaPartsUptoSaid : Prop := ecdsaPartsUptoRow.holds Try.pinned (OpenSpec.upto ecdsaPartsSpec)

/-- 'barbicanlaw07.EcdsaVerifies', WHERE WHAT IT READS IS OF BULK AT MOST 1048576: true; the input reads as it did. -/
def ecdsaVerifiesUptoRow : OpenClaim := { program := "ytnndhmnabbkamaa", sum := "26d4c63a3f1932ab839a01d8ca1090aee063c6910f5df000610b903ed35266f4", func := "barbican/barbicanlaw07.EcdsaVerifies", spec := "ecdsaVerifies", inPlace := ["math/bits.Sub64", "math/bits.Add64"], apart := false, narrowed := true }
def EcdsaVerifiesUptoSaid : Prop := ecdsaVerifiesUptoRow.holds Try.pinned (OpenSpec.upto ecdsaVerifiesSpec)

/-- 'barbicanlaw07.EcdsaSigned', WHERE WHAT IT READS IS OF BULK AT MOST 1048576: true; the input reads as it did. -/
def ecdsaSignedUptoRow : OpenClaim := { program := "ytnndhmnabbkamaa", sum := "26d4c63a3f1932ab839a01d8ca1090aee063c6910f5df000610b903ed35266f4", func := "barbican/barbicanlaw07.EcdsaSigned", spec := "ecdsaSigned", inPlace := ["math/bits.Sub64", "math/bits.Add64"], apart := false, narrowed := true }
def EcdsaSignedUptoSaid : Prop := ecdsaSignedUptoRow.holds Try.pinned (OpenSpec.upto ecdsaSignedSpec)

/-- 'barbicanlaw07.EcdsaBound', WHERE WHAT IT READS IS OF BULK AT MOST 1048576: true; the input reads as it did. -/
def ecdsaBoundUptoRow : OpenClaim := { program := "ytnndhmnabbkamaa", sum := "26d4c63a3f1932ab839a01d8ca1090aee063c6910f5df000610b903ed35266f4", func := "barbican/barbicanlaw07.EcdsaBound", spec := "ecdsaBound", inPlace := ["math/bits.Sub64", "math/bits.Add64"], apart := false, narrowed := true }
def EcdsaBoundUptoSaid : Prop := ecdsaBoundUptoRow.holds Try.pinned (OpenSpec.upto ecdsaBoundSpec)

end Rows
end Go.Proofs.Ytnndhmnabbkamaa
