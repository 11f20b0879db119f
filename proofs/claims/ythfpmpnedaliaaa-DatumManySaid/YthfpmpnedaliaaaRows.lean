/-
  No cell of these rows narrows 'for every input' (looked for: loops, veiled, ifaces, maps, wideKeys, modest, calm, conditions, laid).
  DERIVED. THE GIVEN ROWS OF THIS SEAT. 7 by the template 'for every input the law returns true; each argument reads behind the call as it read before'; 0 by the template 'total and deterministic' (their statements: YthfpmpnedaliaaaTotals.lean).
  GIVEN WITH THE SEED: the statements are not yours to turn. If you find one false, say at which input.
  Laid BY PROGRAM, IN A SANDBOX (cutbox-rows.mjs): the forced cells as the released guide's own fill.sh prints them over the translation d3cd5e638bee86e3… (all of the seat's roots in one cut). By AI agents, Wed Nov 11 2026. No macro, syntax, notation, axiom, sorry.
-/
import Derived.Test.YthfpmpnedaliaaaChecked
import GoSem.Claim
import GoSem.ClaimJoined
import GoSem.ClaimMapViews
import Derived.JoinedTies
import Derived.KernelRfl
namespace Go.Proofs.Ythfpmpnedaliaaa
/- THE CELL 'sum', in the pinned program and in every row, IS THE sha256 OF THE DUMP (.gsa) THAT YthfpmpnedaliaaaProg.lean LOADS. Nothing in Lean hashes anything: it is a label: what it is worth is what the hold of that sum in a sandbox is worth. -/
noncomputable def Try.pinned : Pinned := { name := "ythfpmpnedaliaaa", sum := "d3cd5e638bee86e35e6f84cfed44143932e66d9607b76626c59e46b07e8f7cdb", checked := Try.checked }
namespace Rows
def none {H : Type} : Left H := { results := [], args := [] }

/-- 'engrosslaw4.DatumAll': WHATEVER THE INPUT: true; the input reads as it did. -/
def datumAllSpec : ChangeSpec := { name := "datumAll", fn := fun _ => fun
  | [d1, d2, d3, d4, d5, d6, d7] => { results := [.lit (.bool true)], args := [d1, d2, d3, d4, d5, d6, d7] }
  | _ => none }
def datumAllRow : OpenClaim := { program := "ythfpmpnedaliaaa", sum := "d3cd5e638bee86e35e6f84cfed44143932e66d9607b76626c59e46b07e8f7cdb", func := "engross/engrosslaw4.DatumAll", spec := "datumAll", inPlace := ["math.Float64bits", "math.Float64frombits"], apart := false }
def DatumAllSaid : Prop := datumAllRow.holds Try.pinned (OpenSpec.ofChange datumAllSpec)

/-- ITS FALSE NEIGHBOUR: 'it returns false'. Refute it at one input. -/
def datumAllWrong : ChangeSpec := { name := "datumAll", fn := fun _ => fun
  | [d1, d2, d3, d4, d5, d6, d7] => { results := [.lit (.bool false)], args := [d1, d2, d3, d4, d5, d6, d7] }
  | _ => none }
def DatumAllWrongFalsely : Prop := datumAllRow.holds Try.pinned (OpenSpec.ofChange datumAllWrong)

/-- 'engrosslaw4.DatumAny': WHATEVER THE INPUT: true; the input reads as it did. -/
def datumAnySpec : ChangeSpec := { name := "datumAny", fn := fun _ => fun
  | [d] => { results := [.lit (.bool true)], args := [d] }
  | _ => none }
def datumAnyRow : OpenClaim := { program := "ythfpmpnedaliaaa", sum := "d3cd5e638bee86e35e6f84cfed44143932e66d9607b76626c59e46b07e8f7cdb", func := "engross/engrosslaw4.DatumAny", spec := "datumAny", inPlace := ["math.Float64bits", "math.Float64frombits"], apart := false }
def DatumAnySaid : Prop := datumAnyRow.holds Try.pinned (OpenSpec.ofChange datumAnySpec)

/-- ITS FALSE NEIGHBOUR: 'it returns false'. Refute it at one input. -/
def datumAnyWrong : ChangeSpec := { name := "datumAny", fn := fun _ => fun
  | [d] => { results := [.lit (.bool false)], args := [d] }
  | _ => none }
def DatumAnyWrongFalsely : Prop := datumAnyRow.holds Try.pinned (OpenSpec.ofChange datumAnyWrong)

/-- 'engrosslaw4.DatumCut': WHATEVER THE INPUT: true; the input reads as it did. -/
def datumCutSpec : ChangeSpec := { name := "datumCut", fn := fun _ => fun
  | [d1, d2, d3, d4] => { results := [.lit (.bool true)], args := [d1, d2, d3, d4] }
  | _ => none }
def datumCutRow : OpenClaim := { program := "ythfpmpnedaliaaa", sum := "d3cd5e638bee86e35e6f84cfed44143932e66d9607b76626c59e46b07e8f7cdb", func := "engross/engrosslaw4.DatumCut", spec := "datumCut", inPlace := ["math.Float64bits", "math.Float64frombits"], apart := false }
def DatumCutSaid : Prop := datumCutRow.holds Try.pinned (OpenSpec.ofChange datumCutSpec)

/-- ITS FALSE NEIGHBOUR: 'it returns false'. Refute it at one input. -/
def datumCutWrong : ChangeSpec := { name := "datumCut", fn := fun _ => fun
  | [d1, d2, d3, d4] => { results := [.lit (.bool false)], args := [d1, d2, d3, d4] }
  | _ => none }
def DatumCutWrongFalsely : Prop := datumCutRow.holds Try.pinned (OpenSpec.ofChange datumCutWrong)

/-- 'engrosslaw4.DatumTwins': WHATEVER THE INPUT: true; the input reads as it did. -/
def datumTwinsSpec : ChangeSpec := { name := "datumTwins", fn := fun _ => fun
  | [d1, d2, d3, d4, d5, d6] => { results := [.lit (.bool true)], args := [d1, d2, d3, d4, d5, d6] }
  | _ => none }
def datumTwinsRow : OpenClaim := { program := "ythfpmpnedaliaaa", sum := "d3cd5e638bee86e35e6f84cfed44143932e66d9607b76626c59e46b07e8f7cdb", func := "engross/engrosslaw4.DatumTwins", spec := "datumTwins", inPlace := ["math.Float64bits", "math.Float64frombits"], apart := false }
def DatumTwinsSaid : Prop := datumTwinsRow.holds Try.pinned (OpenSpec.ofChange datumTwinsSpec)

/-- ITS FALSE NEIGHBOUR: 'it returns false'. Refute it at one input. -/
def datumTwinsWrong : ChangeSpec := { name := "datumTwins", fn := fun _ => fun
  | [d1, d2, d3, d4, d5, d6] => { results := [.lit (.bool false)], args := [d1, d2, d3, d4, d5, d6] }
  | _ => none }
def DatumTwinsWrongFalsely : Prop := datumTwinsRow.holds Try.pinned (OpenSpec.ofChange datumTwinsWrong)

/-- 'engrosslaw4.DatumFloats': WHATEVER THE INPUT: true; the input reads as it did. -/
def datumFloatsSpec : ChangeSpec := { name := "datumFloats", fn := fun _ => fun
  | [d] => { results := [.lit (.bool true)], args := [d] }
  | _ => none }
def datumFloatsRow : OpenClaim := { program := "ythfpmpnedaliaaa", sum := "d3cd5e638bee86e35e6f84cfed44143932e66d9607b76626c59e46b07e8f7cdb", func := "engross/engrosslaw4.DatumFloats", spec := "datumFloats", inPlace := ["math.Float64bits", "math.Float64frombits"], apart := false }
def DatumFloatsSaid : Prop := datumFloatsRow.holds Try.pinned (OpenSpec.ofChange datumFloatsSpec)

/-- ITS FALSE NEIGHBOUR: 'it returns false'. Refute it at one input. -/
def datumFloatsWrong : ChangeSpec := { name := "datumFloats", fn := fun _ => fun
  | [d] => { results := [.lit (.bool false)], args := [d] }
  | _ => none }
def DatumFloatsWrongFalsely : Prop := datumFloatsRow.holds Try.pinned (OpenSpec.ofChange datumFloatsWrong)

/-- 'engrosslaw4.DatumTexts': WHATEVER THE INPUT: true; the input reads as it did. -/
def datumTextsSpec : ChangeSpec := { name := "datumTexts", fn := fun _ => fun
  | [d1, d2] => { results := [.lit (.bool true)], args := [d1, d2] }
  | _ => none }
def datumTextsRow : OpenClaim := { program := "ythfpmpnedaliaaa", sum := "d3cd5e638bee86e35e6f84cfed44143932e66d9607b76626c59e46b07e8f7cdb", func := "engross/engrosslaw4.DatumTexts", spec := "datumTexts", inPlace := ["math.Float64bits", "math.Float64frombits"], apart := false }
def DatumTextsSaid : Prop := datumTextsRow.holds Try.pinned (OpenSpec.ofChange datumTextsSpec)

/-- ITS FALSE NEIGHBOUR: 'it returns false'. Refute it at one input. -/
def datumTextsWrong : ChangeSpec := { name := "datumTexts", fn := fun _ => fun
  | [d1, d2] => { results := [.lit (.bool false)], args := [d1, d2] }
  | _ => none }
def DatumTextsWrongFalsely : Prop := datumTextsRow.holds Try.pinned (OpenSpec.ofChange datumTextsWrong)

/-- 'engrosslaw4.DatumMany': WHATEVER THE INPUT: true; the input reads as it did. -/
def datumManySpec : ChangeSpec := { name := "datumMany", fn := fun _ => fun
  | [d] => { results := [.lit (.bool true)], args := [d] }
  | _ => none }
def datumManyRow : OpenClaim := { program := "ythfpmpnedaliaaa", sum := "d3cd5e638bee86e35e6f84cfed44143932e66d9607b76626c59e46b07e8f7cdb", func := "engross/engrosslaw4.DatumMany", spec := "datumMany", inPlace := ["math.Float64bits", "math.Float64frombits"], apart := false }
def DatumManySaid : Prop := datumManyRow.holds Try.pinned (OpenSpec.ofChange datumManySpec)

/-- ITS FALSE NEIGHBOUR: 'it returns false'. Refute it at one input. -/
def datumManyWrong : ChangeSpec := { name := "datumMany", fn := fun _ => fun
  | [d] => { results := [.lit (.bool false)], args := [d] }
  | _ => none }
def DatumManyWrongFalsely : Prop := datumManyRow.holds Try.pinned (OpenSpec.ofChange datumManyWrong)

/- THE SECOND FORM. 'bulk': how many values and letters a reading holds, each counted each time it is reached (what is shared counts as often as it is met; a slice's spare places count too). A statement '..UptoSaid' is the law's where the arguments, and the package variables that the reading takes, are together of bulk at most 1048576: NARROWER than '..Said'. Prove '..Said' where nothing that the law and all that it calls make is longer than what came in: it says more and counts as full. Else prove '..UptoSaid'. A law counts once. -/
mutual
def uptoBulk {H : Type} : DataW H → Nat
  | .lit (.string bytes) => bytes.length + 1
  | .lit _ => 1
  | .nil => 1
  | .ptr d => uptoBulk d + 1
  | .slice elems spare => uptoBulkAll elems + uptoBulkAll spare + 1
  | .agg parts => uptoBulkAll parts + 1
  | .iface _ d => uptoBulk d + 1
  | .map entries => uptoBulkEntries entries + 1
  | .held _ => 1
def uptoBulkAll {H : Type} : List (DataW H) → Nat
  | [] => 0
  | d :: r => uptoBulk d + uptoBulkAll r
def uptoBulkEntries {H : Type} : List (Lit × DataW H) → Nat
  | [] => 0
  | x :: r => uptoBulkEntry x + uptoBulkEntries r
def uptoBulkEntry {H : Type} : Lit × DataW H → Nat
  | (.string bytes, d) => bytes.length + uptoBulk d + 1
  | (_, d) => uptoBulk d + 1
 end
def uptoSmall : (H : Type) → List (DataW H) → Bool := fun _ ds => decide (uptoBulkAll ds ≤ 1048576)
def OpenSpec.upto (s : _root_.Go.ChangeSpec) : _root_.Go.OpenSpec := { _root_.Go.OpenSpec.ofChange s with cond := some uptoSmall }

/-- 'engrosslaw4.DatumAll', WHERE WHAT IT READS IS OF BULK AT MOST 1048576: true; the input reads as it did. -/
def datumAllUptoRow : OpenClaim := { program := "ythfpmpnedaliaaa", sum := "d3cd5e638bee86e35e6f84cfed44143932e66d9607b76626c59e46b07e8f7cdb", func := "engross/engrosslaw4.DatumAll", spec := "datumAll", inPlace := ["math.Float64bits", "math.Float64frombits"], apart := false, narrowed := true }
def DatumAllUptoSaid : Prop := datumAllUptoRow.holds Try.pinned (OpenSpec.upto datumAllSpec)

/-- 'engrosslaw4.DatumAny', WHERE WHAT IT READS IS OF BULK AT MOST 1048576: true; the input reads as it did. -/
def datumAnyUptoRow : OpenClaim := { program := "ythfpmpnedaliaaa", sum := "d3cd5e638bee86e35e6f84cfed44143932e66d9607b76626c59e46b07e8f7cdb", func := "engross/engrosslaw4.DatumAny", spec := "datumAny", inPlace := ["math.Float64bits", "math.Float64frombits"], apart := false, narrowed := true }
def DatumAnyUptoSaid : Prop := datumAnyUptoRow.holds Try.pinned (OpenSpec.upto datumAnySpec)

/-- 'engrosslaw4.DatumCut', WHERE WHAT IT READS IS OF BULK AT MOST 1048576: true; the input reads as it did. -/
def datumCutUptoRow : OpenClaim := { program := "ythfpmpnedaliaaa", sum := "d3cd5e638bee86e35e6f84cfed44143932e66d9607b76626c59e46b07e8f7cdb", func := "engross/engrosslaw4.DatumCut", spec := "datumCut", inPlace := ["math.Float64bits", "math.Float64frombits"], apart := false, narrowed := true }
def DatumCutUptoSaid : Prop := datumCutUptoRow.holds Try.pinned (OpenSpec.upto datumCutSpec)

/-- 'engrosslaw4.DatumTwins', WHERE WHAT IT READS IS OF BULK AT MOST 1048576: true; the input reads as it did. -/
def datumTwinsUptoRow : OpenClaim := { program := "ythfpmpnedaliaaa", sum := "d3cd5e638bee86e35e6f84cfed44143932e66d9607b76626c59e46b07e8f7cdb", func := "engross/engrosslaw4.DatumTwins", spec := "datumTwins", inPlace := ["math.Float64bits", "math.Float64frombits"], apart := false, narrowed := true }
def DatumTwinsUptoSaid : Prop := datumTwinsUptoRow.holds Try.pinned (OpenSpec.upto datumTwinsSpec)

/-- 'engrosslaw4.DatumFloats', WHERE WHAT IT READS IS OF BULK AT MOST 1048576: true; the input reads as it did. -/
def datumFloatsUptoRow : OpenClaim := { program := "ythfpmpnedaliaaa", sum := "d3cd5e638bee86e35e6f84cfed44143932e66d9607b76626c59e46b07e8f7cdb", func := "engross/engrosslaw4.DatumFloats", spec := "datumFloats", inPlace := ["math.Float64bits", "math.Float64frombits"], apart := false, narrowed := true }
def DatumFloatsUptoSaid : Prop := datumFloatsUptoRow.holds Try.pinned (OpenSpec.upto datumFloatsSpec)

/-- 'engrosslaw4.DatumTexts', WHERE WHAT IT READS IS OF BULK AT MOST 1048576: true; the input reads as it did. -/
def datumTextsUptoRow : OpenClaim := { program := "ythfpmpnedaliaaa", sum := "d3cd5e638bee86e35e6f84cfed44143932e66d9607b76626c59e46b07e8f7cdb", func := "engross/engrosslaw4.DatumTexts", spec := "datumTexts", inPlace := ["math.Float64bits", "math.Float64frombits"], apart := false, narrowed := true }
def DatumTextsUptoSaid : Prop := datumTextsUptoRow.holds Try.pinned (OpenSpec.upto datumTextsSpec)

/-- 'engrosslaw4.DatumMany', WHERE WHAT IT READS IS OF BULK AT MOST 1048576: true; the input reads as it did. -/
def datumManyUptoRow : OpenClaim := { program := "ythfpmpnedaliaaa", sum := "d3cd5e638bee86e35e6f84cfed44143932e66d9607b76626c59e46b07e8f7cdb", func := "engross/engrosslaw4.DatumMany", spec := "datumMany", inPlace := ["math.Float64bits", "math.Float64frombits"], apart := false, narrowed := true }
def DatumManyUptoSaid : Prop := datumManyUptoRow.holds Try.pinned (OpenSpec.upto datumManySpec)

end Rows
end Go.Proofs.Ythfpmpnedaliaaa
