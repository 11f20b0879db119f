/-
  No cell of these rows narrows 'for every input' (looked for: loops, veiled, ifaces, maps, wideKeys, modest, calm, conditions, laid).
  DERIVED. THE GIVEN ROWS OF THIS SEAT. 7 by the template 'for every input the law returns true; each argument reads behind the call as it read before'; 0 by the template 'total and deterministic' (their statements: YtjhbeaffcdkhcaaTotals.lean).
  GIVEN WITH THE SEED: the statements are not yours to turn. If you find one false, say at which input.
  Laid BY PROGRAM, IN A SANDBOX (cutbox-rows.mjs): the forced cells as the released guide's own fill.sh prints them over the translation 0994701dade03cea… (all of the seat's roots in one cut). By AI agents, Wed Nov 11 2026. No macro, syntax, notation, axiom, sorry.
-/
import Derived.Test.YtjhbeaffcdkhcaaChecked
import GoSem.Claim
import GoSem.ClaimJoined
import GoSem.ClaimMapViews
import Derived.JoinedTies
import Derived.KernelRfl
namespace Go.Proofs.Ytjhbeaffcdkhcaa
/- THE CELL 'sum', in the pinned program and in every row, IS THE sha256 OF THE DUMP (.gsa) THAT YtjhbeaffcdkhcaaProg.lean LOADS. Nothing in Lean hashes anything: it is a label: what it is worth is what the hold of that sum in a sandbox is worth. -/
noncomputable def Try.pinned : Pinned := { name := "ytjhbeaffcdkhcaa", sum := "0994701dade03cea651dc7858fa32549d5403897ba837437116ca1528d96e855", checked := Try.checked }
namespace Rows
def none {H : Type} : Left H := { results := [], args := [] }

/-- 'engrosslaw10.CellAll': WHATEVER THE INPUT: true; the input reads as it did. -/
def cellAllSpec : ChangeSpec := { name := "cellAll", fn := fun _ => fun
  | [d1, d2, d3, d4] => { results := [.lit (.bool true)], args := [d1, d2, d3, d4] }
  | _ => none }
def cellAllRow : OpenClaim := { program := "ytjhbeaffcdkhcaa", sum := "0994701dade03cea651dc7858fa32549d5403897ba837437116ca1528d96e855", func := "engross/engrosslaw10.CellAll", spec := "cellAll", inPlace := ["math.Float64bits", "math.Float64frombits"], apart := false }
def CellAllSaid : Prop := cellAllRow.holds Try.pinned (OpenSpec.ofChange cellAllSpec)

/-- ITS FALSE NEIGHBOUR: 'it returns false'. Refute it at one input. -/
def cellAllWrong : ChangeSpec := { name := "cellAll", fn := fun _ => fun
  | [d1, d2, d3, d4] => { results := [.lit (.bool false)], args := [d1, d2, d3, d4] }
  | _ => none }
def CellAllWrongFalsely : Prop := cellAllRow.holds Try.pinned (OpenSpec.ofChange cellAllWrong)

/-- 'engrosslaw10.CellBytes': WHATEVER THE INPUT: true; the input reads as it did. -/
def cellBytesSpec : ChangeSpec := { name := "cellBytes", fn := fun _ => fun
  | [d1, d2, d3, d4] => { results := [.lit (.bool true)], args := [d1, d2, d3, d4] }
  | _ => none }
def cellBytesRow : OpenClaim := { program := "ytjhbeaffcdkhcaa", sum := "0994701dade03cea651dc7858fa32549d5403897ba837437116ca1528d96e855", func := "engross/engrosslaw10.CellBytes", spec := "cellBytes", inPlace := ["math.Float64bits", "math.Float64frombits"], apart := false }
def CellBytesSaid : Prop := cellBytesRow.holds Try.pinned (OpenSpec.ofChange cellBytesSpec)

/-- ITS FALSE NEIGHBOUR: 'it returns false'. Refute it at one input. -/
def cellBytesWrong : ChangeSpec := { name := "cellBytes", fn := fun _ => fun
  | [d1, d2, d3, d4] => { results := [.lit (.bool false)], args := [d1, d2, d3, d4] }
  | _ => none }
def CellBytesWrongFalsely : Prop := cellBytesRow.holds Try.pinned (OpenSpec.ofChange cellBytesWrong)

/-- 'engrosslaw10.CellAny': WHATEVER THE INPUT: true; the input reads as it did. -/
def cellAnySpec : ChangeSpec := { name := "cellAny", fn := fun _ => fun
  | [d1, d2, d3, d4] => { results := [.lit (.bool true)], args := [d1, d2, d3, d4] }
  | _ => none }
def cellAnyRow : OpenClaim := { program := "ytjhbeaffcdkhcaa", sum := "0994701dade03cea651dc7858fa32549d5403897ba837437116ca1528d96e855", func := "engross/engrosslaw10.CellAny", spec := "cellAny", inPlace := ["math.Float64bits", "math.Float64frombits"], apart := false }
def CellAnySaid : Prop := cellAnyRow.holds Try.pinned (OpenSpec.ofChange cellAnySpec)

/-- ITS FALSE NEIGHBOUR: 'it returns false'. Refute it at one input. -/
def cellAnyWrong : ChangeSpec := { name := "cellAny", fn := fun _ => fun
  | [d1, d2, d3, d4] => { results := [.lit (.bool false)], args := [d1, d2, d3, d4] }
  | _ => none }
def CellAnyWrongFalsely : Prop := cellAnyRow.holds Try.pinned (OpenSpec.ofChange cellAnyWrong)

/-- 'engrosslaw10.CellShort': WHATEVER THE INPUT: true; the input reads as it did. -/
def cellShortSpec : ChangeSpec := { name := "cellShort", fn := fun _ => fun
  | [d] => { results := [.lit (.bool true)], args := [d] }
  | _ => none }
def cellShortRow : OpenClaim := { program := "ytjhbeaffcdkhcaa", sum := "0994701dade03cea651dc7858fa32549d5403897ba837437116ca1528d96e855", func := "engross/engrosslaw10.CellShort", spec := "cellShort", inPlace := ["math.Float64bits", "math.Float64frombits"], apart := false }
def CellShortSaid : Prop := cellShortRow.holds Try.pinned (OpenSpec.ofChange cellShortSpec)

/-- ITS FALSE NEIGHBOUR: 'it returns false'. Refute it at one input. -/
def cellShortWrong : ChangeSpec := { name := "cellShort", fn := fun _ => fun
  | [d] => { results := [.lit (.bool false)], args := [d] }
  | _ => none }
def CellShortWrongFalsely : Prop := cellShortRow.holds Try.pinned (OpenSpec.ofChange cellShortWrong)

/-- 'engrosslaw10.CellWho': WHATEVER THE INPUT: true; the input reads as it did. -/
def cellWhoSpec : ChangeSpec := { name := "cellWho", fn := fun _ => fun
  | [d1, d2, d3, d4] => { results := [.lit (.bool true)], args := [d1, d2, d3, d4] }
  | _ => none }
def cellWhoRow : OpenClaim := { program := "ytjhbeaffcdkhcaa", sum := "0994701dade03cea651dc7858fa32549d5403897ba837437116ca1528d96e855", func := "engross/engrosslaw10.CellWho", spec := "cellWho", inPlace := ["math.Float64bits", "math.Float64frombits"], apart := false }
def CellWhoSaid : Prop := cellWhoRow.holds Try.pinned (OpenSpec.ofChange cellWhoSpec)

/-- ITS FALSE NEIGHBOUR: 'it returns false'. Refute it at one input. -/
def cellWhoWrong : ChangeSpec := { name := "cellWho", fn := fun _ => fun
  | [d1, d2, d3, d4] => { results := [.lit (.bool false)], args := [d1, d2, d3, d4] }
  | _ => none }
def CellWhoWrongFalsely : Prop := cellWhoRow.holds Try.pinned (OpenSpec.ofChange cellWhoWrong)

/-- 'engrosslaw10.CellTwice': WHATEVER THE INPUT: true; the input reads as it did. -/
def cellTwiceSpec : ChangeSpec := { name := "cellTwice", fn := fun _ => fun
  | [d1, d2, d3, d4] => { results := [.lit (.bool true)], args := [d1, d2, d3, d4] }
  | _ => none }
def cellTwiceRow : OpenClaim := { program := "ytjhbeaffcdkhcaa", sum := "0994701dade03cea651dc7858fa32549d5403897ba837437116ca1528d96e855", func := "engross/engrosslaw10.CellTwice", spec := "cellTwice", inPlace := ["math.Float64bits", "math.Float64frombits"], apart := false }
def CellTwiceSaid : Prop := cellTwiceRow.holds Try.pinned (OpenSpec.ofChange cellTwiceSpec)

/-- ITS FALSE NEIGHBOUR: 'it returns false'. Refute it at one input. -/
def cellTwiceWrong : ChangeSpec := { name := "cellTwice", fn := fun _ => fun
  | [d1, d2, d3, d4] => { results := [.lit (.bool false)], args := [d1, d2, d3, d4] }
  | _ => none }
def CellTwiceWrongFalsely : Prop := cellTwiceRow.holds Try.pinned (OpenSpec.ofChange cellTwiceWrong)

/-- 'engrosslaw10.CellMany': WHATEVER THE INPUT: true; the input reads as it did. -/
def cellManySpec : ChangeSpec := { name := "cellMany", fn := fun _ => fun
  | [d] => { results := [.lit (.bool true)], args := [d] }
  | _ => none }
def cellManyRow : OpenClaim := { program := "ytjhbeaffcdkhcaa", sum := "0994701dade03cea651dc7858fa32549d5403897ba837437116ca1528d96e855", func := "engross/engrosslaw10.CellMany", spec := "cellMany", inPlace := ["math.Float64bits", "math.Float64frombits"], apart := false }
def CellManySaid : Prop := cellManyRow.holds Try.pinned (OpenSpec.ofChange cellManySpec)

/-- ITS FALSE NEIGHBOUR: 'it returns false'. Refute it at one input. -/
def cellManyWrong : ChangeSpec := { name := "cellMany", fn := fun _ => fun
  | [d] => { results := [.lit (.bool false)], args := [d] }
  | _ => none }
def CellManyWrongFalsely : Prop := cellManyRow.holds Try.pinned (OpenSpec.ofChange cellManyWrong)

/- THE SECOND FORM. 'bulk': how many values and letters a reading holds, each counted each time it is reached (what is shared counts as often as it is met; a slice's spare places count too). A statement '..UptoSaid' is the law's where the arguments, and the package variables that the reading takes, are together of bulk at most 1048576: NARROWER than '..Said'. Prove '..Said' where nothing that the law and all that it calls make is longer than what came in: it says more and counts as full. Else prove '..UptoSaid'. A law counts once. -/
mutual
def uptoBulk {H : Type} : DataW H → Nat
  | .lit (.string bytes) => bytes.length + 1
  | .lit _ => 1
  | .nil => 1
  | .ptr d => uptoBulk d + 1
  | .slice elems spare => uptoBulkAll elems + uptoBulkAll spare + 1
  | .agg parts => uptoBulkAll parts + 1
  | .iface _ d => uptoBulk d + 1
  | .map entries => uptoBulkEntries entries + 1
  | .held _ => 1
def uptoBulkAll {H : Type} : List (DataW H) → Nat
  | [] => 0
  | d :: r => uptoBulk d + uptoBulkAll r
def uptoBulkEntries {H : Type} : List (Lit × DataW H) → Nat
  | [] => 0
  | x :: r => uptoBulkEntry x + uptoBulkEntries r
def uptoBulkEntry {H : Type} : Lit × DataW H → Nat
  | (.string bytes, d) => bytes.length + uptoBulk d + 1
  | (_, d) => uptoBulk d + 1
 end
def uptoSmall : (H : Type) → List (DataW H) → Bool := fun _ ds => decide (uptoBulkAll ds ≤ 1048576)
def OpenSpec.upto (s : _root_.Go.ChangeSpec) : _root_.Go.OpenSpec := { _root_.Go.OpenSpec.ofChange s with cond := some uptoSmall }

/-- 'engrosslaw10.CellAll', WHERE WHAT IT READS IS OF BULK AT MOST 1048576: true; the input reads as it did. -/
def cellAllUptoRow : OpenClaim := { program := "ytjhbeaffcdkhcaa", sum := "0994701dade03cea651dc7858fa32549d5403897ba837437116ca1528d96e855", func := "engross/engrosslaw10.CellAll", spec := "cellAll", inPlace := ["math.Float64bits", "math.Float64frombits"], apart := false, narrowed := true }
def CellAllUptoSaid : Prop := cellAllUptoRow.holds Try.pinned (OpenSpec.upto cellAllSpec)

/-- 'engrosslaw10.CellBytes', WHERE WHAT IT READS IS OF BULK AT MOST 1048576: true; the input reads as it did. -/
def cellBytesUptoRow : OpenClaim := { program := "ytjhbeaffcdkhcaa", sum := "0994701dade03cea651dc7858fa32549d5403897ba837437116ca1528d96e855", func := "engross/engrosslaw10.CellBytes", spec := "cellBytes", inPlace := ["math.Float64bits", "math.Float64frombits"], apart := false, narrowed := true }
def CellBytesUptoSaid : Prop := cellBytesUptoRow.holds Try.pinned (OpenSpec.upto cellBytesSpec)

/-- 'engrosslaw10.CellAny', WHERE WHAT IT READS IS OF BULK AT MOST 1048576: true; the input reads as it did. -/
def cellAnyUptoRow : OpenClaim := { program := "ytjhbeaffcdkhcaa", sum := "0994701dade03cea651dc7858fa32549d5403897ba837437116ca1528d96e855", func := "engross/engrosslaw10.CellAny", spec := "cellAny", inPlace := ["math.Float64bits", "math.Float64frombits"], apart := false, narrowed := true }
def CellAnyUptoSaid : Prop := cellAnyUptoRow.holds Try.pinned (OpenSpec.upto cellAnySpec)

/-- 'engrosslaw10.CellShort', WHERE WHAT IT READS IS OF BULK AT MOST 1048576: true; the input reads as it did. -/
def cellShortUptoRow : OpenClaim := { program := "ytjhbeaffcdkhcaa", sum := "0994701dade03cea651dc7858fa32549d5403897ba837437116ca1528d96e855", func := "engross/engrosslaw10.CellShort", spec := "cellShort", inPlace := ["math.Float64bits", "math.Float64frombits"], apart := false, narrowed := true }
def CellShortUptoSaid : Prop := cellShortUptoRow.holds Try.pinned (OpenSpec.upto cellShortSpec)

/-- 'engrosslaw10.CellWho', WHERE WHAT IT READS IS OF BULK AT MOST 1048576: true; the input reads as it did. -/
def cellWhoUptoRow : OpenClaim := { program := "ytjhbeaffcdkhcaa", sum := "0994701dade03cea651dc7858fa32549d5403897ba837437116ca1528d96e855", func := "engross/engrosslaw10.CellWho", spec := "cellWho", inPlace := ["math.Float64bits", "math.Float64frombits"], apart := false, narrowed := true }
def CellWhoUptoSaid : Prop := cellWhoUptoRow.holds Try.pinned (OpenSpec.upto cellWhoSpec)

/-- 'engrosslaw10.CellTwice', WHERE WHAT IT READS IS OF BULK AT MOST 1048576: true; the input reads as it did. -/
def cellTwiceUptoRow : OpenClaim := { program := "ytjhbeaffcdkhcaa", sum := "0994701dade03cea651dc7858fa32549d5403897ba837437116ca1528d96e855", func := "engross/engrosslaw10.CellTwice", spec := "cellTwice", inPlace := ["math.Float64bits", "math.Float64frombits"], apart := false, narrowed := true }
def CellTwiceUptoSaid : Prop := cellTwiceUptoRow.holds Try.pinned (OpenSpec.upto cellTwiceSpec)

/-- 'engrosslaw10.CellMany', WHERE WHAT IT READS IS OF BULK AT MOST 1048576: true; the input reads as it did. -/
def cellManyUptoRow : OpenClaim := { program := "ytjhbeaffcdkhcaa", sum := "0994701dade03cea651dc7858fa32549d5403897ba837437116ca1528d96e855", func := "engross/engrosslaw10.CellMany", spec := "cellMany", inPlace := ["math.Float64bits", "math.Float64frombits"], apart := false, narrowed := true }
def CellManyUptoSaid : Prop := cellManyUptoRow.holds Try.pinned (OpenSpec.upto cellManySpec)

end Rows
end Go.Proofs.Ytjhbeaffcdkhcaa
