/-
  No cell of these rows narrows 'for every input' (looked for: loops, veiled, ifaces, maps, wideKeys, modest, calm, conditions, laid).
  DERIVED. THE GIVEN ROWS OF THIS SEAT. 7 by the template 'for every input the law returns true; each argument reads behind the call as it read before'; 0 by the template 'total and deterministic' (their statements: YtoeiogailnfbkaaTotals.lean).
  GIVEN WITH THE SEED: the statements are not yours to turn. If you find one false, say at which input.
  Laid BY PROGRAM, IN A SANDBOX (cutbox-rows.mjs): the forced cells as the released guide's own fill.sh prints them over the translation a037cbde2f723725… (all of the seat's roots in one cut). By AI agents, Wed Nov 11 2026. No macro, syntax, notation, axiom, sorry.
-/
import Derived.Test.YtoeiogailnfbkaaChecked
import GoSem.Claim
import GoSem.ClaimJoined
import GoSem.ClaimMapViews
import Derived.JoinedTies
import Derived.KernelRfl
namespace Go.Proofs.Ytoeiogailnfbkaa
/- THE CELL 'sum', in the pinned program and in every row, IS THE sha256 OF THE DUMP (.gsa) THAT YtoeiogailnfbkaaProg.lean LOADS. Nothing in Lean hashes anything: it is a label: what it is worth is what the hold of that sum in a sandbox is worth. -/
noncomputable def Try.pinned : Pinned := { name := "ytoeiogailnfbkaa", sum := "a037cbde2f7237250ea0aee18819132c33d832012bb49f6440a3fd2ddc73ad37", checked := Try.checked }
namespace Rows
def none {H : Type} : Left H := { results := [], args := [] }

/-- 'engrosslaw5.KeyAll': WHATEVER THE INPUT: true; the input reads as it did. -/
def keyAllSpec : ChangeSpec := { name := "keyAll", fn := fun _ => fun
  | [d1, d2, d3] => { results := [.lit (.bool true)], args := [d1, d2, d3] }
  | _ => none }
def keyAllRow : OpenClaim := { program := "ytoeiogailnfbkaa", sum := "a037cbde2f7237250ea0aee18819132c33d832012bb49f6440a3fd2ddc73ad37", func := "engross/engrosslaw5.KeyAll", spec := "keyAll", inPlace := ["math.Float64bits", "math.Float64frombits"], apart := false }
def KeyAllSaid : Prop := keyAllRow.holds Try.pinned (OpenSpec.ofChange keyAllSpec)

/-- ITS FALSE NEIGHBOUR: 'it returns false'. Refute it at one input. -/
def keyAllWrong : ChangeSpec := { name := "keyAll", fn := fun _ => fun
  | [d1, d2, d3] => { results := [.lit (.bool false)], args := [d1, d2, d3] }
  | _ => none }
def KeyAllWrongFalsely : Prop := keyAllRow.holds Try.pinned (OpenSpec.ofChange keyAllWrong)

/-- 'engrosslaw5.KeyFloats': WHATEVER THE INPUT: true; the input reads as it did. -/
def keyFloatsSpec : ChangeSpec := { name := "keyFloats", fn := fun _ => fun
  | [d1, d2] => { results := [.lit (.bool true)], args := [d1, d2] }
  | _ => none }
def keyFloatsRow : OpenClaim := { program := "ytoeiogailnfbkaa", sum := "a037cbde2f7237250ea0aee18819132c33d832012bb49f6440a3fd2ddc73ad37", func := "engross/engrosslaw5.KeyFloats", spec := "keyFloats", inPlace := ["math.Float64bits", "math.Float64frombits"], apart := false }
def KeyFloatsSaid : Prop := keyFloatsRow.holds Try.pinned (OpenSpec.ofChange keyFloatsSpec)

/-- ITS FALSE NEIGHBOUR: 'it returns false'. Refute it at one input. -/
def keyFloatsWrong : ChangeSpec := { name := "keyFloats", fn := fun _ => fun
  | [d1, d2] => { results := [.lit (.bool false)], args := [d1, d2] }
  | _ => none }
def KeyFloatsWrongFalsely : Prop := keyFloatsRow.holds Try.pinned (OpenSpec.ofChange keyFloatsWrong)

/-- 'engrosslaw5.KeyMid': WHATEVER THE INPUT: true; the input reads as it did. -/
def keyMidSpec : ChangeSpec := { name := "keyMid", fn := fun _ => fun
  | [d1, d2] => { results := [.lit (.bool true)], args := [d1, d2] }
  | _ => none }
def keyMidRow : OpenClaim := { program := "ytoeiogailnfbkaa", sum := "a037cbde2f7237250ea0aee18819132c33d832012bb49f6440a3fd2ddc73ad37", func := "engross/engrosslaw5.KeyMid", spec := "keyMid", inPlace := ["math.Float64bits", "math.Float64frombits"], apart := false }
def KeyMidSaid : Prop := keyMidRow.holds Try.pinned (OpenSpec.ofChange keyMidSpec)

/-- ITS FALSE NEIGHBOUR: 'it returns false'. Refute it at one input. -/
def keyMidWrong : ChangeSpec := { name := "keyMid", fn := fun _ => fun
  | [d1, d2] => { results := [.lit (.bool false)], args := [d1, d2] }
  | _ => none }
def KeyMidWrongFalsely : Prop := keyMidRow.holds Try.pinned (OpenSpec.ofChange keyMidWrong)

/-- 'engrosslaw5.KeyOfs': WHATEVER THE INPUT: true; the input reads as it did. -/
def keyOfsSpec : ChangeSpec := { name := "keyOfs", fn := fun _ => fun
  | [d1, d2] => { results := [.lit (.bool true)], args := [d1, d2] }
  | _ => none }
def keyOfsRow : OpenClaim := { program := "ytoeiogailnfbkaa", sum := "a037cbde2f7237250ea0aee18819132c33d832012bb49f6440a3fd2ddc73ad37", func := "engross/engrosslaw5.KeyOfs", spec := "keyOfs", inPlace := ["math.Float64bits", "math.Float64frombits"], apart := false }
def KeyOfsSaid : Prop := keyOfsRow.holds Try.pinned (OpenSpec.ofChange keyOfsSpec)

/-- ITS FALSE NEIGHBOUR: 'it returns false'. Refute it at one input. -/
def keyOfsWrong : ChangeSpec := { name := "keyOfs", fn := fun _ => fun
  | [d1, d2] => { results := [.lit (.bool false)], args := [d1, d2] }
  | _ => none }
def KeyOfsWrongFalsely : Prop := keyOfsRow.holds Try.pinned (OpenSpec.ofChange keyOfsWrong)

/-- 'engrosslaw5.KeySpan': WHATEVER THE INPUT: true; the input reads as it did. -/
def keySpanSpec : ChangeSpec := { name := "keySpan", fn := fun _ => fun
  | [d1, d2, d3, d4] => { results := [.lit (.bool true)], args := [d1, d2, d3, d4] }
  | _ => none }
def keySpanRow : OpenClaim := { program := "ytoeiogailnfbkaa", sum := "a037cbde2f7237250ea0aee18819132c33d832012bb49f6440a3fd2ddc73ad37", func := "engross/engrosslaw5.KeySpan", spec := "keySpan", inPlace := ["math.Float64bits", "math.Float64frombits"], apart := false }
def KeySpanSaid : Prop := keySpanRow.holds Try.pinned (OpenSpec.ofChange keySpanSpec)

/-- ITS FALSE NEIGHBOUR: 'it returns false'. Refute it at one input. -/
def keySpanWrong : ChangeSpec := { name := "keySpan", fn := fun _ => fun
  | [d1, d2, d3, d4] => { results := [.lit (.bool false)], args := [d1, d2, d3, d4] }
  | _ => none }
def KeySpanWrongFalsely : Prop := keySpanRow.holds Try.pinned (OpenSpec.ofChange keySpanWrong)

/-- 'engrosslaw5.KeyLens': WHATEVER THE INPUT: true; the input reads as it did. -/
def keyLensSpec : ChangeSpec := { name := "keyLens", fn := fun _ => fun
  | [d1, d2] => { results := [.lit (.bool true)], args := [d1, d2] }
  | _ => none }
def keyLensRow : OpenClaim := { program := "ytoeiogailnfbkaa", sum := "a037cbde2f7237250ea0aee18819132c33d832012bb49f6440a3fd2ddc73ad37", func := "engross/engrosslaw5.KeyLens", spec := "keyLens", inPlace := ["math.Float64bits", "math.Float64frombits"], apart := false }
def KeyLensSaid : Prop := keyLensRow.holds Try.pinned (OpenSpec.ofChange keyLensSpec)

/-- ITS FALSE NEIGHBOUR: 'it returns false'. Refute it at one input. -/
def keyLensWrong : ChangeSpec := { name := "keyLens", fn := fun _ => fun
  | [d1, d2] => { results := [.lit (.bool false)], args := [d1, d2] }
  | _ => none }
def KeyLensWrongFalsely : Prop := keyLensRow.holds Try.pinned (OpenSpec.ofChange keyLensWrong)

/-- 'engrosslaw5.KeyParts': WHATEVER THE INPUT: true; the input reads as it did. -/
def keyPartsSpec : ChangeSpec := { name := "keyParts", fn := fun _ => fun
  | [d1, d2, d3] => { results := [.lit (.bool true)], args := [d1, d2, d3] }
  | _ => none }
def keyPartsRow : OpenClaim := { program := "ytoeiogailnfbkaa", sum := "a037cbde2f7237250ea0aee18819132c33d832012bb49f6440a3fd2ddc73ad37", func := "engross/engrosslaw5.KeyParts", spec := "keyParts", inPlace := ["math.Float64bits", "math.Float64frombits"], apart := false }
def KeyPartsSaid : Prop := keyPartsRow.holds Try.pinned (OpenSpec.ofChange keyPartsSpec)

/-- ITS FALSE NEIGHBOUR: 'it returns false'. Refute it at one input. -/
def keyPartsWrong : ChangeSpec := { name := "keyParts", fn := fun _ => fun
  | [d1, d2, d3] => { results := [.lit (.bool false)], args := [d1, d2, d3] }
  | _ => none }
def KeyPartsWrongFalsely : Prop := keyPartsRow.holds Try.pinned (OpenSpec.ofChange keyPartsWrong)

/- THE SECOND FORM. 'bulk': how many values and letters a reading holds, each counted each time it is reached (what is shared counts as often as it is met; a slice's spare places count too). A statement '..UptoSaid' is the law's where the arguments, and the package variables that the reading takes, are together of bulk at most 1048576: NARROWER than '..Said'. Prove '..Said' where nothing that the law and all that it calls make is longer than what came in: it says more and counts as full. Else prove '..UptoSaid'. A law counts once. -/
mutual
def uptoBulk {H : Type} : DataW H → Nat
  | .lit (.string bytes) => bytes.length + 1
  | .lit _ => 1
  | .nil => 1
  | .ptr d => uptoBulk d + 1
  | .slice elems spare => uptoBulkAll elems + uptoBulkAll spare + 1
  | .agg parts => uptoBulkAll parts + 1
  | .iface _ d => uptoBulk d + 1
  | .map entries => uptoBulkEntries entries + 1
  | .held _ => 1
def uptoBulkAll {H : Type} : List (DataW H) → Nat
  | [] => 0
  | d :: r => uptoBulk d + uptoBulkAll r
def uptoBulkEntries {H : Type} : List (Lit × DataW H) → Nat
  | [] => 0
  | x :: r => uptoBulkEntry x + uptoBulkEntries r
def uptoBulkEntry {H : Type} : Lit × DataW H → Nat
  | (.string bytes, d) => bytes.length + uptoBulk d + 1
  | (_, d) => uptoBulk d + 1
 end
def uptoSmall : (H : Type) → List (DataW H) → Bool := fun _ ds => decide (uptoBulkAll ds ≤ 1048576)
def OpenSpec.upto (s : _root_.Go.ChangeSpec) : _root_.Go.OpenSpec := { _root_.Go.OpenSpec.ofChange s with cond := some uptoSmall }

/-- 'engrosslaw5.KeyAll', WHERE WHAT IT READS IS OF BULK AT MOST 1048576: true; the input reads as it did. -/
def keyAllUptoRow : OpenClaim := { program := "ytoeiogailnfbkaa", sum := "a037cbde2f7237250ea0aee18819132c33d832012bb49f6440a3fd2ddc73ad37", func := "engross/engrosslaw5.KeyAll", spec := "keyAll", inPlace := ["math.Float64bits", "math.Float64frombits"], apart := false, narrowed := true }
def KeyAllUptoSaid : Prop := keyAllUptoRow.holds Try.pinned (OpenSpec.upto keyAllSpec)

/-- 'engrosslaw5.KeyFloats', WHERE WHAT IT READS IS OF BULK AT MOST 1048576: true; the input reads as it did. -/
def keyFloatsUptoRow : OpenClaim := { program := "ytoeiogailnfbkaa", sum := "a037cbde2f7237250ea0aee18819132c33d832012bb49f6440a3fd2ddc73ad37", func := "engross/engrosslaw5.KeyFloats", spec := "keyFloats", inPlace := ["math.Float64bits", "math.Float64frombits"], apart := false, narrowed := true }
def KeyFloatsUptoSaid : Prop := keyFloatsUptoRow.holds Try.pinned (OpenSpec.upto keyFloatsSpec)

/-- 'engrosslaw5.KeyMid', WHERE WHAT IT READS IS OF BULK AT MOST 1048576: true; the input reads as it did. -/
def keyMidUptoRow : OpenClaim := { program := "ytoeiogailnfbkaa", sum := "a037cbde2f7237250ea0aee18819132c33d832012bb49f6440a3fd2ddc73ad37", func := "engross/engrosslaw5.KeyMid", spec := "keyMid", inPlace := ["math.Float64bits", "math.Float64frombits"], apart := false, narrowed := true }
def KeyMidUptoSaid : Prop := keyMidUptoRow.holds Try.pinned (OpenSpec.upto keyMidSpec)

/-- 'engrosslaw5.KeyOfs', WHERE WHAT IT READS IS OF BULK AT MOST 1048576: true; the input reads as it did. -/
def keyOfsUptoRow : OpenClaim := { program := "ytoeiogailnfbkaa", sum := "a037cbde2f7237250ea0aee18819132c33d832012bb49f6440a3fd2ddc73ad37", func := "engross/engrosslaw5.KeyOfs", spec := "keyOfs", inPlace := ["math.Float64bits", "math.Float64frombits"], apart := false, narrowed := true }
def KeyOfsUptoSaid : Prop := keyOfsUptoRow.holds Try.pinned (OpenSpec.upto keyOfsSpec)

/-- 'engrosslaw5.KeySpan', WHERE WHAT IT READS IS OF BULK AT MOST 1048576: true; the input reads as it did. -/
def keySpanUptoRow : OpenClaim := { program := "ytoeiogailnfbkaa", sum := "a037cbde2f7237250ea0aee18819132c33d832012bb49f6440a3fd2ddc73ad37", func := "engross/engrosslaw5.KeySpan", spec := "keySpan", inPlace := ["math.Float64bits", "math.Float64frombits"], apart := false, narrowed := true }
def KeySpanUptoSaid : Prop := keySpanUptoRow.holds Try.pinned (OpenSpec.upto keySpanSpec)

/-- 'engrosslaw5.KeyLens', WHERE WHAT IT READS IS OF BULK AT MOST 1048576: true; the input reads as it did. -/
def keyLensUptoRow : OpenClaim := { program := "ytoeiogailnfbkaa", sum := "a037cbde2f7237250ea0aee18819132c33d832012bb49f6440a3fd2ddc73ad37", func := "engross/engrosslaw5.KeyLens", spec := "keyLens", inPlace := ["math.Float64bits", "math.Float64frombits"], apart := false, narrowed := true }
def KeyLensUptoSaid : Prop := keyLensUptoRow.holds Try.pinned (OpenSpec.upto keyLensSpec)

/-- 'engrosslaw5.KeyParts', WHERE WHAT IT READS IS OF BULK AT MOST 1048576: true; the input reads as it did. -/
def keyPartsUptoRow : OpenClaim := { program := "ytoeiogailnfbkaa", sum := "a037cbde2f7237250ea0aee18819132c33d832012bb49f6440a3fd2ddc73ad37", func := "engross/engrosslaw5.KeyParts", spec := "keyParts", inPlace := ["math.Float64bits", "math.Float64frombits"], apart := false, narrowed := true }
def KeyPartsUptoSaid : Prop := keyPartsUptoRow.holds Try.pinned (OpenSpec.upto keyPartsSpec)

end Rows
end Go.Proofs.Ytoeiogailnfbkaa
