/-
  No cell of these rows narrows 'for every input' (looked for: loops, veiled, ifaces, maps, wideKeys, modest, calm, conditions, laid).
  DERIVED. THE GIVEN ROWS OF THIS SEAT. 12 by the template 'for every input the law returns true; each argument reads behind the call as it read before'; 0 by the template 'total and deterministic' (their statements: YtaphfjfalbeojaaTotals.lean).
  GIVEN WITH THE SEED: the statements are not yours to turn. If you find one false, say at which input.
  Laid BY PROGRAM, IN A SANDBOX (cutbox-rows.mjs): the forced cells as the released guide's own fill.sh prints them over the translation f2b8d96639108748… (all of the seat's roots in one cut). By AI agents, Wed Nov 11 2026. No macro, syntax, notation, axiom, sorry.
-/
import Derived.Test.YtaphfjfalbeojaaChecked
import GoSem.Claim
import GoSem.ClaimJoined
import GoSem.ClaimMapViews
import Derived.JoinedTies
import Derived.KernelRfl
namespace Go.Proofs.Ytaphfjfalbeojaa
/- THE CELL 'sum', in the pinned program and in every row, IS THE sha256 OF THE DUMP (.gsa) THAT YtaphfjfalbeojaaProg.lean LOADS. Nothing in Lean hashes anything: it is a label: what it is worth is what the hold of that sum in a sandbox is worth. -/
noncomputable def Try.pinned : Pinned := { name := "ytaphfjfalbeojaa", sum := "f2b8d96639108748873344f21b0213494a87b33bedf38d1404d7dc62cf427ef8", checked := Try.checked }
namespace Rows
def none {H : Type} : Left H := { results := [], args := [] }

/-- 'engrosslaw3.FloatOrder': WHATEVER THE INPUT: true; the input reads as it did. -/
def floatOrderSpec : ChangeSpec := { name := "floatOrder", fn := fun _ => fun
  | [d1, d2] => { results := [.lit (.bool true)], args := [d1, d2] }
  | _ => none }
def floatOrderRow : OpenClaim := { program := "ytaphfjfalbeojaa", sum := "f2b8d96639108748873344f21b0213494a87b33bedf38d1404d7dc62cf427ef8", func := "engross/engrosslaw3.FloatOrder", spec := "floatOrder", inPlace := ["math.Float64frombits", "math.Float64bits"], apart := false }
def FloatOrderSaid : Prop := floatOrderRow.holds Try.pinned (OpenSpec.ofChange floatOrderSpec)

/-- ITS FALSE NEIGHBOUR: 'it returns false'. Refute it at one input. -/
def floatOrderWrong : ChangeSpec := { name := "floatOrder", fn := fun _ => fun
  | [d1, d2] => { results := [.lit (.bool false)], args := [d1, d2] }
  | _ => none }
def FloatOrderWrongFalsely : Prop := floatOrderRow.holds Try.pinned (OpenSpec.ofChange floatOrderWrong)

/-- 'engrosslaw3.FloatBytes': WHATEVER THE INPUT: true; the input reads as it did. -/
def floatBytesSpec : ChangeSpec := { name := "floatBytes", fn := fun _ => fun
  | [d1, d2] => { results := [.lit (.bool true)], args := [d1, d2] }
  | _ => none }
def floatBytesRow : OpenClaim := { program := "ytaphfjfalbeojaa", sum := "f2b8d96639108748873344f21b0213494a87b33bedf38d1404d7dc62cf427ef8", func := "engross/engrosslaw3.FloatBytes", spec := "floatBytes", inPlace := ["math.Float64frombits", "math.Float64bits"], apart := false }
def FloatBytesSaid : Prop := floatBytesRow.holds Try.pinned (OpenSpec.ofChange floatBytesSpec)

/-- ITS FALSE NEIGHBOUR: 'it returns false'. Refute it at one input. -/
def floatBytesWrong : ChangeSpec := { name := "floatBytes", fn := fun _ => fun
  | [d1, d2] => { results := [.lit (.bool false)], args := [d1, d2] }
  | _ => none }
def FloatBytesWrongFalsely : Prop := floatBytesRow.holds Try.pinned (OpenSpec.ofChange floatBytesWrong)

/-- 'engrosslaw3.FloatThree': WHATEVER THE INPUT: true; the input reads as it did. -/
def floatThreeSpec : ChangeSpec := { name := "floatThree", fn := fun _ => fun
  | [d1, d2, d3] => { results := [.lit (.bool true)], args := [d1, d2, d3] }
  | _ => none }
def floatThreeRow : OpenClaim := { program := "ytaphfjfalbeojaa", sum := "f2b8d96639108748873344f21b0213494a87b33bedf38d1404d7dc62cf427ef8", func := "engross/engrosslaw3.FloatThree", spec := "floatThree", inPlace := ["math.Float64frombits", "math.Float64bits"], apart := false }
def FloatThreeSaid : Prop := floatThreeRow.holds Try.pinned (OpenSpec.ofChange floatThreeSpec)

/-- ITS FALSE NEIGHBOUR: 'it returns false'. Refute it at one input. -/
def floatThreeWrong : ChangeSpec := { name := "floatThree", fn := fun _ => fun
  | [d1, d2, d3] => { results := [.lit (.bool false)], args := [d1, d2, d3] }
  | _ => none }
def FloatThreeWrongFalsely : Prop := floatThreeRow.holds Try.pinned (OpenSpec.ofChange floatThreeWrong)

/-- 'engrosslaw3.FloatGo': WHATEVER THE INPUT: true; the input reads as it did. -/
def floatGoSpec : ChangeSpec := { name := "floatGo", fn := fun _ => fun
  | [d1, d2] => { results := [.lit (.bool true)], args := [d1, d2] }
  | _ => none }
def floatGoRow : OpenClaim := { program := "ytaphfjfalbeojaa", sum := "f2b8d96639108748873344f21b0213494a87b33bedf38d1404d7dc62cf427ef8", func := "engross/engrosslaw3.FloatGo", spec := "floatGo", inPlace := ["math.Float64frombits", "math.Float64bits"], apart := false }
def FloatGoSaid : Prop := floatGoRow.holds Try.pinned (OpenSpec.ofChange floatGoSpec)

/-- ITS FALSE NEIGHBOUR: 'it returns false'. Refute it at one input. -/
def floatGoWrong : ChangeSpec := { name := "floatGo", fn := fun _ => fun
  | [d1, d2] => { results := [.lit (.bool false)], args := [d1, d2] }
  | _ => none }
def FloatGoWrongFalsely : Prop := floatGoRow.holds Try.pinned (OpenSpec.ofChange floatGoWrong)

/-- 'engrosslaw3.FloatSum': WHATEVER THE INPUT: true; the input reads as it did. -/
def floatSumSpec : ChangeSpec := { name := "floatSum", fn := fun _ => fun
  | [d] => { results := [.lit (.bool true)], args := [d] }
  | _ => none }
def floatSumRow : OpenClaim := { program := "ytaphfjfalbeojaa", sum := "f2b8d96639108748873344f21b0213494a87b33bedf38d1404d7dc62cf427ef8", func := "engross/engrosslaw3.FloatSum", spec := "floatSum", inPlace := ["math.Float64frombits", "math.Float64bits"], apart := false }
def FloatSumSaid : Prop := floatSumRow.holds Try.pinned (OpenSpec.ofChange floatSumSpec)

/-- ITS FALSE NEIGHBOUR: 'it returns false'. Refute it at one input. -/
def floatSumWrong : ChangeSpec := { name := "floatSum", fn := fun _ => fun
  | [d] => { results := [.lit (.bool false)], args := [d] }
  | _ => none }
def FloatSumWrongFalsely : Prop := floatSumRow.holds Try.pinned (OpenSpec.ofChange floatSumWrong)

/-- 'engrosslaw3.FloatEdges': WHATEVER THE INPUT: true; the input reads as it did. -/
def floatEdgesSpec : ChangeSpec := { name := "floatEdges", fn := fun _ => fun
  | [d1, d2, d3, d4] => { results := [.lit (.bool true)], args := [d1, d2, d3, d4] }
  | _ => none }
def floatEdgesRow : OpenClaim := { program := "ytaphfjfalbeojaa", sum := "f2b8d96639108748873344f21b0213494a87b33bedf38d1404d7dc62cf427ef8", func := "engross/engrosslaw3.FloatEdges", spec := "floatEdges", inPlace := ["math.Float64frombits", "math.Float64bits"], apart := false }
def FloatEdgesSaid : Prop := floatEdgesRow.holds Try.pinned (OpenSpec.ofChange floatEdgesSpec)

/-- ITS FALSE NEIGHBOUR: 'it returns false'. Refute it at one input. -/
def floatEdgesWrong : ChangeSpec := { name := "floatEdges", fn := fun _ => fun
  | [d1, d2, d3, d4] => { results := [.lit (.bool false)], args := [d1, d2, d3, d4] }
  | _ => none }
def FloatEdgesWrongFalsely : Prop := floatEdgesRow.holds Try.pinned (OpenSpec.ofChange floatEdgesWrong)

/-- 'engrosslaw3.FloatInts': WHATEVER THE INPUT: true; the input reads as it did. -/
def floatIntsSpec : ChangeSpec := { name := "floatInts", fn := fun _ => fun
  | [d1, d2] => { results := [.lit (.bool true)], args := [d1, d2] }
  | _ => none }
def floatIntsRow : OpenClaim := { program := "ytaphfjfalbeojaa", sum := "f2b8d96639108748873344f21b0213494a87b33bedf38d1404d7dc62cf427ef8", func := "engross/engrosslaw3.FloatInts", spec := "floatInts", inPlace := ["math.Float64frombits", "math.Float64bits"], apart := false }
def FloatIntsSaid : Prop := floatIntsRow.holds Try.pinned (OpenSpec.ofChange floatIntsSpec)

/-- ITS FALSE NEIGHBOUR: 'it returns false'. Refute it at one input. -/
def floatIntsWrong : ChangeSpec := { name := "floatInts", fn := fun _ => fun
  | [d1, d2] => { results := [.lit (.bool false)], args := [d1, d2] }
  | _ => none }
def FloatIntsWrongFalsely : Prop := floatIntsRow.holds Try.pinned (OpenSpec.ofChange floatIntsWrong)

/-- 'engrosslaw3.FloatOne': WHATEVER THE INPUT: true; the input reads as it did. -/
def floatOneSpec : ChangeSpec := { name := "floatOne", fn := fun _ => fun
  | [d] => { results := [.lit (.bool true)], args := [d] }
  | _ => none }
def floatOneRow : OpenClaim := { program := "ytaphfjfalbeojaa", sum := "f2b8d96639108748873344f21b0213494a87b33bedf38d1404d7dc62cf427ef8", func := "engross/engrosslaw3.FloatOne", spec := "floatOne", inPlace := ["math.Float64frombits", "math.Float64bits"], apart := false }
def FloatOneSaid : Prop := floatOneRow.holds Try.pinned (OpenSpec.ofChange floatOneSpec)

/-- ITS FALSE NEIGHBOUR: 'it returns false'. Refute it at one input. -/
def floatOneWrong : ChangeSpec := { name := "floatOne", fn := fun _ => fun
  | [d] => { results := [.lit (.bool false)], args := [d] }
  | _ => none }
def FloatOneWrongFalsely : Prop := floatOneRow.holds Try.pinned (OpenSpec.ofChange floatOneWrong)

/-- 'engrosslaw3.FloatNaNs': WHATEVER THE INPUT: true; the input reads as it did. -/
def floatNaNsSpec : ChangeSpec := { name := "floatNaNs", fn := fun _ => fun
  | [d1, d2, d3] => { results := [.lit (.bool true)], args := [d1, d2, d3] }
  | _ => none }
def floatNaNsRow : OpenClaim := { program := "ytaphfjfalbeojaa", sum := "f2b8d96639108748873344f21b0213494a87b33bedf38d1404d7dc62cf427ef8", func := "engross/engrosslaw3.FloatNaNs", spec := "floatNaNs", inPlace := ["math.Float64frombits", "math.Float64bits"], apart := false }
def FloatNaNsSaid : Prop := floatNaNsRow.holds Try.pinned (OpenSpec.ofChange floatNaNsSpec)

/-- ITS FALSE NEIGHBOUR: 'it returns false'. Refute it at one input. -/
def floatNaNsWrong : ChangeSpec := { name := "floatNaNs", fn := fun _ => fun
  | [d1, d2, d3] => { results := [.lit (.bool false)], args := [d1, d2, d3] }
  | _ => none }
def FloatNaNsWrongFalsely : Prop := floatNaNsRow.holds Try.pinned (OpenSpec.ofChange floatNaNsWrong)

/-- 'engrosslaw3.FloatNext': WHATEVER THE INPUT: true; the input reads as it did. -/
def floatNextSpec : ChangeSpec := { name := "floatNext", fn := fun _ => fun
  | [d] => { results := [.lit (.bool true)], args := [d] }
  | _ => none }
def floatNextRow : OpenClaim := { program := "ytaphfjfalbeojaa", sum := "f2b8d96639108748873344f21b0213494a87b33bedf38d1404d7dc62cf427ef8", func := "engross/engrosslaw3.FloatNext", spec := "floatNext", inPlace := ["math.Float64frombits", "math.Float64bits"], apart := false }
def FloatNextSaid : Prop := floatNextRow.holds Try.pinned (OpenSpec.ofChange floatNextSpec)

/-- ITS FALSE NEIGHBOUR: 'it returns false'. Refute it at one input. -/
def floatNextWrong : ChangeSpec := { name := "floatNext", fn := fun _ => fun
  | [d] => { results := [.lit (.bool false)], args := [d] }
  | _ => none }
def FloatNextWrongFalsely : Prop := floatNextRow.holds Try.pinned (OpenSpec.ofChange floatNextWrong)

/-- 'engrosslaw3.FloatMinus': WHATEVER THE INPUT: true; the input reads as it did. -/
def floatMinusSpec : ChangeSpec := { name := "floatMinus", fn := fun _ => fun
  | [d1, d2] => { results := [.lit (.bool true)], args := [d1, d2] }
  | _ => none }
def floatMinusRow : OpenClaim := { program := "ytaphfjfalbeojaa", sum := "f2b8d96639108748873344f21b0213494a87b33bedf38d1404d7dc62cf427ef8", func := "engross/engrosslaw3.FloatMinus", spec := "floatMinus", inPlace := ["math.Float64frombits", "math.Float64bits"], apart := false }
def FloatMinusSaid : Prop := floatMinusRow.holds Try.pinned (OpenSpec.ofChange floatMinusSpec)

/-- ITS FALSE NEIGHBOUR: 'it returns false'. Refute it at one input. -/
def floatMinusWrong : ChangeSpec := { name := "floatMinus", fn := fun _ => fun
  | [d1, d2] => { results := [.lit (.bool false)], args := [d1, d2] }
  | _ => none }
def FloatMinusWrongFalsely : Prop := floatMinusRow.holds Try.pinned (OpenSpec.ofChange floatMinusWrong)

/-- 'engrosslaw3.FloatAdd': WHATEVER THE INPUT: true; the input reads as it did. -/
def floatAddSpec : ChangeSpec := { name := "floatAdd", fn := fun _ => fun
  | [d1, d2] => { results := [.lit (.bool true)], args := [d1, d2] }
  | _ => none }
def floatAddRow : OpenClaim := { program := "ytaphfjfalbeojaa", sum := "f2b8d96639108748873344f21b0213494a87b33bedf38d1404d7dc62cf427ef8", func := "engross/engrosslaw3.FloatAdd", spec := "floatAdd", inPlace := ["math.Float64frombits", "math.Float64bits"], apart := false }
def FloatAddSaid : Prop := floatAddRow.holds Try.pinned (OpenSpec.ofChange floatAddSpec)

/-- ITS FALSE NEIGHBOUR: 'it returns false'. Refute it at one input. -/
def floatAddWrong : ChangeSpec := { name := "floatAdd", fn := fun _ => fun
  | [d1, d2] => { results := [.lit (.bool false)], args := [d1, d2] }
  | _ => none }
def FloatAddWrongFalsely : Prop := floatAddRow.holds Try.pinned (OpenSpec.ofChange floatAddWrong)

/- THE SECOND FORM. 'bulk': how many values and letters a reading holds, each counted each time it is reached (what is shared counts as often as it is met; a slice's spare places count too). A statement '..UptoSaid' is the law's where the arguments, and the package variables that the reading takes, are together of bulk at most 1048576: NARROWER than '..Said'. Prove '..Said' where nothing that the law and all that it calls make is longer than what came in: it says more and counts as full. Else prove '..UptoSaid'. A law counts once. -/
mutual
def uptoBulk {H : Type} : DataW H → Nat
  | .lit (.string bytes) => bytes.length + 1
  | .lit _ => 1
  | .nil => 1
  | .ptr d => uptoBulk d + 1
  | .slice elems spare => uptoBulkAll elems + uptoBulkAll spare + 1
  | .agg parts => uptoBulkAll parts + 1
  | .iface _ d => uptoBulk d + 1
  | .map entries => uptoBulkEntries entries + 1
  | .held _ => 1
def uptoBulkAll {H : Type} : List (DataW H) → Nat
  | [] => 0
  | d :: r => uptoBulk d + uptoBulkAll r
def uptoBulkEntries {H : Type} : List (Lit × DataW H) → Nat
  | [] => 0
  | x :: r => uptoBulkEntry x + uptoBulkEntries r
def uptoBulkEntry {H : Type} : Lit × DataW H → Nat
  | (.string bytes, d) => bytes.length + uptoBulk d + 1
  | (_, d) => uptoBulk d + 1
 end
def uptoSmall : (H : Type) → List (DataW H) → Bool := fun _ ds => decide (uptoBulkAll ds ≤ 1048576)
def OpenSpec.upto (s : _root_.Go.ChangeSpec) : _root_.Go.OpenSpec := { _root_.Go.OpenSpec.ofChange s with cond := some uptoSmall }

/-- 'engrosslaw3.FloatOrder', WHERE WHAT IT READS IS OF BULK AT MOST 1048576: true; the input reads as it did. -/
def floatOrderUptoRow : OpenClaim := { program := "ytaphfjfalbeojaa", sum := "f2b8d96639108748873344f21b0213494a87b33bedf38d1404d7dc62cf427ef8", func := "engross/engrosslaw3.FloatOrder", spec := "floatOrder", inPlace := ["math.Float64frombits", "math.Float64bits"], apart := false, narrowed := true }
def FloatOrderUptoSaid : Prop := floatOrderUptoRow.holds Try.pinned (OpenSpec.upto floatOrderSpec)

/-- 'engrosslaw3.FloatBytes', WHERE WHAT IT READS IS OF BULK AT MOST 1048576: true; the input reads as it did. -/
def floatBytesUptoRow : OpenClaim := { program := "ytaphfjfalbeojaa", sum := "f2b8d96639108748873344f21b0213494a87b33bedf38d1404d7dc62cf427ef8", func := "engross/engrosslaw3.FloatBytes", spec := "floatBytes", inPlace := ["math.Float64frombits", "math.Float64bits"], apart := false, narrowed := true }
def FloatBytesUptoSaid : Prop := floatBytesUptoRow.holds Try.pinned (OpenSpec.upto floatBytesSpec)

/-- 'engrosslaw3.FloatThree', WHERE WHAT IT READS IS OF BULK AT MOST 1048576: true; the input reads as it did. -/
def floatThreeUptoRow : OpenClaim := { program := "ytaphfjfalbeojaa", sum := "f2b8d96639108748873344f21b0213494a87b33bedf38d1404d7dc62cf427ef8", func := "engross/engrosslaw3.FloatThree", spec := "floatThree", inPlace := ["math.Float64frombits", "math.Float64bits"], apart := false, narrowed := true }
def FloatThreeUptoSaid : Prop := floatThreeUptoRow.holds Try.pinned (OpenSpec.upto floatThreeSpec)

/-- 'engrosslaw3.FloatGo', WHERE WHAT IT READS IS OF BULK AT MOST 1048576: true; the input reads as it did. -/
def floatGoUptoRow : OpenClaim := { program := "ytaphfjfalbeojaa", sum := "f2b8d96639108748873344f21b0213494a87b33bedf38d1404d7dc62cf427ef8", func := "engross/engrosslaw3.FloatGo", spec := "floatGo", inPlace := ["math.Float64frombits", "math.Float64bits"], apart := false, narrowed := true }
def FloatGoUptoSaid : Prop := floatGoUptoRow.holds Try.pinned (OpenSpec.upto floatGoSpec)

/-- 'engrosslaw3.FloatSum', WHERE WHAT IT READS IS OF BULK AT MOST 1048576: true; the input reads as it did. -/
def floatSumUptoRow : OpenClaim := { program := "ytaphfjfalbeojaa", sum := "f2b8d96639108748873344f21b0213494a87b33bedf38d1404d7dc62cf427ef8", func := "engross/engrosslaw3.FloatSum", spec := "floatSum", inPlace := ["math.Float64frombits", "math.Float64bits"], apart := false, narrowed := true }
def FloatSumUptoSaid : Prop := floatSumUptoRow.holds Try.pinned (OpenSpec.upto floatSumSpec)

/-- 'engrosslaw3.FloatEdges', WHERE WHAT IT READS IS OF BULK AT MOST 1048576: true; the input reads as it did. -/
def floatEdgesUptoRow : OpenClaim := { program := "ytaphfjfalbeojaa", sum := "f2b8d96639108748873344f21b0213494a87b33bedf38d1404d7dc62cf427ef8", func := "engross/engrosslaw3.FloatEdges", spec := "floatEdges", inPlace := ["math.Float64frombits", "math.Float64bits"], apart := false, narrowed := true }
def FloatEdgesUptoSaid : Prop := floatEdgesUptoRow.holds Try.pinned (OpenSpec.upto floatEdgesSpec)

/-- 'engrosslaw3.FloatInts', WHERE WHAT IT READS IS OF BULK AT MOST 1048576: true; the input reads as it did. -/
def floatIntsUptoRow : OpenClaim := { program := "ytaphfjfalbeojaa", sum := "f2b8d96639108748873344f21b0213494a87b33bedf38d1404d7dc62cf427ef8", func := "engross/engrosslaw3.FloatInts", spec := "floatInts", inPlace := ["math.Float64frombits", "math.Float64bits"], apart := false, narrowed := true }
def FloatIntsUptoSaid : Prop := floatIntsUptoRow.holds Try.pinned (OpenSpec.upto floatIntsSpec)

/-- 'engrosslaw3.FloatOne', WHERE WHAT IT READS IS OF BULK AT MOST 1048576: true; the input reads as it did. -/
def floatOneUptoRow : OpenClaim := { program := "ytaphfjfalbeojaa", sum := "f2b8d96639108748873344f21b0213494a87b33bedf38d1404d7dc62cf427ef8", func := "engross/engrosslaw3.FloatOne", spec := "floatOne", inPlace := ["math.Float64frombits", "math.Float64bits"], apart := false, narrowed := true }
def FloatOneUptoSaid : Prop := floatOneUptoRow.holds Try.pinned (OpenSpec.upto floatOneSpec)

/-- 'engrosslaw3.FloatNaNs', WHERE WHAT IT READS IS OF BULK AT MOST 1048576: true; the input reads as it did. -/
def floatNaNsUptoRow : OpenClaim := { program := "ytaphfjfalbeojaa", sum := "f2b8d96639108748873344f21b0213494a87b33bedf38d1404d7dc62cf427ef8", func := "engross/engrosslaw3.FloatNaNs", spec := "floatNaNs", inPlace := ["math.Float64frombits", "math.Float64bits"], apart := false, narrowed := true }
def FloatNaNsUptoSaid : Prop := floatNaNsUptoRow.holds Try.pinned (OpenSpec.upto floatNaNsSpec)

/-- 'engrosslaw3.FloatNext', WHERE WHAT IT READS IS OF BULK AT MOST 1048576: true; the input reads as it did. -/
def floatNextUptoRow : OpenClaim := { program := "ytaphfjfalbeojaa", sum := "f2b8d96639108748873344f21b0213494a87b33bedf38d1404d7dc62cf427ef8", func := "engross/engrosslaw3.FloatNext", spec := "floatNext", inPlace := ["math.Float64frombits", "math.Float64bits"], apart := false, narrowed := true }
def FloatNextUptoSaid : Prop := floatNextUptoRow.holds Try.pinned (OpenSpec.upto floatNextSpec)

/-- 'engrosslaw3.FloatMinus', WHERE WHAT IT READS IS OF BULK AT MOST 1048576: true; the input reads as it did. -/
def floatMinusUptoRow : OpenClaim := { program := "ytaphfjfalbeojaa", sum := "f2b8d96639108748873344f21b0213494a87b33bedf38d1404d7dc62cf427ef8", func := "engross/engrosslaw3.FloatMinus", spec := "floatMinus", inPlace := ["math.Float64frombits", "math.Float64bits"], apart := false, narrowed := true }
def FloatMinusUptoSaid : Prop := floatMinusUptoRow.holds Try.pinned (OpenSpec.upto floatMinusSpec)

/-- 'engrosslaw3.FloatAdd', WHERE WHAT IT READS IS OF BULK AT MOST 1048576: true; the input reads as it did. -/
def floatAddUptoRow : OpenClaim := { program := "ytaphfjfalbeojaa", sum := "f2b8d96639108748873344f21b0213494a87b33bedf38d1404d7dc62cf427ef8", func := "engross/engrosslaw3.FloatAdd", spec := "floatAdd", inPlace := ["math.Float64frombits", "math.Float64bits"], apart := false, narrowed := true }
def FloatAddUptoSaid : Prop := floatAddUptoRow.holds Try.pinned (OpenSpec.upto floatAddSpec)

end Rows
end Go.Proofs.Ytaphfjfalbeojaa
