/-
  No cell of these rows narrows 'for every input' (looked for: loops, veiled, ifaces, maps, wideKeys, modest, calm, conditions, laid).
  DERIVED. THE GIVEN ROWS OF THIS SEAT. 8 by the template 'for every input the law returns true; each argument reads behind the call as it read before'; 0 by the template 'total and deterministic' (their statements: YtmmjpieafbjggaaTotals.lean).
  GIVEN WITH THE SEED: the statements are not yours to turn. If you find one false, say at which input.
  Laid BY PROGRAM, IN A SANDBOX (cutbox-rows.mjs): the forced cells as the released guide's own fill.sh prints them over the translation 80de795bec0a921e… (all of the seat's roots in one cut). By AI agents, Wed Nov 11 2026. No macro, syntax, notation, axiom, sorry.
-/
import Derived.Test.YtmmjpieafbjggaaChecked
import GoSem.Claim
import GoSem.ClaimJoined
import GoSem.ClaimMapViews
import Derived.JoinedTies
import Derived.KernelRfl
namespace Go.Proofs.Ytmmjpieafbjggaa
/- THE CELL 'sum', in the pinned program and in every row, IS THE sha256 OF THE DUMP (.gsa) THAT YtmmjpieafbjggaaProg.lean LOADS. Nothing in Lean hashes anything: it is a label: what it is worth is what the hold of that sum in a sandbox is worth. -/
noncomputable def Try.pinned : Pinned := { name := "ytmmjpieafbjggaa", sum := "80de795bec0a921ef8aa47a6194aee99b6e237d3a4df92a126f8c5f94b1cdba0", checked := Try.checked }
namespace Rows
def none {H : Type} : Left H := { results := [], args := [] }

/-- 'engrosslaw11.NodeAll': WHATEVER THE INPUT: true; the input reads as it did. -/
def nodeAllSpec : ChangeSpec := { name := "nodeAll", fn := fun _ => fun
  | [d1, d2] => { results := [.lit (.bool true)], args := [d1, d2] }
  | _ => none }
def nodeAllRow : OpenClaim := { program := "ytmmjpieafbjggaa", sum := "80de795bec0a921ef8aa47a6194aee99b6e237d3a4df92a126f8c5f94b1cdba0", func := "engross/engrosslaw11.NodeAll", spec := "nodeAll", inPlace := ["math.Float64bits", "math.Float64frombits"], apart := false }
def NodeAllSaid : Prop := nodeAllRow.holds Try.pinned (OpenSpec.ofChange nodeAllSpec)

/-- ITS FALSE NEIGHBOUR: 'it returns false'. Refute it at one input. -/
def nodeAllWrong : ChangeSpec := { name := "nodeAll", fn := fun _ => fun
  | [d1, d2] => { results := [.lit (.bool false)], args := [d1, d2] }
  | _ => none }
def NodeAllWrongFalsely : Prop := nodeAllRow.holds Try.pinned (OpenSpec.ofChange nodeAllWrong)

/-- 'engrosslaw11.NodeAny': WHATEVER THE INPUT: true; the input reads as it did. -/
def nodeAnySpec : ChangeSpec := { name := "nodeAny", fn := fun _ => fun
  | [d1, d2, d3, d4] => { results := [.lit (.bool true)], args := [d1, d2, d3, d4] }
  | _ => none }
def nodeAnyRow : OpenClaim := { program := "ytmmjpieafbjggaa", sum := "80de795bec0a921ef8aa47a6194aee99b6e237d3a4df92a126f8c5f94b1cdba0", func := "engross/engrosslaw11.NodeAny", spec := "nodeAny", inPlace := ["math.Float64bits", "math.Float64frombits"], apart := false }
def NodeAnySaid : Prop := nodeAnyRow.holds Try.pinned (OpenSpec.ofChange nodeAnySpec)

/-- ITS FALSE NEIGHBOUR: 'it returns false'. Refute it at one input. -/
def nodeAnyWrong : ChangeSpec := { name := "nodeAny", fn := fun _ => fun
  | [d1, d2, d3, d4] => { results := [.lit (.bool false)], args := [d1, d2, d3, d4] }
  | _ => none }
def NodeAnyWrongFalsely : Prop := nodeAnyRow.holds Try.pinned (OpenSpec.ofChange nodeAnyWrong)

/-- 'engrosslaw11.NodeThree': WHATEVER THE INPUT: true; the input reads as it did. -/
def nodeThreeSpec : ChangeSpec := { name := "nodeThree", fn := fun _ => fun
  | [d1, d2, d3] => { results := [.lit (.bool true)], args := [d1, d2, d3] }
  | _ => none }
def nodeThreeRow : OpenClaim := { program := "ytmmjpieafbjggaa", sum := "80de795bec0a921ef8aa47a6194aee99b6e237d3a4df92a126f8c5f94b1cdba0", func := "engross/engrosslaw11.NodeThree", spec := "nodeThree", inPlace := ["math.Float64bits", "math.Float64frombits"], apart := false }
def NodeThreeSaid : Prop := nodeThreeRow.holds Try.pinned (OpenSpec.ofChange nodeThreeSpec)

/-- ITS FALSE NEIGHBOUR: 'it returns false'. Refute it at one input. -/
def nodeThreeWrong : ChangeSpec := { name := "nodeThree", fn := fun _ => fun
  | [d1, d2, d3] => { results := [.lit (.bool false)], args := [d1, d2, d3] }
  | _ => none }
def NodeThreeWrongFalsely : Prop := nodeThreeRow.holds Try.pinned (OpenSpec.ofChange nodeThreeWrong)

/-- 'engrosslaw11.NodeFull': WHATEVER THE INPUT: true; the input reads as it did. -/
def nodeFullSpec : ChangeSpec := { name := "nodeFull", fn := fun _ => fun
  | [d1, d2] => { results := [.lit (.bool true)], args := [d1, d2] }
  | _ => none }
def nodeFullRow : OpenClaim := { program := "ytmmjpieafbjggaa", sum := "80de795bec0a921ef8aa47a6194aee99b6e237d3a4df92a126f8c5f94b1cdba0", func := "engross/engrosslaw11.NodeFull", spec := "nodeFull", inPlace := ["math.Float64bits", "math.Float64frombits"], apart := false }
def NodeFullSaid : Prop := nodeFullRow.holds Try.pinned (OpenSpec.ofChange nodeFullSpec)

/-- ITS FALSE NEIGHBOUR: 'it returns false'. Refute it at one input. -/
def nodeFullWrong : ChangeSpec := { name := "nodeFull", fn := fun _ => fun
  | [d1, d2] => { results := [.lit (.bool false)], args := [d1, d2] }
  | _ => none }
def NodeFullWrongFalsely : Prop := nodeFullRow.holds Try.pinned (OpenSpec.ofChange nodeFullWrong)

/-- 'engrosslaw11.NodeWays': WHATEVER THE INPUT: true; the input reads as it did. -/
def nodeWaysSpec : ChangeSpec := { name := "nodeWays", fn := fun _ => fun
  | [d1, d2] => { results := [.lit (.bool true)], args := [d1, d2] }
  | _ => none }
def nodeWaysRow : OpenClaim := { program := "ytmmjpieafbjggaa", sum := "80de795bec0a921ef8aa47a6194aee99b6e237d3a4df92a126f8c5f94b1cdba0", func := "engross/engrosslaw11.NodeWays", spec := "nodeWays", inPlace := ["math.Float64bits", "math.Float64frombits"], apart := false }
def NodeWaysSaid : Prop := nodeWaysRow.holds Try.pinned (OpenSpec.ofChange nodeWaysSpec)

/-- ITS FALSE NEIGHBOUR: 'it returns false'. Refute it at one input. -/
def nodeWaysWrong : ChangeSpec := { name := "nodeWays", fn := fun _ => fun
  | [d1, d2] => { results := [.lit (.bool false)], args := [d1, d2] }
  | _ => none }
def NodeWaysWrongFalsely : Prop := nodeWaysRow.holds Try.pinned (OpenSpec.ofChange nodeWaysWrong)

/-- 'engrosslaw11.NodeKids': WHATEVER THE INPUT: true; the input reads as it did. -/
def nodeKidsSpec : ChangeSpec := { name := "nodeKids", fn := fun _ => fun
  | [d1, d2] => { results := [.lit (.bool true)], args := [d1, d2] }
  | _ => none }
def nodeKidsRow : OpenClaim := { program := "ytmmjpieafbjggaa", sum := "80de795bec0a921ef8aa47a6194aee99b6e237d3a4df92a126f8c5f94b1cdba0", func := "engross/engrosslaw11.NodeKids", spec := "nodeKids", inPlace := ["math.Float64bits", "math.Float64frombits"], apart := false }
def NodeKidsSaid : Prop := nodeKidsRow.holds Try.pinned (OpenSpec.ofChange nodeKidsSpec)

/-- ITS FALSE NEIGHBOUR: 'it returns false'. Refute it at one input. -/
def nodeKidsWrong : ChangeSpec := { name := "nodeKids", fn := fun _ => fun
  | [d1, d2] => { results := [.lit (.bool false)], args := [d1, d2] }
  | _ => none }
def NodeKidsWrongFalsely : Prop := nodeKidsRow.holds Try.pinned (OpenSpec.ofChange nodeKidsWrong)

/-- 'engrosslaw11.NodeOrder': WHATEVER THE INPUT: true; the input reads as it did. -/
def nodeOrderSpec : ChangeSpec := { name := "nodeOrder", fn := fun _ => fun
  | [d1, d2, d3] => { results := [.lit (.bool true)], args := [d1, d2, d3] }
  | _ => none }
def nodeOrderRow : OpenClaim := { program := "ytmmjpieafbjggaa", sum := "80de795bec0a921ef8aa47a6194aee99b6e237d3a4df92a126f8c5f94b1cdba0", func := "engross/engrosslaw11.NodeOrder", spec := "nodeOrder", inPlace := ["math.Float64bits", "math.Float64frombits"], apart := false }
def NodeOrderSaid : Prop := nodeOrderRow.holds Try.pinned (OpenSpec.ofChange nodeOrderSpec)

/-- ITS FALSE NEIGHBOUR: 'it returns false'. Refute it at one input. -/
def nodeOrderWrong : ChangeSpec := { name := "nodeOrder", fn := fun _ => fun
  | [d1, d2, d3] => { results := [.lit (.bool false)], args := [d1, d2, d3] }
  | _ => none }
def NodeOrderWrongFalsely : Prop := nodeOrderRow.holds Try.pinned (OpenSpec.ofChange nodeOrderWrong)

/-- 'engrosslaw11.NodeTwins': WHATEVER THE INPUT: true; the input reads as it did. -/
def nodeTwinsSpec : ChangeSpec := { name := "nodeTwins", fn := fun _ => fun
  | [d1, d2] => { results := [.lit (.bool true)], args := [d1, d2] }
  | _ => none }
def nodeTwinsRow : OpenClaim := { program := "ytmmjpieafbjggaa", sum := "80de795bec0a921ef8aa47a6194aee99b6e237d3a4df92a126f8c5f94b1cdba0", func := "engross/engrosslaw11.NodeTwins", spec := "nodeTwins", inPlace := ["math.Float64bits", "math.Float64frombits"], apart := false }
def NodeTwinsSaid : Prop := nodeTwinsRow.holds Try.pinned (OpenSpec.ofChange nodeTwinsSpec)

/-- ITS FALSE NEIGHBOUR: 'it returns false'. Refute it at one input. -/
def nodeTwinsWrong : ChangeSpec := { name := "nodeTwins", fn := fun _ => fun
  | [d1, d2] => { results := [.lit (.bool false)], args := [d1, d2] }
  | _ => none }
def NodeTwinsWrongFalsely : Prop := nodeTwinsRow.holds Try.pinned (OpenSpec.ofChange nodeTwinsWrong)

/- THE SECOND FORM. 'bulk': how many values and letters a reading holds, each counted each time it is reached (what is shared counts as often as it is met; a slice's spare places count too). A statement '..UptoSaid' is the law's where the arguments, and the package variables that the reading takes, are together of bulk at most 1048576: NARROWER than '..Said'. Prove '..Said' where nothing that the law and all that it calls make is longer than what came in: it says more and counts as full. Else prove '..UptoSaid'. A law counts once. -/
mutual
def uptoBulk {H : Type} : DataW H → Nat
  | .lit (.string bytes) => bytes.length + 1
  | .lit _ => 1
  | .nil => 1
  | .ptr d => uptoBulk d + 1
  | .slice elems spare => uptoBulkAll elems + uptoBulkAll spare + 1
  | .agg parts => uptoBulkAll parts + 1
  | .iface _ d => uptoBulk d + 1
  | .map entries => uptoBulkEntries entries + 1
  | .held _ => 1
def uptoBulkAll {H : Type} : List (DataW H) → Nat
  | [] => 0
  | d :: r => uptoBulk d + uptoBulkAll r
def uptoBulkEntries {H : Type} : List (Lit × DataW H) → Nat
  | [] => 0
  | x :: r => uptoBulkEntry x + uptoBulkEntries r
def uptoBulkEntry {H : Type} : Lit × DataW H → Nat
  | (.string bytes, d) => bytes.length + uptoBulk d + 1
  | (_, d) => uptoBulk d + 1
 end
def uptoSmall : (H : Type) → List (DataW H) → Bool := fun _ ds => decide (uptoBulkAll ds ≤ 1048576)
def OpenSpec.upto (s : _root_.Go.ChangeSpec) : _root_.Go.OpenSpec := { _root_.Go.OpenSpec.ofChange s with cond := some uptoSmall }

/-- 'engrosslaw11.NodeAll', WHERE WHAT IT READS IS OF BULK AT MOST 1048576: true; the input reads as it did. -/
def nodeAllUptoRow : OpenClaim := { program := "ytmmjpieafbjggaa", sum := "80de795bec0a921ef8aa47a6194aee99b6e237d3a4df92a126f8c5f94b1cdba0", func := "engross/engrosslaw11.NodeAll", spec := "nodeAll", inPlace := ["math.Float64bits", "math.Float64frombits"], apart := false, narrowed := true }
def NodeAllUptoSaid : Prop := nodeAllUptoRow.holds Try.pinned (OpenSpec.upto nodeAllSpec)

/-- 'engrosslaw11.NodeAny', WHERE WHAT IT READS IS OF BULK AT MOST 1048576: true; the input reads as it did. -/
def nodeAnyUptoRow : OpenClaim := { program := "ytmmjpieafbjggaa", sum := "80de795bec0a921ef8aa47a6194aee99b6e237d3a4df92a126f8c5f94b1cdba0", func := "engross/engrosslaw11.NodeAny", spec := "nodeAny", inPlace := ["math.Float64bits", "math.Float64frombits"], apart := false, narrowed := true }
def NodeAnyUptoSaid : Prop := nodeAnyUptoRow.holds Try.pinned (OpenSpec.upto nodeAnySpec)

/-- 'engrosslaw11.NodeThree', WHERE WHAT IT READS IS OF BULK AT MOST 1048576: true; the input reads as it did. -/
def nodeThreeUptoRow : OpenClaim := { program := "ytmmjpieafbjggaa", sum := "80de795bec0a921ef8aa47a6194aee99b6e237d3a4df92a126f8c5f94b1cdba0", func := "engross/engrosslaw11.NodeThree", spec := "nodeThree", inPlace := ["math.Float64bits", "math.Float64frombits"], apart := false, narrowed := true }
def NodeThreeUptoSaid : Prop := nodeThreeUptoRow.holds Try.pinned (OpenSpec.upto nodeThreeSpec)

/-- 'engrosslaw11.NodeFull', WHERE WHAT IT READS IS OF BULK AT MOST 1048576: true; the input reads as it did. -/
def nodeFullUptoRow : OpenClaim := { program := "ytmmjpieafbjggaa", sum := "80de795bec0a921ef8aa47a6194aee99b6e237d3a4df92a126f8c5f94b1cdba0", func := "engross/engrosslaw11.NodeFull", spec := "nodeFull", inPlace := ["math.Float64bits", "math.Float64frombits"], apart := false, narrowed := true }
def NodeFullUptoSaid : Prop := nodeFullUptoRow.holds Try.pinned (OpenSpec.upto nodeFullSpec)

/-- 'engrosslaw11.NodeWays', WHERE WHAT IT READS IS OF BULK AT MOST 1048576: true; the input reads as it did. -/
def nodeWaysUptoRow : OpenClaim := { program := "ytmmjpieafbjggaa", sum := "80de795bec0a921ef8aa47a6194aee99b6e237d3a4df92a126f8c5f94b1cdba0", func := "engross/engrosslaw11.NodeWays", spec := "nodeWays", inPlace := ["math.Float64bits", "math.Float64frombits"], apart := false, narrowed := true }
def NodeWaysUptoSaid : Prop := nodeWaysUptoRow.holds Try.pinned (OpenSpec.upto nodeWaysSpec)

/-- 'engrosslaw11.NodeKids', WHERE WHAT IT READS IS OF BULK AT MOST 1048576: true; the input reads as it did. -/
def nodeKidsUptoRow : OpenClaim := { program := "ytmmjpieafbjggaa", sum := "80de795bec0a921ef8aa47a6194aee99b6e237d3a4df92a126f8c5f94b1cdba0", func := "engross/engrosslaw11.NodeKids", spec := "nodeKids", inPlace := ["math.Float64bits", "math.Float64frombits"], apart := false, narrowed := true }
def NodeKidsUptoSaid : Prop := nodeKidsUptoRow.holds Try.pinned (OpenSpec.upto nodeKidsSpec)

/-- 'engrosslaw11.NodeOrder', WHERE WHAT IT READS IS OF BULK AT MOST 1048576: true; the input reads as it did. -/
def nodeOrderUptoRow : OpenClaim := { program := "ytmmjpieafbjggaa", sum := "80de795bec0a921ef8aa47a6194aee99b6e237d3a4df92a126f8c5f94b1cdba0", func := "engross/engrosslaw11.NodeOrder", spec := "nodeOrder", inPlace := ["math.Float64bits", "math.Float64frombits"], apart := false, narrowed := true }
def NodeOrderUptoSaid : Prop := nodeOrderUptoRow.holds Try.pinned (OpenSpec.upto nodeOrderSpec)

/-- 'engrosslaw11.NodeTwins', WHERE WHAT IT READS IS OF BULK AT MOST 1048576: true; the input reads as it did. -/
def nodeTwinsUptoRow : OpenClaim := { program := "ytmmjpieafbjggaa", sum := "80de795bec0a921ef8aa47a6194aee99b6e237d3a4df92a126f8c5f94b1cdba0", func := "engross/engrosslaw11.NodeTwins", spec := "nodeTwins", inPlace := ["math.Float64bits", "math.Float64frombits"], apart := false, narrowed := true }
def NodeTwinsUptoSaid : Prop := nodeTwinsUptoRow.holds Try.pinned (OpenSpec.upto nodeTwinsSpec)

end Rows
end Go.Proofs.Ytmmjpieafbjggaa
