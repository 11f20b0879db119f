/-
  No cell of these rows narrows 'for every input' (looked for: loops, veiled, ifaces, maps, wideKeys, modest, calm, conditions, laid).
  DERIVED. THE GIVEN ROWS OF THIS SEAT. 4 by the template 'for every input the law returns true; each argument reads behind the call as it read before'; 0 by the template 'total and deterministic' (their statements: YtppbdngfiphliaaTotals.lean).
  GIVEN WITH THE SEED: the statements are not yours to turn. If you find one false, say at which input.
  Laid BY PROGRAM, IN A SANDBOX (cutbox-rows.mjs): the forced cells as the released guide's own fill.sh prints them over the translation aa685220046490d3… (all of the seat's roots in one cut). By AI agents, Wed Nov 11 2026. No macro, syntax, notation, axiom, sorry.
-/
import Derived.Test.YtppbdngfiphliaaChecked
import GoSem.Claim
import GoSem.ClaimJoined
import GoSem.ClaimMapViews
import Derived.JoinedTies
import Derived.KernelRfl
namespace Go.Proofs.Ytppbdngfiphliaa
/- THE CELL 'sum', in the pinned program and in every row, IS THE sha256 OF THE DUMP (.gsa) THAT YtppbdngfiphliaaProg.lean LOADS. Nothing in Lean hashes anything: it is a label: what it is worth is what the hold of that sum in a sandbox is worth. -/
noncomputable def Try.pinned : Pinned := { name := "ytppbdngfiphliaa", sum := "aa685220046490d35d5422d9ac8949b3852286ce8869b37e8b1ff0c1d10cca15", checked := Try.checked }
namespace Rows
def none {H : Type} : Left H := { results := [], args := [] }

/-- 'engrosslaw28.JudgeAll': WHATEVER THE INPUT: true; the input reads as it did. -/
def judgeAllSpec : ChangeSpec := { name := "judgeAll", fn := fun _ => fun
  | [d1, d2, d3, d4] => { results := [.lit (.bool true)], args := [d1, d2, d3, d4] }
  | _ => none }
def judgeAllRow : OpenClaim := { program := "ytppbdngfiphliaa", sum := "aa685220046490d35d5422d9ac8949b3852286ce8869b37e8b1ff0c1d10cca15", func := "engross/engrosslaw28.JudgeAll", spec := "judgeAll", inPlace := ["math.Float64bits", "math.Float64frombits", "internal/bytealg.abigen_runtime_cmpstring", "slices.overlaps[engross/api.Pair]"], unfollowed := true, recurses := true, apart := false }
def JudgeAllSaid : Prop := judgeAllRow.holds Try.pinned (OpenSpec.ofChange judgeAllSpec)

/-- ITS FALSE NEIGHBOUR: 'it returns false'. Refute it at one input. -/
def judgeAllWrong : ChangeSpec := { name := "judgeAll", fn := fun _ => fun
  | [d1, d2, d3, d4] => { results := [.lit (.bool false)], args := [d1, d2, d3, d4] }
  | _ => none }
def JudgeAllWrongFalsely : Prop := judgeAllRow.holds Try.pinned (OpenSpec.ofChange judgeAllWrong)

/-- 'engrosslaw28.JudgeOver': WHATEVER THE INPUT: true; the input reads as it did. -/
def judgeOverSpec : ChangeSpec := { name := "judgeOver", fn := fun _ => fun
  | [d1, d2] => { results := [.lit (.bool true)], args := [d1, d2] }
  | _ => none }
def judgeOverRow : OpenClaim := { program := "ytppbdngfiphliaa", sum := "aa685220046490d35d5422d9ac8949b3852286ce8869b37e8b1ff0c1d10cca15", func := "engross/engrosslaw28.JudgeOver", spec := "judgeOver", inPlace := ["math.Float64bits", "math.Float64frombits", "internal/bytealg.abigen_runtime_cmpstring", "slices.overlaps[engross/api.Pair]"], unfollowed := true, recurses := true, apart := false }
def JudgeOverSaid : Prop := judgeOverRow.holds Try.pinned (OpenSpec.ofChange judgeOverSpec)

/-- ITS FALSE NEIGHBOUR: 'it returns false'. Refute it at one input. -/
def judgeOverWrong : ChangeSpec := { name := "judgeOver", fn := fun _ => fun
  | [d1, d2] => { results := [.lit (.bool false)], args := [d1, d2] }
  | _ => none }
def JudgeOverWrongFalsely : Prop := judgeOverRow.holds Try.pinned (OpenSpec.ofChange judgeOverWrong)

/-- 'engrosslaw28.JudgeParts': WHATEVER THE INPUT: true; the input reads as it did. -/
def judgePartsSpec : ChangeSpec := { name := "judgeParts", fn := fun _ => fun
  | [d1, d2, d3, d4] => { results := [.lit (.bool true)], args := [d1, d2, d3, d4] }
  | _ => none }
def judgePartsRow : OpenClaim := { program := "ytppbdngfiphliaa", sum := "aa685220046490d35d5422d9ac8949b3852286ce8869b37e8b1ff0c1d10cca15", func := "engross/engrosslaw28.JudgeParts", spec := "judgeParts", inPlace := ["math.Float64bits", "math.Float64frombits", "internal/bytealg.abigen_runtime_cmpstring", "slices.overlaps[engross/api.Pair]"], unfollowed := true, recurses := true, apart := false }
def JudgePartsSaid : Prop := judgePartsRow.holds Try.pinned (OpenSpec.ofChange judgePartsSpec)

/-- ITS FALSE NEIGHBOUR: 'it returns false'. Refute it at one input. -/
def judgePartsWrong : ChangeSpec := { name := "judgeParts", fn := fun _ => fun
  | [d1, d2, d3, d4] => { results := [.lit (.bool false)], args := [d1, d2, d3, d4] }
  | _ => none }
def JudgePartsWrongFalsely : Prop := judgePartsRow.holds Try.pinned (OpenSpec.ofChange judgePartsWrong)

/-- 'engrosslaw28.JudgeVals': WHATEVER THE INPUT: true; the input reads as it did. -/
def judgeValsSpec : ChangeSpec := { name := "judgeVals", fn := fun _ => fun
  | [d1, d2] => { results := [.lit (.bool true)], args := [d1, d2] }
  | _ => none }
def judgeValsRow : OpenClaim := { program := "ytppbdngfiphliaa", sum := "aa685220046490d35d5422d9ac8949b3852286ce8869b37e8b1ff0c1d10cca15", func := "engross/engrosslaw28.JudgeVals", spec := "judgeVals", inPlace := ["math.Float64bits", "math.Float64frombits", "internal/bytealg.abigen_runtime_cmpstring", "slices.overlaps[engross/api.Pair]"], unfollowed := true, recurses := true, apart := false }
def JudgeValsSaid : Prop := judgeValsRow.holds Try.pinned (OpenSpec.ofChange judgeValsSpec)

/-- ITS FALSE NEIGHBOUR: 'it returns false'. Refute it at one input. -/
def judgeValsWrong : ChangeSpec := { name := "judgeVals", fn := fun _ => fun
  | [d1, d2] => { results := [.lit (.bool false)], args := [d1, d2] }
  | _ => none }
def JudgeValsWrongFalsely : Prop := judgeValsRow.holds Try.pinned (OpenSpec.ofChange judgeValsWrong)

/- THE SECOND FORM. 'bulk': how many values and letters a reading holds, each counted each time it is reached (what is shared counts as often as it is met; a slice's spare places count too). A statement '..UptoSaid' is the law's where the arguments, and the package variables that the reading takes, are together of bulk at most 1048576: NARROWER than '..Said'. Prove '..Said' where nothing that the law and all that it calls make is longer than what came in: it says more and counts as full. Else prove '..UptoSaid'. A law counts once. -/
mutual
def uptoBulk {H : Type} : DataW H → Nat
  | .lit (.string bytes) => bytes.length + 1
  | .lit _ => 1
  | .nil => 1
  | .ptr d => uptoBulk d + 1
  | .slice elems spare => uptoBulkAll elems + uptoBulkAll spare + 1
  | .agg parts => uptoBulkAll parts + 1
  | .iface _ d => uptoBulk d + 1
  | .map entries => uptoBulkEntries entries + 1
  | .held _ => 1
def uptoBulkAll {H : Type} : List (DataW H) → Nat
  | [] => 0
  | d :: r => uptoBulk d + uptoBulkAll r
def uptoBulkEntries {H : Type} : List (Lit × DataW H) → Nat
  | [] => 0
  | x :: r => uptoBulkEntry x + uptoBulkEntries r
def uptoBulkEntry {H : Type} : Lit × DataW H → Nat
  | (.string bytes, d) => bytes.length + uptoBulk d + 1
  | (_, d) => uptoBulk d + 1
 end
def uptoSmall : (H : Type) → List (DataW H) → Bool := fun _ ds => decide (uptoBulkAll ds ≤ 1048576)
def OpenSpec.upto (s : _root_.Go.ChangeSpec) : _root_.Go.OpenSpec := { _root_.Go.OpenSpec.ofChange s with cond := some uptoSmall }

/-- 'engrosslaw28.JudgeAll', WHERE WHAT IT READS IS OF BULK AT MOST 1048576: true; the input reads as it did. -/
def judgeAllUptoRow : OpenClaim := { program := "ytppbdngfiphliaa", sum := "aa685220046490d35d5422d9ac8949b3852286ce8869b37e8b1ff0c1d10cca15", func := "engross/engrosslaw28.JudgeAll", spec := "judgeAll", inPlace := ["math.Float64bits", "math.Float64frombits", "internal/bytealg.abigen_runtime_cmpstring", "slices.overlaps[engross/api.Pair]"], unfollowed := true, recurses := true, apart := false, narrowed := true }
def JudgeAllUptoSaid : Prop := judgeAllUptoRow.holds Try.pinned (OpenSpec.upto judgeAllSpec)

/-- 'engrosslaw28.JudgeOver', WHERE WHAT IT READS IS OF BULK AT MOST 1048576: true; the input reads as it did. -/
def judgeOverUptoRow : OpenClaim := { program := "ytppbdngfiphliaa", sum := "aa685220046490d35d5422d9ac8949b3852286ce8869b37e8b1ff0c1d10cca15", func := "engross/engrosslaw28.JudgeOver", spec := "judgeOver", inPlace := ["math.Float64bits", "math.Float64frombits", "internal/bytealg.abigen_runtime_cmpstring", "slices.overlaps[engross/api.Pair]"], unfollowed := true, recurses := true, apart := false, narrowed := true }
def JudgeOverUptoSaid : Prop := judgeOverUptoRow.holds Try.pinned (OpenSpec.upto judgeOverSpec)

/-- 'engrosslaw28.JudgeParts', WHERE WHAT IT READS IS OF BULK AT MOST 1048576: true; the input reads as it did. -/
def judgePartsUptoRow : OpenClaim := { program := "ytppbdngfiphliaa", sum := "aa685220046490d35d5422d9ac8949b3852286ce8869b37e8b1ff0c1d10cca15", func := "engross/engrosslaw28.JudgeParts", spec := "judgeParts", inPlace := ["math.Float64bits", "math.Float64frombits", "internal/bytealg.abigen_runtime_cmpstring", "slices.overlaps[engross/api.Pair]"], unfollowed := true, recurses := true, apart := false, narrowed := true }
def JudgePartsUptoSaid : Prop := judgePartsUptoRow.holds Try.pinned (OpenSpec.upto judgePartsSpec)

/-- 'engrosslaw28.JudgeVals', WHERE WHAT IT READS IS OF BULK AT MOST 1048576: true; the input reads as it did. -/
def judgeValsUptoRow : OpenClaim := { program := "ytppbdngfiphliaa", sum := "aa685220046490d35d5422d9ac8949b3852286ce8869b37e8b1ff0c1d10cca15", func := "engross/engrosslaw28.JudgeVals", spec := "judgeVals", inPlace := ["math.Float64bits", "math.Float64frombits", "internal/bytealg.abigen_runtime_cmpstring", "slices.overlaps[engross/api.Pair]"], unfollowed := true, recurses := true, apart := false, narrowed := true }
def JudgeValsUptoSaid : Prop := judgeValsUptoRow.holds Try.pinned (OpenSpec.upto judgeValsSpec)

end Rows
end Go.Proofs.Ytppbdngfiphliaa
