/- Functions of the program as Lean functions, and that each call answers as its function does. No condition. (Lines written by a generator of this session.) -/
import Derived.Test.YtoeiogailnfbkaaProg
import Derived.Below
import Derived.Deep.Draws
import Derived.Deep.AppendLies
import Derived.Maps.AppendAt
import Derived.OwnWalk
import Derived.Laws.BytesArg
import Derived.Laws.MakeOwn
import Derived.Laws.OwnMore
import Derived.Deep.OwnRows
import Derived.Tactics
import Derived.Lib.ConvBytes
import Derived.Laws.Slices
import Derived.WalkKit
import Derived.KernelRfl
import Derived.RowKit3
import Derived.Deep.LoopGhost
import Derived.Deep.QuietTactic
import Derived.BigQuiet
import Derived.WideLaws
import Derived.Deep.DeepCutAuto
import Derived.Deep.CutBlock
import Derived.Deep.RegionHeld3
import Derived.Laws.Rows
import Derived.Lib.AppendStr
import Derived.ArgAppend
import Derived.Laws.IdiomCopy
import Derived.OrdersHeld
import Derived.Laws.BitsLemmas
import Derived.RowKit
import Derived.Test.YtoeiogailnfbkaaXE
import Derived.Test.YtoeiogailnfbkaaWWords
import Derived.Test.YtoeiogailnfbkaaWLast
import Derived.Test.YtoeiogailnfbkaaWTab
import Derived.Test.YtoeiogailnfbkaaWFour
import Derived.Test.YtoeiogailnfbkaaWQPut
import Derived.Test.YtoeiogailnfbkaaWApart
import Derived.Test.YtoeiogailnfbkaaWArr
import Derived.Test.YtoeiogailnfbkaaWZeros
import Derived.Test.YtoeiogailnfbkaaWFoot
import Derived.Test.YtoeiogailnfbkaaWKept
import Derived.Test.YtoeiogailnfbkaaWShare
import Derived.Test.YtoeiogailnfbkaaWN
import Derived.Test.YtoeiogailnfbkaaWFootNe
import Derived.Test.YtoeiogailnfbkaaWAt
import Derived.Test.YtoeiogailnfbkaaWEqStruct
import Derived.Test.YtoeiogailnfbkaaWRepsOne
import Derived.Test.YtoeiogailnfbkaaWInv
import Derived.Test.YtoeiogailnfbkaaWInvWords
import Derived.Test.YtoeiogailnfbkaaWGuard
import Derived.Test.YtoeiogailnfbkaaWNEv
import Derived.Test.YtoeiogailnfbkaaWMore
import Derived.Test.YtoeiogailnfbkaaXWords
namespace Go.Proofs.Ytoeiogailnfbkaa.P
open Go.RowKit Go.Proofs.YtoeiogailnfbkaaW.PrintWords Go.Proofs.YtoeiogailnfbkaaW.PrintLast Go.Proofs.YtoeiogailnfbkaaW.PrintMore
attribute [local go_sem] max2_int min2_int max_two min_two max_three min_three max_four min_four   -- for this text's walks alone
attribute [local go_sem] x_str_gtr x_str_leq x_str_geq ext_bits ext_frombits ext_neg
set_option linter.unusedVariables false
set_option linter.unusedSimpArgs false



def errW : Option Int → Value
  | none => .nilIface
  | some c => .iface 0 (.int .i64 c)
theorem errW_none : errW none = .nilIface := rfl
theorem errW_some (c : Int) : errW (some c) = .iface 0 (.int .i64 c) := rfl

theorem info5 : (Try.prog.info? 5).map (fun i => (i.zero, i.size, i.bytes)) = some (some (.int .u8 0), 1, 1) := by kernel_rfl
-- the values' own types

end Go.Proofs.Ytoeiogailnfbkaa.P
