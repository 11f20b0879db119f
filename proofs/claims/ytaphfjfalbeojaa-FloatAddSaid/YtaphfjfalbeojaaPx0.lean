/- Functions of the program as Lean functions, and that each call answers as its function does. No condition. (Lines written by a generator of this session.) -/
import Derived.Test.YtaphfjfalbeojaaProg
import Derived.Below
import Derived.Deep.Draws
import Derived.Deep.AppendLies
import Derived.Maps.AppendAt
import Derived.OwnWalk
import Derived.Laws.BytesArg
import Derived.Laws.MakeOwn
import Derived.Laws.OwnMore
import Derived.Deep.OwnRows
import Derived.Tactics
import Derived.Lib.ConvBytes
import Derived.Laws.Slices
import Derived.WalkKit
import Derived.KernelRfl
import Derived.RowKit3
import Derived.Deep.LoopGhost
import Derived.Deep.QuietTactic
import Derived.BigQuiet
import Derived.WideLaws
import Derived.Deep.DeepCutAuto
import Derived.Deep.CutBlock
import Derived.Deep.RegionHeld3
import Derived.Laws.Rows
import Derived.Lib.AppendStr
import Derived.ArgAppend
import Derived.Laws.IdiomCopy
import Derived.OrdersHeld
import Derived.Laws.BitsLemmas
import Derived.RowKit
import Derived.Test.YtaphfjfalbeojaaXE
import Derived.Test.YtaphfjfalbeojaaXH
import Derived.Test.YtaphfjfalbeojaaWWords
import Derived.Test.YtaphfjfalbeojaaWLast
import Derived.Test.YtaphfjfalbeojaaWTab
import Derived.Test.YtaphfjfalbeojaaWFour
import Derived.Test.YtaphfjfalbeojaaWQPut
import Derived.Test.YtaphfjfalbeojaaWApart
import Derived.Test.YtaphfjfalbeojaaWArr
import Derived.Test.YtaphfjfalbeojaaWZeros
import Derived.Test.YtaphfjfalbeojaaWFoot
import Derived.Test.YtaphfjfalbeojaaWKept
import Derived.Test.YtaphfjfalbeojaaWShare
import Derived.Test.YtaphfjfalbeojaaWN
import Derived.Test.YtaphfjfalbeojaaWFootNe
import Derived.Test.YtaphfjfalbeojaaWAt
import Derived.Test.YtaphfjfalbeojaaWEqStruct
import Derived.Test.YtaphfjfalbeojaaWRepsOne
import Derived.Test.YtaphfjfalbeojaaWInv
import Derived.Test.YtaphfjfalbeojaaWInvWords
import Derived.Test.YtaphfjfalbeojaaWGuard
import Derived.Test.YtaphfjfalbeojaaWNEv
import Derived.Test.YtaphfjfalbeojaaWMore
import Derived.Test.YtaphfjfalbeojaaXWords
namespace Go.Proofs.Ytaphfjfalbeojaa.P
open Go.RowKit Go.Proofs.YtaphfjfalbeojaaW.PrintWords Go.Proofs.YtaphfjfalbeojaaW.PrintLast Go.Proofs.YtaphfjfalbeojaaW.PrintMore
attribute [local go_sem] max2_int min2_int max_two min_two max_three min_three max_four min_four   -- for this text's walks alone
attribute [local go_sem] x_str_gtr x_str_leq x_str_geq ext_bits ext_frombits ext_neg Instr.field asAgg
set_option linter.unusedVariables false
set_option linter.unusedSimpArgs false



def errW : Option Int → Value
  | none => .nilIface
  | some c => .iface 0 (.int .i64 c)
theorem errW_none : errW none = .nilIface := rfl
theorem errW_some (c : Int) : errW (some c) = .iface 0 (.int .i64 c) := rfl

theorem info5 : (Try.prog.info? 5).map (fun i => (i.zero, i.size, i.bytes)) = some (some (.int .u8 0), 1, 1) := by kernel_rfl
theorem info22 : (Try.prog.info? 22).map (fun i => (i.zero, i.size, i.bytes)) = some (some (.int .u64 0), 1, 8) := by kernel_rfl
theorem info24 : (Try.prog.info? 24).map (fun i => (i.zero, i.size, i.bytes)) = some (some (.float .f64 0), 1, 8) := by kernel_rfl
-- the values' own types

end Go.Proofs.Ytaphfjfalbeojaa.P
