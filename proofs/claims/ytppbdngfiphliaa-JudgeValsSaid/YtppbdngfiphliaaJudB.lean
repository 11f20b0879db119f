/- The beginning of the laws of stage 28 returns true. No condition. -/
import Derived.Test.YtppbdngfiphliaaJudO
import Derived.Test.YtppbdngfiphliaaPx8
set_option linter.unusedVariables false
set_option linter.unusedSimpArgs false
namespace Go.Proofs.Ytppbdngfiphliaa.Pure
open Go.RowKit Go.Proofs.Ytppbdngfiphliaa.P Go.Proofs.YtppbdngfiphliaaW.PrintWords Go.Proofs.YtppbdngfiphliaaW.PrintLast Go.Proofs.YtppbdngfiphliaaW.PrintMore
theorem begun28 {k : Nat} (hk : 100 ≤ k) : engrosslaw28_begun.f k = some true :=
  at_rounds (g := fun k => engrosslaw28_begun.f k) (fun k => engrosslaw28_begun.mono k) hk (show engrosslaw28_begun.f 100 = some true by decide +kernel)
end Go.Proofs.Ytppbdngfiphliaa.Pure
