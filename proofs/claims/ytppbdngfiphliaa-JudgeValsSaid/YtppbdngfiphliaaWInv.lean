/- Words of the walks, as the kit's print tool wrote them for this seat, cut down by this session's program to what the claim needs. No condition. -/
import Derived.Test.YtppbdngfiphliaaWTab
namespace Go.Proofs.YtppbdngfiphliaaW.PrintLast
/-- Number i is listed too. -/
def up (b : Nat → Bool) (i : Nat) : Nat → Bool := fun j => if j = i then true else b j
end Go.Proofs.YtppbdngfiphliaaW.PrintLast
