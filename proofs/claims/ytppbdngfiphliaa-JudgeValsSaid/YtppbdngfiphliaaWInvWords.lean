/- Words of the walks, as the kit's print tool wrote them for this seat, cut down by this session's program to what the claim needs. No condition. -/
import Derived.Test.YtppbdngfiphliaaWInv
import Derived.Test.YtppbdngfiphliaaWFootNe

