/- Several texts in one: GrowW, Look, Apart. -/
import Derived.Test.YtbdliabfdplohaaDoorBw27
import Derived.BigQuiet
set_option maxRecDepth 100000
set_option maxHeartbeats 8000000
/- growLimb: the walk. -/
namespace Go.Proofs.YtbdliabfdplohaaDoor
open Go.RowKit

/- lookLimb: all lists of a Book bear their marks. -/

/- Apart: lists of limbs that share no memory pass. (Written by wip/book/gennil.py.) -/

end Go.Proofs.YtbdliabfdplohaaDoor
