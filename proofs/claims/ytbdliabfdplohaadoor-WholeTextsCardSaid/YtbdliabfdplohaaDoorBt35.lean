/- Several texts in one: Look, Apart. -/
import Derived.Test.YtbdliabfdplohaaDoorBt34
import Derived.BigQuiet
import Derived.Test.YtbdliabfdplohaaDoorBt33
set_option maxRecDepth 100000
set_option maxHeartbeats 8000000
/- lookLimb: all lists of a Book bear their marks. -/
namespace Go.Proofs.YtbdliabfdplohaaDoor
open Go.RowKit

/- Apart: lists of limbs that share no memory pass. (Written by wip/book/gennil.py.) -/

end Go.Proofs.YtbdliabfdplohaaDoor
