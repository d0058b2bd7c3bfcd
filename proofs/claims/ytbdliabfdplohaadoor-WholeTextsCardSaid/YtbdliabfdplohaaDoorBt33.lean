/- Several texts in one: Nil, Fill. -/
import Derived.Test.YtbdliabfdplohaaDoorBt32
set_option maxRecDepth 100000
set_option maxHeartbeats 8000000
/- The other lists of a Book, of which there is none. (Written by wip/book/gennil.py.) -/
namespace Go.Proofs.YtbdliabfdplohaaDoor
open Go.RowKit

/- fillLimb: marks are written into all lists of a Book. -/

end Go.Proofs.YtbdliabfdplohaaDoor
