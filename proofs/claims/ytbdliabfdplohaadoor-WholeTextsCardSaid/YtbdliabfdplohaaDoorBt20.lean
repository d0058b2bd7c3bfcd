/- Several texts in one: Plus, RefPlus. -/
import Derived.Test.YtbdliabfdplohaaDoorBt18
import Derived.Test.YtbdliabfdplohaaDoorBt16
import Derived.Test.YtbdliabfdplohaaDoorBt19
import Derived.Test.YtbdliabfdplohaaDoorBt08
set_option maxRecDepth 100000
set_option maxHeartbeats 8000000
/- Plus of package exact: what it counts. (Written by wip/exact/genplus.py.) -/
namespace Go.Proofs.YtbdliabfdplohaaDoor
open Go.RowKit

/- Plus of package polestarref01: what it counts. (Written by wip/exact/genplus.py.) -/

end Go.Proofs.YtbdliabfdplohaaDoor
