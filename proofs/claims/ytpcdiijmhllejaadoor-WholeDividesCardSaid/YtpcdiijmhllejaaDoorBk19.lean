/- Several texts in one: RefPlus. -/
import Derived.Test.YtpcdiijmhllejaaDoorBk08
import Derived.Test.YtpcdiijmhllejaaDoorBk16
import Derived.Test.YtpcdiijmhllejaaDoorBk15
import Derived.Test.YtpcdiijmhllejaaDoorBk02
/- Plus of package polestarref01: what it counts. (Written by wip/exact/genplus.py.) -/
namespace Go.Proofs.YtpcdiijmhllejaaDoor
open Go.RowKit

end Go.Proofs.YtpcdiijmhllejaaDoor
