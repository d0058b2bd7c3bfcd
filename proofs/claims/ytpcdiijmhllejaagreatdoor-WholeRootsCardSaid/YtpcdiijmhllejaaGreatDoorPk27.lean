/- Several texts in one: CmpW, OfW, WrapI. -/
import Derived.Test.YtpcdiijmhllejaaGreatDoorPk10
import Derived.Test.YtpcdiijmhllejaaGreatDoorPk02
import Derived.Test.YtpcdiijmhllejaaGreatDoorPk05
/- Cmp of package whole and of the references. (Written by wip/exact/genfine.py, cut off by hand.) -/
namespace Go.Proofs.YtpcdiijmhllejaaGreatDoor
open Go.RowKit

end Go.Proofs.YtpcdiijmhllejaaGreatDoor

/- Of of package whole. -/
namespace Go.Proofs.YtpcdiijmhllejaaGreatDoor
open Go.RowKit

end Go.Proofs.YtpcdiijmhllejaaGreatDoor

/- Sign, Bits of package whole and of the references: 0 of what may not be. (Written by wip/exact/genwrap.py.) -/
namespace Go.Proofs.YtpcdiijmhllejaaGreatDoor
open Go.RowKit

end Go.Proofs.YtpcdiijmhllejaaGreatDoor
