/- Several texts in one: RefQuo. -/
import Derived.Test.YtpcdiijmhllejaaDoorBk26
import Derived.Test.YtpcdiijmhllejaaDoorBk27
/- Divide of the references. -/
namespace Go.Proofs.YtpcdiijmhllejaaDoor
open Go.RowKit

end Go.Proofs.YtpcdiijmhllejaaDoor
