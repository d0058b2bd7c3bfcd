/- Several texts in one: BitsVal, BitsLz, RCommon, Common02. -/
import Derived.Test.YtadmoheohmbieaaDoorBr03
import Derived.Test.YtadmoheohmbieaaDoorBr09
import Derived.Test.YtadmoheohmbieaaDoorBr13
import Derived.Test.YtadmoheohmbieaaDoorBr14
import Derived.Test.YtadmoheohmbieaaDoorBr16
set_option maxRecDepth 100000
set_option maxHeartbeats 8000000
/- How many bits a number has, told by the number. -/
namespace Go.Proofs.YtadmoheohmbieaaDoor

/- How many bits, how many limbs. -/

def bz (x : Int) : Nat := bitsI (natL x.natAbs)
/- Common of the references, told by the numbers alone. -/
open Go.RowKit

/- common of the references of chapter 02. (Written by wip/frac/gencommon02.py.) -/

end Go.Proofs.YtadmoheohmbieaaDoor
