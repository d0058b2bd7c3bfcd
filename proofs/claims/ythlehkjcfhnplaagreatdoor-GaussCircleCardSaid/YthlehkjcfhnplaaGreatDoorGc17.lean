/- Several texts in one: BitsVal, BitsLz, RCommon, Common02. -/
import Derived.Test.YthlehkjcfhnplaaGreatDoorGc03
import Derived.Test.YthlehkjcfhnplaaGreatDoorGc09
import Derived.Test.YthlehkjcfhnplaaGreatDoorGc13
import Derived.Test.YthlehkjcfhnplaaGreatDoorGc14
import Derived.Test.YthlehkjcfhnplaaGreatDoorGc16
set_option maxRecDepth 100000
set_option maxHeartbeats 8000000
/- How many bits a number has, told by the number. -/
namespace Go.Proofs.YthlehkjcfhnplaaGreatDoor

/- How many bits, how many limbs. -/

def bz (x : Int) : Nat := bitsI (natL x.natAbs)
/- Common of the references, told by the numbers alone. -/
open Go.RowKit

/- common of the references of chapter 02. (Written by wip/frac/gencommon02.py.) -/

end Go.Proofs.YthlehkjcfhnplaaGreatDoor
