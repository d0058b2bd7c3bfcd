/- Several texts in one: BitsVal, BitsLz, RCommon, Common02. -/
import Derived.Test.YthlehkjcfhnplaaGreatDoorGn03
import Derived.Test.YthlehkjcfhnplaaGreatDoorGn09
import Derived.Test.YthlehkjcfhnplaaGreatDoorGn06
import Derived.Test.YthlehkjcfhnplaaGreatDoorGn08
import Derived.Test.YthlehkjcfhnplaaGreatDoorGn02
import Derived.Test.YthlehkjcfhnplaaGreatDoorGn07
import Derived.Test.YthlehkjcfhnplaaGreatDoorGn01
import Derived.Test.YthlehkjcfhnplaaGreatDoorGn04
import Derived.Test.YthlehkjcfhnplaaGreatDoorGn05
import Derived.Test.YthlehkjcfhnplaaGreatDoorGn13
import Derived.Test.YthlehkjcfhnplaaGreatDoorGn14
import Derived.Test.YthlehkjcfhnplaaGreatDoorGn16
import Derived.Test.YthlehkjcfhnplaaGreatDoorGn11
import Derived.Test.YthlehkjcfhnplaaGreatDoorGn10
import Derived.Test.YthlehkjcfhnplaaGreatDoorGn15
import Derived.Test.YthlehkjcfhnplaaGreatDoorGn12
set_option maxRecDepth 100000
set_option maxHeartbeats 8000000
/- How many bits a number has, told by the number. -/
namespace Go.Proofs.YthlehkjcfhnplaaGreatDoor

/- How many bits, how many limbs. -/

def bz (x : Int) : Nat := bitsI (natL x.natAbs)
/- Common of the references, told by the numbers alone. -/
open Go.RowKit

/- common of the references of chapter 02. (Written by wip/frac/gencommon02.py.) -/

end Go.Proofs.YthlehkjcfhnplaaGreatDoor
