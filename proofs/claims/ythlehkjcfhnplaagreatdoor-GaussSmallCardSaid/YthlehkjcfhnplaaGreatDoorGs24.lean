/- Several texts in one: BookFrac, RefInt64, FOf, FRefCheck. -/
import Derived.Test.YthlehkjcfhnplaaGreatDoorGs23
import Derived.Test.YthlehkjcfhnplaaGreatDoorGs16
import Derived.Test.YthlehkjcfhnplaaGreatDoorGs20
import Derived.Deep.RegionWith
import Derived.Test.YthlehkjcfhnplaaGreatDoorGs21
import Derived.Test.YthlehkjcfhnplaaGreatDoorGs17
import Derived.Test.YthlehkjcfhnplaaGreatDoorGs14
set_option maxRecDepth 100000
set_option maxHeartbeats 8000000
/- Frac of a Book: the two numbers' limbs are put into it. -/
namespace Go.Proofs.YthlehkjcfhnplaaGreatDoor
open Go.RowKit

/- Int64 of the references. -/

/- Of of package frac. -/

def zN (n d : Int) : Int := if d = 0 then 0 else lowN n d
def zD (n d : Int) : Int := if d = 0 then 0 else lowD n d
def zE (d : Int) : Int := if d = 0 then 3 else 0
/- Check of the references of chapter 02. (Written by wip/frac/genfrefcheck.py.) -/

end Go.Proofs.YthlehkjcfhnplaaGreatDoor
