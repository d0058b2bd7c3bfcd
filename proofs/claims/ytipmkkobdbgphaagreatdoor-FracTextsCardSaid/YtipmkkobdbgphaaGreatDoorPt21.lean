/- Several texts in one: CmpW, OfW, WrapI, May. -/
import Derived.Test.YtipmkkobdbgphaaGreatDoorPt11
import Derived.Test.YtipmkkobdbgphaaGreatDoorPt04
import Derived.Test.YtipmkkobdbgphaaGreatDoorPt08
set_option maxRecDepth 100000
set_option maxHeartbeats 8000000
/- Cmp of package whole and of the references. (Written by wip/exact/genfine.py, cut off by hand.) -/
namespace Go.Proofs.YtipmkkobdbgphaaGreatDoor
open Go.RowKit

/- Of of package whole. -/

/- Sign, Bits of package whole and of the references: 0 of what may not be. (Written by wip/exact/genwrap.py.) -/

/- may, small: of a list of numbers. -/

abbrev Num := Bool × Option Addr × Nat × List Nat
def cellsNum (l : List Num) : List Value := l.flatMap fun m => [.bool m.1, .slice m.2.1 m.2.2.2.length m.2.2.1]
def okNum (m : Num) : Bool := okI m.1 m.2.2.2
end Go.Proofs.YtipmkkobdbgphaaGreatDoor
