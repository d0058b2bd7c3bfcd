/- Several texts in one: Lens, Root, RootR, RootEx. -/
import Derived.Test.YtipmkkobdbgphaaGreatDoorPm21
import Derived.IntWalk
import Derived.Test.YtipmkkobdbgphaaGreatDoorPm16
import Derived.Test.YtipmkkobdbgphaaGreatDoorPm36
import Derived.Test.YtipmkkobdbgphaaGreatDoorPm17
import Derived.Deep.LoopGhost
import Derived.Test.YtipmkkobdbgphaaGreatDoorPm14
import Derived.Test.YtipmkkobdbgphaaGreatDoorPm11
set_option maxRecDepth 100000
set_option maxHeartbeats 8000000
/- Lengths of numbers' limbs in tests. -/
namespace Go.Proofs.YtipmkkobdbgphaaGreatDoor

/- Root of package exact: Newton's steps from above. (Written by wip/exact/genroot.py.) -/
open Go.RowKit

def IsRootZ (x r : Int) : Prop := 0 ≤ r ∧ r * r ≤ x ∧ x < (r + 1) * (r + 1)
structure RootAt (w wr : World) (bx br : Nat) (x : Int) (A : Option Addr) (c : Nat) (r : Int) (A1 : Option Addr) (c1 : Nat) : Prop where
  px : Pair wr bx 25 (.bool (decide (x < 0))) (.slice A (natL x.natAbs).length c)
  pr : Pair wr br 25 (.bool (decide (r < 0))) (.slice A1 (natL r.natAbs).length c1)
  own : IntOwn wr w.heap.size (.agg #[.bool (decide (r < 0)), .slice A1 (natL r.natAbs).length c1]) r
  low : Below w.heap.size w wr
  pos : 0 < r
  above : x < (r + 1) * (r + 1)
  len : lz r ≤ 100000
def RetRoot (base : Nat) (w : World) (r : Int) (sq : Bool) (e : Ending) (w' : World) : Prop := ∃ v, e = .returned (.tuple #[v, .bool sq]) ∧ IntOwn w' base v r ∧ Below w.heap.size w w'

/- Root of the references: Newton's steps from above. (Written by wip/exact/genroot.py.) -/

/- There is a root. Plain. -/

end Go.Proofs.YtipmkkobdbgphaaGreatDoor
