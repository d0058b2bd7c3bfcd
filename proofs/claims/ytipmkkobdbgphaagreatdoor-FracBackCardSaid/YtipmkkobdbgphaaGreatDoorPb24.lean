/- Several texts in one: BookFrac, RefInt64, FOf, FRefCheck. -/
import Derived.Test.YtipmkkobdbgphaaGreatDoorPb23
import Derived.Test.YtipmkkobdbgphaaGreatDoorPb16
import Derived.Test.YtipmkkobdbgphaaGreatDoorPb20
import Derived.Deep.RegionWith
import Derived.Test.YtipmkkobdbgphaaGreatDoorPb21
import Derived.Test.YtipmkkobdbgphaaGreatDoorPb17
import Derived.Test.YtipmkkobdbgphaaGreatDoorPb14
set_option maxRecDepth 100000
set_option maxHeartbeats 8000000
/- Frac of a Book: the two numbers' limbs are put into it. -/
namespace Go.Proofs.YtipmkkobdbgphaaGreatDoor
open Go.RowKit

/- Int64 of the references. -/

theorem ok64' (n : Int) (h1 : -9223372036854775808 ≤ n) (h2 : n ≤ 9223372036854775807) : okI (decide (n < 0)) (natL n.natAbs) = true := by
  refine okI_true.2 ⟨?_, canon_natL _, fun h => ?_⟩
  · have := (natL_length_le (n := n.natAbs) (k := 2)).2 (by omega); omega
  · have := natL_eq_nil.1 h
    simp; omega
/- Of of package frac. -/

def zN (n d : Int) : Int := if d = 0 then 0 else lowN n d
def zD (n d : Int) : Int := if d = 0 then 0 else lowD n d
def zE (d : Int) : Int := if d = 0 then 3 else 0
/- Check of the references of chapter 02. (Written by wip/frac/genfrefcheck.py.) -/

end Go.Proofs.YtipmkkobdbgphaaGreatDoor
