/- Several texts in one: RootEx. -/
import Derived.Test.YtkncbenhfcpgkaaGreatDoorPu37
import Derived.Test.YtkncbenhfcpgkaaGreatDoorPu18
import Derived.Test.YtkncbenhfcpgkaaGreatDoorPu36
import Derived.Test.YtkncbenhfcpgkaaGreatDoorPu19
import Derived.Test.YtkncbenhfcpgkaaGreatDoorPu20
import Derived.Test.YtkncbenhfcpgkaaGreatDoorPu16
import Derived.Test.YtkncbenhfcpgkaaGreatDoorPu04
import Derived.Test.YtkncbenhfcpgkaaGreatDoorPu07
import Derived.Test.YtkncbenhfcpgkaaGreatDoorPu02
import Derived.Test.YtkncbenhfcpgkaaGreatDoorPu01
import Derived.Test.YtkncbenhfcpgkaaGreatDoorPu33
import Derived.Test.YtkncbenhfcpgkaaGreatDoorPu06
import Derived.Test.YtkncbenhfcpgkaaGreatDoorPu03
import Derived.Test.YtkncbenhfcpgkaaGreatDoorPu05
import Derived.Test.YtkncbenhfcpgkaaGreatDoorPu08
import Derived.Test.YtkncbenhfcpgkaaGreatDoorPu15
import Derived.Test.YtkncbenhfcpgkaaGreatDoorPu34
import Derived.Test.YtkncbenhfcpgkaaGreatDoorPu14
import Derived.Test.YtkncbenhfcpgkaaGreatDoorPu11
import Derived.Test.YtkncbenhfcpgkaaGreatDoorPu13
import Derived.Test.YtkncbenhfcpgkaaGreatDoorPu12
import Derived.Test.YtkncbenhfcpgkaaGreatDoorPu17
import Derived.Test.YtkncbenhfcpgkaaGreatDoorPu35
import Derived.Test.YtkncbenhfcpgkaaGreatDoorPu09
set_option maxRecDepth 100000
set_option maxHeartbeats 8000000
/- There is a root. Plain. -/
namespace Go.Proofs.YtkncbenhfcpgkaaGreatDoor

theorem root_ex : ∀ x : Nat, ∃ r, IsRoot x r
  | 0 => ⟨0, by unfold IsRoot; omega⟩
  | n + 1 => by
    obtain ⟨r, h1, h2⟩ := root_ex n
    by_cases h : (r + 1) * (r + 1) ≤ n + 1
    · refine ⟨r + 1, h, ?_⟩
      have h3 : (r + 1) * (r + 1) < (r + 1 + 1) * (r + 1 + 1) := Nat.mul_lt_mul_of_lt_of_le (by omega) (by omega) (by omega)
      omega
    · exact ⟨r, by omega, by omega⟩
theorem rootZ_ex {x : Int} (h : 0 ≤ x) : ∃ r, IsRootZ x r := by
  obtain ⟨r, hr⟩ := root_ex x.toNat
  exact ⟨(r : Int), (isRootZ h).2 ⟨by omega, by simpa using hr⟩⟩
end Go.Proofs.YtkncbenhfcpgkaaGreatDoor
