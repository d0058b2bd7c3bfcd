/- Several texts in one: Lens, Lz, Append. -/
import Derived.Test.YtkncbenhfcpgkaaDoorBu19
import Derived.Test.YtkncbenhfcpgkaaDoorBu17
import Derived.Test.YtkncbenhfcpgkaaDoorBu18
import Derived.Test.YtkncbenhfcpgkaaDoorBu09
import Derived.Test.YtkncbenhfcpgkaaDoorBu13
import Derived.Test.YtkncbenhfcpgkaaDoorBu04
import Derived.Test.YtkncbenhfcpgkaaDoorBu03
import Derived.Test.YtkncbenhfcpgkaaDoorBu02
import Derived.Test.YtkncbenhfcpgkaaDoorBu01
import Derived.Test.YtkncbenhfcpgkaaDoorBu11
import Derived.Test.YtkncbenhfcpgkaaDoorBu12
import Derived.Test.YtkncbenhfcpgkaaDoorBu06
import Derived.Test.YtkncbenhfcpgkaaDoorBu05
import Derived.Test.YtkncbenhfcpgkaaDoorBu10
import Derived.Test.YtkncbenhfcpgkaaDoorBu08
import Derived.Test.YtkncbenhfcpgkaaDoorBu16
import Derived.Test.YtkncbenhfcpgkaaDoorBu14
import Derived.Test.YtkncbenhfcpgkaaDoorBu15
import Derived.Test.YtkncbenhfcpgkaaDoorBu07
import Derived.IntWalk
set_option maxRecDepth 100000
set_option maxHeartbeats 8000000
/- Lengths of numbers' limbs in tests. -/
namespace Go.Proofs.YtkncbenhfcpgkaaDoor

theorem nought_len {z : Int} (h : z = 0) : ((natL z.natAbs).length : Int) = 0 := by subst h; decide
theorem len_ne {z : Int} (h : z ≠ 0) : (natL z.natAbs).length ≠ 0 := fun e => by
  have := natL_eq_nil.1 (List.eq_nil_of_length_eq_zero e)
  omega
theorem more_len {z : Int} (h : z ≠ 0) : (((natL z.natAbs).length : Int) == 0) = false := beq_false_of_ne (by
  have := len_ne h
  omega)
/- How long numbers get. -/

def lz (z : Int) : Nat := (natL z.natAbs).length
theorem lz_le {z : Int} {k : Nat} : lz z ≤ k ↔ z.natAbs < 4294967296 ^ k := natL_length_le
/- An append of one cell to a row of the call's own: in place, or to a new block; the elder block then stays. -/
open Go.RowKit
section
variable {P : Program} (w : World)
def Grew (w : World) (v : Value) (n : Nat) (v' : Value) (w' : World) : Prop :=
  (∃ g cap, v = .slice (some ⟨g, 0, none⟩) n cap ∧ v' = .slice (some ⟨g, 0, none⟩) (n + 1) cap ∧ w.grownBy w' (some g)) ∨ (v'.ownBlock = some w.heap.size ∧ w.grownBy w' none)
end
end Go.Proofs.YtkncbenhfcpgkaaDoor
