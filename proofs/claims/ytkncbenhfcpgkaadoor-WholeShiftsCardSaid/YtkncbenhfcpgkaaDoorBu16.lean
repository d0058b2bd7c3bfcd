/- Several texts in one: RefQuo, RefDouble, RefCommon. -/
import Derived.Test.YtkncbenhfcpgkaaDoorBu15
import Derived.Test.YtkncbenhfcpgkaaDoorBu13
import Derived.Test.YtkncbenhfcpgkaaDoorBu07
import Derived.Test.YtkncbenhfcpgkaaDoorBu10
import Derived.Test.YtkncbenhfcpgkaaDoorBu09
import Derived.Test.YtkncbenhfcpgkaaDoorBu01
import Derived.Test.YtkncbenhfcpgkaaDoorBu05
import Derived.Test.YtkncbenhfcpgkaaDoorBu04
import Derived.Test.YtkncbenhfcpgkaaDoorBu03
import Derived.Test.YtkncbenhfcpgkaaDoorBu02
import Derived.Test.YtkncbenhfcpgkaaDoorBu06
import Derived.Test.YtkncbenhfcpgkaaDoorBu12
import Derived.Test.YtkncbenhfcpgkaaDoorBu14
import Derived.Test.YtkncbenhfcpgkaaDoorBu11
import Derived.Test.YtkncbenhfcpgkaaDoorBu08
import Derived.Deep.LoopGhost
set_option maxRecDepth 100000
set_option maxHeartbeats 8000000
/- Divide of the references. -/
namespace Go.Proofs.YtkncbenhfcpgkaaDoor
open Go.RowKit

/- Double of the references: times a power of two. -/

theorem ival_mul (n1 : Bool) (xs : List Nat) (m : Nat) : ival n1 xs * (m : Int) = if n1 then -((val xs * m : Nat) : Int) else ((val xs * m : Nat) : Int) := by
  unfold ival
  cases n1 <;> simp [Int.neg_mul]

/- Common of the references: the greatest number that goes into both, by halving. -/

structure Cm1 (w wr : World) (X Y : Nat) (A1 : Option Addr) (c1 a : Nat) (A2 : Option Addr) (c2 b t : Nat) : Prop where
  ra : Raw wr A1 c1 (natL a)
  rb : Raw wr A2 c2 (natL b)
  low : Below w.heap.size w wr
  pa : 0 < a
  pb : 0 < b
  gcd : Nat.gcd a b * 2 ^ t = Nat.gcd X Y
  la : a * 2 ^ t ≤ X
  lb : b ≤ Y
structure Cm2 (w wr : World) (g : Nat) (A1 : Option Addr) (c1 a : Nat) (A2 : Option Addr) (c2 b L : Nat) : Prop where
  ra : Raw wr A1 c1 (natL a)
  rb : Raw wr A2 c2 (natL b)
  low : Below w.heap.size w wr
  pb : 0 < b
  odd : a % 2 = 1 ∨ b % 2 = 1
  gcd : Nat.gcd a b = g
  la : (natL a).length ≤ L
  lb : (natL b).length ≤ L
end Go.Proofs.YtkncbenhfcpgkaaDoor
