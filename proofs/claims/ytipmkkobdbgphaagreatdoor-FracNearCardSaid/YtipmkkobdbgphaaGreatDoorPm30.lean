/- Several texts in one: RefDecLaw, ReadLaw, ReadZ, ReadBack. -/
import Derived.Test.YtipmkkobdbgphaaGreatDoorPm22
import Derived.Lib.Atoi
import Derived.Lib.RabinKarpLaws
import Derived.Lib.Itoa
import Derived.Lib.ItoaMem
set_option maxRecDepth 100000
set_option maxHeartbeats 8000000
/- Decimal digits, the lowest ahead, as the references write them: plain Lean. -/
namespace Go.Proofs.YtipmkkobdbgphaaGreatDoor

def ldig : Nat → Nat → List UInt8
  | 0, _ => []
  | k + 1, c => UInt8.ofNat (48 + c % 10) :: ldig k (c / 10)
def lchunks (cs : List Nat) : List UInt8 := cs.flatMap fun c => ldig 9 c
def turned8 (xs : List UInt8) (i : Nat) : List UInt8 := (xs.reverse.take i) ++ ((xs.drop i).take (xs.length - 2 * i)) ++ (xs.reverse.drop (xs.length - i))
/- A number's text, read: plain Lean. -/

/- What a text of a whole number says: plain Lean. -/

def badD (D : List UInt8) (neg : Bool) : Bool := D.isEmpty || (D.head? == some 48 && (decide (1 < D.length) || neg))
def readN (D : List UInt8) (neg : Bool) : Option Nat := if badD D neg then none else Lib.decFrom 0 D
def negOf (s : List UInt8) : Bool := s.head? == some 45
def tailOf (s : List UInt8) : List UInt8 := if negOf s then s.tail else s
def readZ (s : List UInt8) : Option Int := (readN (tailOf s) (negOf s)).map fun n => if negOf s then -(n : Int) else n
/- What is told is read as the number; what is read is told so: plain Lean. -/

end Go.Proofs.YtipmkkobdbgphaaGreatDoor
