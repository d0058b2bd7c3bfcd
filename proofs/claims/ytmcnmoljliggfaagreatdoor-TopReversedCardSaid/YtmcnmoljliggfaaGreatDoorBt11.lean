/- Several texts in one: RefTimes, RefDivide, RefQuo, RefDouble, Moves. -/
import Derived.Test.YtmcnmoljliggfaaGreatDoorBt10
import Derived.Test.YtmcnmoljliggfaaGreatDoorBt07
set_option maxRecDepth 100000
set_option maxHeartbeats 8000000
/- times, fitting, half, even of the references. -/
namespace Go.Proofs.YtmcnmoljliggfaaGreatDoor
open Go.RowKit

/- divide of the references: long division, limb by limb. -/

def RetNN (base : Nat) (w : World) (n1 n2 : Nat) (e : Ending) (w' : World) : Prop := ∃ v1 v2, e = .returned (.tuple #[v1, v2]) ∧ OwnN w' base v1 n1 ∧ OwnN w' base v2 n2 ∧ Below w.heap.size w w'

structure RDiv (w wr : World) (g : Nat) (xs ys : List Nat) (v : Value) (k R : Nat) (zs : List Nat) : Prop where
  len : zs.length = xs.length
  limbs : Limbs zs
  row : Row wr g zs
  low : Below w.heap.size w wr
  own : OwnN wr (g + 1) v R
  eq : val (zs.drop k) * val ys + R = val (xs.drop k)
  lt : R < val ys
  nought : ∀ j, j < k → at0 zs j = 0
/- Divide of the references. -/

/- Double of the references: times a power of two. -/

/- An append that does not fit moves the row. -/
section
variable {P : Program} (w : World)
end
end Go.Proofs.YtmcnmoljliggfaaGreatDoor
