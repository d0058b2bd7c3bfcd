/- Several texts in one: RootLaw, Lens, Root, RootR, RootEx. -/
import Derived.Test.YtdonecnhdkjniaaGreatDoorGx18
set_option maxRecDepth 100000
set_option maxHeartbeats 8000000
namespace Go.Proofs.YtdonecnhdkjniaaGreatDoor

def IsRoot (x r : Nat) : Prop := r * r <= x /\ x < (r + 1) * (r + 1)

open Go.RowKit

def IsRootZ (x r : Int) : Prop := 0 <= r /\ r * r <= x /\ x < (r + 1) * (r + 1)
structure RootAt (w wr : World) (bx br : Nat) (x : Int) (A : Option Addr) (c : Nat) (r : Int) (A1 : Option Addr) (c1 : Nat) : Prop where
 px : Zr wr bx 24 (.bool (decide (x < 0))) (.slice A (Za x.natAbs).length c)
 pr : Zr wr br 24 (.bool (decide (r < 0))) (.slice A1 (Za r.natAbs).length c1)
 own : Zc wr w.heap.size (.agg #[.bool (decide (r < 0)), .slice A1 (Za r.natAbs).length c1]) r
 low : Below w.heap.size w wr
 pos : 0 < r
 above : x < (r + 1) * (r + 1)
 len : lz r <= 100000
def RetRoot (base : Nat) (w : World) (r : Int) (sq : Bool) (e : Ending) (w' : World) : Prop := ∃ v, e = .returned (.tuple #[v, .bool sq]) /\ Zc w' base v r /\ Below w.heap.size w w'



end Go.Proofs.YtdonecnhdkjniaaGreatDoor
