/- Several texts in one: Keep, KeepFar, BookFrac, RefInt64, FOf. -/
import Derived.Test.YthlehkjcfhnplaaGreatDoorGw18
set_option maxRecDepth 100000
set_option maxHeartbeats 8000000
/- keepLimb: a list is put into a Book. -/
namespace Go.Proofs.YthlehkjcfhnplaaGreatDoor
open Go.RowKit
theorem heldInfo : (Tryz.prog.info? 113).map (fun i => (i.zero, i.size, i.bytes)) = some (some (.agg #[ZE, ZE, .int .i64 0]), 3, 56) := by kernel_rfl

theorem Jb.below {w w' : World} {b m : Nat} {l : Nat -> Value} {lims : Value} (h : Jb w b m l lims) (hb : Below w.heap.size w w') : Jb w' b m l lims :=
 ⟨h.book.below hb h.book.lt, Zy h.row hb⟩

/- keepLimb leaves a block that is not the Book's as it is. (Written by wip/book/genkeepfar.py.) -/

/- Frac of a Book: the two numbers' limbs are put into it. -/

/- Int64 of the references. -/

/- Of of package frac. -/

def zN (n d : Int) : Int := if d = 0 then 0 else YA n d
def zD (n d : Int) : Int := if d = 0 then 0 else Yu n d
def zE (d : Int) : Int := if d = 0 then 3 else 0
end Go.Proofs.YthlehkjcfhnplaaGreatDoor
