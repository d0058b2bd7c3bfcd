/- Several texts in one: Keep, KeepFar, BookFrac, RefInt64, FOf. -/
import Derived.Test.YthlehkjcfhnplaaGreatDoorGv18
set_option maxRecDepth 100000
set_option maxHeartbeats 8000000
namespace Go.Proofs.YthlehkjcfhnplaaGreatDoor
open Go.RowKit
theorem heldInfo : (Tryz.prog.info? 113).map (fun i => (i.zero, i.size, i.bytes)) = some (some (.agg #[ZJ, ZJ, .int .i64 0]), 3, 56) := by kernel_rfl

theorem Ja.below {w w' : World} {b m : Nat} {l : Nat -> Value} {lims : Value} (h : Ja w b m l lims) (hb : Below w.heap.size w w') : Ja w' b m l lims :=
 ⟨h.book.below hb h.book.lt, ZA h.row hb⟩





def zN (n d : Int) : Int := if d = 0 then 0 else YF n d
def zD (n d : Int) : Int := if d = 0 then 0 else YB n d
def zE (d : Int) : Int := if d = 0 then 3 else 0
end Go.Proofs.YthlehkjcfhnplaaGreatDoor
