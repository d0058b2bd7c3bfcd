/- Several texts in one: Keep, KeepFar, BookFrac, CmpW, OfW. -/
import Derived.Test.YtdonecnhdkjniaaGreatDoorGx16
set_option maxRecDepth 100000
set_option maxHeartbeats 8000000
namespace Go.Proofs.YtdonecnhdkjniaaGreatDoor
open Go.RowKit
theorem heldInfo : (Tryz.prog.info? 108).map (fun i => (i.zero, i.size, i.bytes)) = some (some (.agg #[ZG, ZG, .int .i64 0]), 3, 56) := by kernel_rfl

theorem JC.below {w w' : World} {b m : Nat} {l : Nat -> Value} {lims : Value} (h : JC w b m l lims) (hb : Below w.heap.size w w') : JC w' b m l lims :=
 ⟨h.book.below hb h.book.lt, Zt h.row hb⟩





end Go.Proofs.YtdonecnhdkjniaaGreatDoor
