/- Several texts in one: Moves, Double, Has, HalfLaw, Halved. -/
import Derived.Test.YthlehkjcfhnplaaGreatDoorGw11
set_option maxRecDepth 100000
set_option maxHeartbeats 8000000
/- An append that does not fit moves the row. -/
namespace Go.Proofs.YthlehkjcfhnplaaGreatDoor
open Go.RowKit
section
variable {P : Program} (w : World)
end
/- Double of package exact: times a power of two. -/

structure UpAt (w : World) (u : Value) (L nv : Nat) : Prop where
 ex : ∃ g zs, u = .slice (some ⟨g, 0, none⟩) L L /\ zs.length = L /\ Zk zs /\ val zs = nv /\ YH w g zs
structure MadeAt (w : World) (base : Nat) (u : Value) (m : Nat) : Prop where
 ex : ∃ g, u = .slice (some ⟨g, 0, none⟩) m m /\ base <= g /\ YH w g (List.replicate m 0)
/- slices.ContainsFunc of limbs: is one of them not nought? -/

/- A number divided by 2^n and rounded down: plain, no program in sight. -/

/- Halved of package exact: divided by 2^n and rounded down. -/

end Go.Proofs.YthlehkjcfhnplaaGreatDoor
