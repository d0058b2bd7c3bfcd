/- Several texts in one: Moves, Double, Has, HalfLaw, Halved. -/
import Derived.Test.YtdonecnhdkjniaaGreatDoorGx11
set_option maxRecDepth 100000
set_option maxHeartbeats 8000000
namespace Go.Proofs.YtdonecnhdkjniaaGreatDoor
open Go.RowKit
section
variable {P : Program} (w : World)
end

structure UpAt (w : World) (u : Value) (L nv : Nat) : Prop where
 ex : ∃ g zs, u = .slice (some ⟨g, 0, none⟩) L L /\ zs.length = L /\ Zj zs /\ val zs = nv /\ YJ w g zs
structure MadeAt (w : World) (base : Nat) (u : Value) (m : Nat) : Prop where
 ex : ∃ g, u = .slice (some ⟨g, 0, none⟩) m m /\ base <= g /\ YJ w g (List.replicate m 0)



end Go.Proofs.YtdonecnhdkjniaaGreatDoor
