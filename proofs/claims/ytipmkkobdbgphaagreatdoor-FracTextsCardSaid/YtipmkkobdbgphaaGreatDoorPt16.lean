/- Several texts in one: Moves, Double, Has, HalfLaw. -/
import Derived.Test.YtipmkkobdbgphaaGreatDoorPt15
import Derived.Test.YtipmkkobdbgphaaGreatDoorPt13
import Derived.Test.YtipmkkobdbgphaaGreatDoorPt12
import Derived.Test.YtipmkkobdbgphaaGreatDoorPt03
import Derived.Test.YtipmkkobdbgphaaGreatDoorPt07
set_option maxRecDepth 100000
set_option maxHeartbeats 8000000
/- An append that does not fit moves the row. -/
namespace Go.Proofs.YtipmkkobdbgphaaGreatDoor
open Go.RowKit
section
variable {P : Program} (w : World)
end
/- Double of package exact: times a power of two. -/

theorem Row.kept {B : Nat} {Ts : List TypeId} {w w' : World} {g : Nat} {zs : List Nat} (h : Row w g zs) (k : KeptV B Ts w w') (hT : 104 ∉ Ts) : Row w' g zs := ⟨k.blk h.blk hT⟩
structure UpAt (w : World) (u : Value) (L nv : Nat) : Prop where
  ex : ∃ g zs, u = .slice (some ⟨g, 0, none⟩) L L ∧ zs.length = L ∧ Limbs zs ∧ val zs = nv ∧ Row w g zs
theorem UpAt.kept {B : Nat} {Ts : List TypeId} {w w' : World} {u : Value} {L nv : Nat} (h : UpAt w u L nv) (k : KeptV B Ts w w') (hT : 104 ∉ Ts) : UpAt w' u L nv := by
  obtain ⟨g, zs, h1, h2, h3, h4, h5⟩ := h.ex
  exact ⟨g, zs, h1, h2, h3, h4, h5.kept k hT⟩
structure MadeAt (w : World) (base : Nat) (u : Value) (m : Nat) : Prop where
  ex : ∃ g, u = .slice (some ⟨g, 0, none⟩) m m ∧ base ≤ g ∧ Row w g (List.replicate m 0)
theorem MadeAt.kept {B : Nat} {Ts : List TypeId} {w w' : World} {base m : Nat} {u : Value} (h : MadeAt w base u m) (k : KeptV B Ts w w') (hT : 104 ∉ Ts) : MadeAt w' base u m := by
  obtain ⟨g, h1, h2, h3⟩ := h.ex
  exact ⟨g, h1, h2, h3.kept k hT⟩
theorem OwnL.kept {B : Nat} {Ts : List TypeId} {w w' : World} {base n L : Nat} {v : Value} (h : OwnL w base v n L) (k : KeptV B Ts w w') (hT : 104 ∉ Ts) : OwnL w' base v n L := by
  obtain ⟨A, c, zs, h1, h2, h3, h4, h5, h6, h7⟩ := h.form
  exact ⟨A, c, zs, h1, h2, h3, h4, h5, h6, k.own h7 hT⟩
/- slices.ContainsFunc of limbs: is one of them not nought? -/

/- A number divided by 2^n and rounded down: plain, no program in sight. -/

end Go.Proofs.YtipmkkobdbgphaaGreatDoor
