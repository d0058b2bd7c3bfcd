/- Several texts in one: FRootZ, FRoot, FSame, FLike. -/
import Derived.Test.YtipmkkobdbgphaaGreatDoorPm37
import Derived.Test.YtipmkkobdbgphaaGreatDoorPm27
import Derived.Test.YtipmkkobdbgphaaGreatDoorPm23
import Derived.Test.YtipmkkobdbgphaaGreatDoorPm28
set_option maxRecDepth 100000
set_option maxHeartbeats 8000000
/- Roots of package exact and of the references, of any number from 0 on. -/
namespace Go.Proofs.YtipmkkobdbgphaaGreatDoor
open Go.RowKit

/- Root of package frac and of the references of chapter 02. (Written by wip/frac/genfroot.py.) -/

def RetFracOwn3 (base : Nat) (w : World) (n d : Int) (b : Bool) (k : Int) (e : Ending) (w' : World) : Prop := ∃ v, e = .returned (.tuple #[v, .bool b, .int .i64 k]) ∧ FracOwn w' base v n d ∧ Below w.heap.size w w'
theorem IntOwn.top {w : World} {base : Nat} {n : Int} {a : Value} {A : Option Addr} {k c : Nat} (h : IntOwn w base (.agg #[a, .slice A k c]) n) : ∀ x, (Value.slice A k c).ownBlock = some x → base ≤ x ∧ x < w.heap.size := h.mine
theorem FracOwn.of {w : World} {b1 b2 c e : Nat} {n d : Int} {A B : Option Addr} (h1 : IntOwn w b1 (.agg #[.bool (decide (n < 0)), .slice A (natL n.natAbs).length c]) n) (h2 : IntOwn w b2 (.agg #[.bool (decide (d < 0)), .slice B (natL d.natAbs).length e]) d) (hb : b1 ≤ b2)
    (ht : ∀ x, (Value.slice A (natL n.natAbs).length c).ownBlock = some x → x < b2) : FracOwn w b1 (.agg #[.bool (decide (n < 0)), .slice A (natL n.natAbs).length c, .bool (decide (d < 0)), .slice B (natL d.natAbs).length e]) n d := by
  refine ⟨A, c, B, e, rfl, h1, h2.base hb, fun g h h' => ?_⟩
  have := ht g h
  have := (h2.top g h').1
  omega

/- SameFrac of the laws, of any two fractions. (Written by wip/frac/genfsame.py.) -/

/- like of the laws of chapter 02. (Written by wip/frac/genflike.py.) -/

end Go.Proofs.YtipmkkobdbgphaaGreatDoor
