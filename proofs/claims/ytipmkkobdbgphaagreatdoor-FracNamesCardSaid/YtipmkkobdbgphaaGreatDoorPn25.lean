/- Several texts in one: FCheckF, FCost, Nil, Fill. -/
import Derived.Test.YtipmkkobdbgphaaGreatDoorPn21
import Derived.Test.YtipmkkobdbgphaaGreatDoorPnHd
import Derived.Test.YtipmkkobdbgphaaGreatDoorPn23
set_option maxRecDepth 100000
set_option maxHeartbeats 8000000
/- Check of package frac. -/
namespace Go.Proofs.YtipmkkobdbgphaaGreatDoor
open Go.RowKit

theorem frac_Check (n1 n2 : Bool) (A B : Option Addr) (c e0 : Nat) (xs ys : List Nat) (w : World) (h : Raw w A c xs) (g : Raw w B e0 ys) :
    Calls Tryz.prog 21 #[.agg #[.bool n1, .slice A xs.length c, .bool n2, .slice B ys.length e0]] w fun e w' => e = .returned (.int .i64 (chkE n1 n2 xs ys)) ∧ Below w.heap.size w w' := by
  have b0 := (Below.refl w.heap.size w).alloc (Nat.le_refl _) (.cells #[.bool n1, .slice A xs.length c, .bool n2, .slice B ys.length e0] 27)
  obtain ⟨k, hk⟩ : ∃ k : Int, k = chkE n1 n2 xs ys := ⟨_, rfl⟩
  have H := Hd (ratio_Check n1 n2 A B c e0 xs ys _ (h.below b0) (g.below b0))
  rw [← hk] at H ⊢
  have B0 := Hd b0
  clear h g b0 hk
  go_enter Tryz.func21, Tryz.ntmps21
  go_wp2_with fail
  refine H.out.mono ?_
  rintro e w1 ⟨rfl, hb⟩
  go_wp2_with fail
  go_ret
  exact ⟨rfl, belowTo B0.out hb⟩
/- What lowest terms may cost. -/

def costLow (a b : Nat) : Int := ((min a 1048576 : Nat) : Int) * ((min b 1048576 : Nat) : Int) / 16 * 1024
/- The other lists of a Book, of which there is none. (Written by wip/book/gennil.py.) -/

/- fillLimb: marks are written into all lists of a Book. -/

end Go.Proofs.YtipmkkobdbgphaaGreatDoor
