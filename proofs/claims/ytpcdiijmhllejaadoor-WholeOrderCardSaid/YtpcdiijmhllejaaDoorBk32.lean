/- Several texts in one: OrderAt. -/
import Derived.Test.YtpcdiijmhllejaaDoorBk31
/- WholeOrder: the walk. (Written by wip/whole/genorder.py.) -/
namespace Go.Proofs.YtpcdiijmhllejaaDoor
open Go.RowKit

/-- Bits of a number that may be. -/
theorem bits_z (x : Int) (A : Option Addr) (c : Nat) (hx : Fit x) (w : World) (h : Raw w A c (natL x.natAbs)) (k : Int) (hk : k = (bitsI (natL x.natAbs) : Int)) :
    Calls Tryd.prog 21 #[.agg #[.bool (decide (x < 0)), .slice A (natL x.natAbs).length c]] w fun e w' => e = .returned (.int .i64 k) ∧ Below w.heap.size w w' := by
  have := whole_Bits_any (decide (x < 0)) A c _ w h
  rw [hx.ok, if_pos rfl, ← hk] at this
  exact this
theorem cmpz_turn (x y : Int) : cmpz y x = -cmpz x y := by
  unfold cmpz
  split <;> split <;> (try split) <;> first | rfl | omega
theorem cmpz_range (x y : Int) : cmpz x y = -1 ∨ cmpz x y = 0 ∨ cmpz x y = 1 := by
  unfold cmpz; split <;> (try split) <;> simp
end Go.Proofs.YtpcdiijmhllejaaDoor
