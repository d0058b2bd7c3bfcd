/- Several texts in one: OfW, WrapI, May, Ints. -/
import Derived.Test.YtadmoheohmbieaaGreatDoorPr02
import Derived.Test.YtadmoheohmbieaaGreatDoorPr04
import Derived.Test.YtadmoheohmbieaaGreatDoorPr07
import Derived.Test.YtadmoheohmbieaaGreatDoorPr17
import Derived.Test.YtadmoheohmbieaaGreatDoorPr20
/- Of of package whole. -/
namespace Go.Proofs.YtadmoheohmbieaaGreatDoor
open Go.RowKit

end Go.Proofs.YtadmoheohmbieaaGreatDoor

/- Sign, Bits of package whole and of the references: 0 of what may not be. (Written by wip/exact/genwrap.py.) -/
namespace Go.Proofs.YtadmoheohmbieaaGreatDoor
open Go.RowKit

end Go.Proofs.YtadmoheohmbieaaGreatDoor

/- may, small: of a list of numbers. -/
namespace Go.Proofs.YtadmoheohmbieaaGreatDoor
open Go.RowKit

/-- Numbers as they came: sign, place, room, limbs. -/
abbrev Num := Bool × Option Addr × Nat × List Nat
def cellsNum (l : List Num) : List Value := l.flatMap fun m => [.bool m.1, .slice m.2.1 m.2.2.2.length m.2.2.1]
def okNum (m : Num) : Bool := okI m.1 m.2.2.2
end Go.Proofs.YtadmoheohmbieaaGreatDoor

/- The calls of package whole over numbers that may be, told by the numbers alone. -/
namespace Go.Proofs.YtadmoheohmbieaaGreatDoor
open Go.RowKit

/-- A number that may be. -/
def Fit (x : Int) : Prop := (natL x.natAbs).length ≤ 2048
instance (x : Int) : Decidable (Fit x) := inferInstanceAs (Decidable ((natL x.natAbs).length ≤ 2048))
theorem Fit.ok {x : Int} (h : Fit x) : okI (decide (x < 0)) (natL x.natAbs) = true := by
  refine okI_true.2 ⟨h, canon_natL _, fun e => ?_⟩
  have := natL_eq_nil.1 e
  exact decide_eq_false (by omega)
theorem Fit.mono {x y : Int} (h : Fit y) (hl : x.natAbs ≤ y.natAbs) : Fit x := Nat.le_trans (natL_mono hl) h
theorem Fit.small {x : Int} (h : x.natAbs < 18446744073709551616) : Fit x := by
  unfold Fit
  have : (natL x.natAbs).length ≤ 2 := natL_length_le.2 (by simpa using h)
  omega
/-- What came may be: so it is a number's own sign and limbs. -/
theorem ok_num {n : Bool} {xs : List Nat} (hl : Limbs xs) (o : okI n xs = true) : n = decide (ival n xs < 0) ∧ xs = natL (ival n xs).natAbs ∧ Fit (ival n xs) := by
  obtain ⟨o1, o2, o3⟩ := okI_true.1 o
  have ha : (ival n xs).natAbs = val xs := by unfold ival; split <;> omega
  have h2 : xs = natL (ival n xs).natAbs := by rw [ha]; exact (natL_val hl o2).symm
  refine ⟨?_, h2, by unfold Fit; rw [← h2]; exact o1⟩
  by_cases hx : xs = []
  · subst hx
    rw [o3 rfl]; rfl
  · have hp : 0 < val xs := by
      rcases Nat.eq_zero_or_pos (val xs) with h0 | h0
      · have := natL_val hl o2
        rw [h0, natL_zero] at this
        exact absurd this.symm hx
      · exact h0
    unfold ival
    cases n <;> simp <;> omega
/-- A call hands back a number and an error. -/
def RetN2 (w : World) (z k : Int) (e : Ending) (w' : World) : Prop := ∃ A c, e = .returned (.tuple #[.agg #[.bool (decide (z < 0)), .slice A (natL z.natAbs).length c], .int .i64 k]) ∧ Raw w' A c (natL z.natAbs) ∧ Below w.heap.size w w'
def RetN3 (w : World) (z1 z2 k : Int) (e : Ending) (w' : World) : Prop := ∃ A c B d, e = .returned (.tuple #[.agg #[.bool (decide (z1 < 0)), .slice A (natL z1.natAbs).length c], .agg #[.bool (decide (z2 < 0)), .slice B (natL z2.natAbs).length d], .int .i64 k]) ∧ Raw w' A c (natL z1.natAbs) ∧ Raw w' B d (natL z2.natAbs) ∧ Below w.heap.size w w'
def RetN1 (w : World) (z : Int) (e : Ending) (w' : World) : Prop := ∃ A c, e = .returned (.agg #[.bool (decide (z < 0)), .slice A (natL z.natAbs).length c]) ∧ Raw w' A c (natL z.natAbs) ∧ Below w.heap.size w w'
theorem RetInt2.n2 {base : Nat} {w w' : World} {z k : Int} {e : Ending} (h : RetInt2 base w z k e w') : RetN2 w z k e w' := by
  obtain ⟨v, rfl, hv, hb⟩ := h
  obtain ⟨A, c, rfl, hr⟩ := hv.raw
  exact ⟨A, c, rfl, hr, hb⟩
theorem RetInt.n1 {base : Nat} {w w' : World} {z : Int} {e : Ending} (h : RetInt base w z e w') : RetN1 w z e w' := by
  obtain ⟨v, rfl, hv, hb⟩ := h
  obtain ⟨A, c, rfl, hr⟩ := hv.raw
  exact ⟨A, c, rfl, hr, hb⟩
theorem RetTwo3.n3 {base : Nat} {w w' : World} {z1 z2 k : Int} {e : Ending} (h : RetTwo3 base w z1 z2 k e w') : RetN3 w z1 z2 k e w' := by
  obtain ⟨v1, v2, rfl, hv, hb⟩ := h
  obtain ⟨A, c, rfl, hr⟩ := hv.one.raw
  obtain ⟨B, d, rfl, hs⟩ := hv.two.raw
  exact ⟨A, c, B, d, rfl, hr, hs, hb⟩

section
variable (x y z : Int) (A B : Option Addr) (c d : Nat) (hx : Fit x) (hy : Fit y) (w : World) (h : Raw w A c (natL x.natAbs)) (g : Raw w B d (natL y.natAbs))
include hx hy h g
end
end Go.Proofs.YtadmoheohmbieaaGreatDoor
