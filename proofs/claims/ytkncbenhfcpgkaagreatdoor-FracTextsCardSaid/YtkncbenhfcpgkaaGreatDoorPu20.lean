/- Several texts in one: OfW, WrapI, May, Ints. -/
import Derived.Test.YtkncbenhfcpgkaaGreatDoorPu02
import Derived.Test.YtkncbenhfcpgkaaGreatDoorPu01
import Derived.Test.YtkncbenhfcpgkaaGreatDoorPu04
import Derived.Test.YtkncbenhfcpgkaaGreatDoorPu03
import Derived.Test.YtkncbenhfcpgkaaGreatDoorPu07
import Derived.Test.YtkncbenhfcpgkaaGreatDoorPu06
import Derived.Test.YtkncbenhfcpgkaaGreatDoorPu05
import Derived.Test.YtkncbenhfcpgkaaGreatDoorPu16
import Derived.Test.YtkncbenhfcpgkaaGreatDoorPu19
import Derived.Test.YtkncbenhfcpgkaaGreatDoorPu08
import Derived.Test.YtkncbenhfcpgkaaGreatDoorPu15
import Derived.Test.YtkncbenhfcpgkaaGreatDoorPu14
import Derived.Test.YtkncbenhfcpgkaaGreatDoorPu11
import Derived.Test.YtkncbenhfcpgkaaGreatDoorPu13
import Derived.Test.YtkncbenhfcpgkaaGreatDoorPu12
set_option maxRecDepth 100000
set_option maxHeartbeats 8000000
/- Of of package whole. -/
namespace Go.Proofs.YtkncbenhfcpgkaaGreatDoor
open Go.RowKit

/- Sign, Bits of package whole and of the references: 0 of what may not be. (Written by wip/exact/genwrap.py.) -/

/- may, small: of a list of numbers. -/

abbrev Num := Bool × Option Addr × Nat × List Nat
def cellsNum (l : List Num) : List Value := l.flatMap fun m => [.bool m.1, .slice m.2.1 m.2.2.2.length m.2.2.1]
def okNum (m : Num) : Bool := okI m.1 m.2.2.2
/- The calls of package whole over numbers that may be, told by the numbers alone. -/

def Fit (x : Int) : Prop := (natL x.natAbs).length ≤ 2048
instance (x : Int) : Decidable (Fit x) := inferInstanceAs (Decidable ((natL x.natAbs).length ≤ 2048))
theorem Fit.ok {x : Int} (h : Fit x) : okI (decide (x < 0)) (natL x.natAbs) = true := by
  refine okI_true.2 ⟨h, canon_natL _, fun e => ?_⟩
  have := natL_eq_nil.1 e
  exact decide_eq_false (by omega)
theorem Fit.mono {x y : Int} (h : Fit y) (hl : x.natAbs ≤ y.natAbs) : Fit x := Nat.le_trans (natL_mono hl) h
theorem Fit.small {x : Int} (h : x.natAbs < 18446744073709551616) : Fit x := by
  unfold Fit
  have : (natL x.natAbs).length ≤ 2 := natL_length_le.2 (by simpa using h)
  omega
theorem ok_num {n : Bool} {xs : List Nat} (hl : Limbs xs) (o : okI n xs = true) : n = decide (ival n xs < 0) ∧ xs = natL (ival n xs).natAbs ∧ Fit (ival n xs) := by
  obtain ⟨o1, o2, o3⟩ := okI_true.1 o
  have ha : (ival n xs).natAbs = val xs := by unfold ival; split <;> omega
  have h2 : xs = natL (ival n xs).natAbs := by rw [ha]; exact (natL_val hl o2).symm
  refine ⟨?_, h2, by unfold Fit; rw [← h2]; exact o1⟩
  by_cases hx : xs = []
  · subst hx
    rw [o3 rfl]; rfl
  · have hp : 0 < val xs := by
      rcases Nat.eq_zero_or_pos (val xs) with h0 | h0
      · have := natL_val hl o2
        rw [h0, natL_zero] at this
        exact absurd this.symm hx
      · exact h0
    unfold ival
    cases n <;> simp <;> omega
def RetN2 (w : World) (z k : Int) (e : Ending) (w' : World) : Prop := ∃ A c, e = .returned (.tuple #[.agg #[.bool (decide (z < 0)), .slice A (natL z.natAbs).length c], .int .i64 k]) ∧ Raw w' A c (natL z.natAbs) ∧ Below w.heap.size w w'
def RetN3 (w : World) (z1 z2 k : Int) (e : Ending) (w' : World) : Prop := ∃ A c B d, e = .returned (.tuple #[.agg #[.bool (decide (z1 < 0)), .slice A (natL z1.natAbs).length c], .agg #[.bool (decide (z2 < 0)), .slice B (natL z2.natAbs).length d], .int .i64 k]) ∧ Raw w' A c (natL z1.natAbs) ∧ Raw w' B d (natL z2.natAbs) ∧ Below w.heap.size w w'
def RetN1 (w : World) (z : Int) (e : Ending) (w' : World) : Prop := ∃ A c, e = .returned (.agg #[.bool (decide (z < 0)), .slice A (natL z.natAbs).length c]) ∧ Raw w' A c (natL z.natAbs) ∧ Below w.heap.size w w'
section
variable (x y z : Int) (A B : Option Addr) (c d : Nat) (hx : Fit x) (hy : Fit y) (w : World) (h : Raw w A c (natL x.natAbs)) (g : Raw w B d (natL y.natAbs))
include hx hy h g
end
end Go.Proofs.YtkncbenhfcpgkaaGreatDoor
