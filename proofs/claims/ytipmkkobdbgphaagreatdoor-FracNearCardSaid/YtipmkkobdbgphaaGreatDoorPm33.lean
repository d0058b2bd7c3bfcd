/- Several texts in one: ERead, RFromFloat, TreesR, Below. -/
import Derived.Test.YtipmkkobdbgphaaGreatDoorPm31
import Derived.Test.YtipmkkobdbgphaaGreatDoorPm32
import Derived.Test.YtipmkkobdbgphaaGreatDoorPm28
import Derived.Test.YtipmkkobdbgphaaGreatDoorPm14
import Derived.Test.YtipmkkobdbgphaaGreatDoorPm29
import Derived.Test.YtipmkkobdbgphaaGreatDoorPm18
import Derived.Test.YtipmkkobdbgphaaGreatDoorPm12
import Derived.Deep.CutBlock
import Derived.Test.YtipmkkobdbgphaaGreatDoorPm19
set_option maxRecDepth 100000
set_option maxHeartbeats 8000000
/- Whole of package ratio and of the references; Read of package ratio. (Written by wip/frac/genread.py.) -/
namespace Go.Proofs.YtipmkkobdbgphaaGreatDoor
open Go.RowKit

theorem FracIn.zero (w : World) (base : Nat) : FracIn w base (.agg #[.bool false, .slice none 0 0, .bool false, .slice none 0 0]) 0 0 := ⟨none, 0, none, 0, rfl, IntOwn.nought _ _, IntOwn.nought _ _⟩
def RetReadF (w : World) (o : Option (Int × Int)) (e : Ending) (w' : World) : Prop := ∃ n d, RetFracB w n d o.isSome e w' ∧ ∀ p, o = some p → p = (n, d)
def RetZB (w : World) (z : Int) (b : Bool) (e : Ending) (w' : World) : Prop := ∃ v, e = .returned (.tuple #[v, .bool b]) ∧ IntOwn w' w.heap.size v z ∧ Below w.heap.size w w'

/- FromFloat of the references of chapter 02. (Written by wip/frac/genrfromfloat.py.) -/

/- Plus, Minus, Times, Over, Cmp of the references of chapter 02. (Written by wip/frac/gentrees.py.) -/

structure TurnIn (z d : Int) (B : Option Addr) (e0 : Nat) (v : Value) (V : World) : Prop where
  form : ∃ A c, v = .agg #[.bool (decide (z < 0)), .slice A (natL z.natAbs).length c, .bool (decide (d < 0)), .slice B (natL d.natAbs).length e0] ∧ IntOwn V 0 (.agg #[.bool (decide (z < 0)), .slice A (natL z.natAbs).length c]) z
theorem TurnIn.kept {z d : Int} {B : Option Addr} {e0 b : Nat} {v : Value} {V V' : World} {Ts : List TypeId} (h : TurnIn z d B e0 v V) (k : KeptV b Ts V V') (hT : 104 ∉ Ts) : TurnIn z d B e0 v V' := by
  obtain ⟨A, c, h1, h2⟩ := h.form
  exact ⟨A, c, h1, h2.kept k hT⟩
theorem TurnIn.cells {z d : Int} {B : Option Addr} {e0 : Nat} {v : Value} {V : World} (h : TurnIn z d B e0 v V) : CellsN v 4 := by
  obtain ⟨A, c, rfl, -⟩ := h.form
  exact ⟨rfl, by simp [Value.cells, Value.oneCell']⟩

/- worth, Below of the references of chapter 02. (Written by wip/frac/genbelow.py.) -/

def wrN (r : Nat) : Int := lowN (fval r : Int) unitQ
def wrD (r : Nat) : Int := lowD (fval r : Int) unitQ
theorem unitQ_pos : 0 < unitQ := by have := p2_pos 1074; unfold unitQ; omega
theorem p2_lt {a b : Nat} (h : a < b) : p2 a < p2 b := Nat.pow_lt_pow_right (by omega) h
theorem p2_lz {j : Nat} {x : Int} (h : x.natAbs < p2 (32 * j)) : lz x ≤ j := by
  unfold lz
  refine natL_length_le.2 ?_
  rw [show (4294967296 : Nat) ^ j = p2 (32 * j) by unfold p2; rw [Nat.pow_mul]]
  exact h
def RetRung (w : World) (n d : Int) (e : Ending) (w' : World) : Prop := ∃ b : Int, e = .returned (.int .u64 b) ∧ 0 ≤ b ∧ b < 9218868437227405312 ∧ ((fval b.toNat : Int) * d ≤ n * unitQ ∧ (b + 1 = 9218868437227405312 ∨ n * unitQ < (fval (b + 1).toNat : Int) * d)) ∧ Below w.heap.size w w'

end Go.Proofs.YtipmkkobdbgphaaGreatDoor
