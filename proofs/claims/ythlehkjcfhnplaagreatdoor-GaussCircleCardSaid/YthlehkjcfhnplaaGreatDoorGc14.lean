/- Several texts in one: Ints0, ZR, Append, Moves. -/
import Derived.Test.YthlehkjcfhnplaaGreatDoorGc08
import Derived.Test.YthlehkjcfhnplaaGreatDoorGc03
import Derived.Test.YthlehkjcfhnplaaGreatDoorGc12
import Derived.Test.YthlehkjcfhnplaaGreatDoorGc13
import Derived.Test.YthlehkjcfhnplaaGreatDoorGc07
import Derived.Test.YthlehkjcfhnplaaGreatDoorGc10
import Derived.Test.YthlehkjcfhnplaaGreatDoorGc01
set_option maxRecDepth 100000
set_option maxHeartbeats 8000000
/- Signs and order of numbers: plain. -/
namespace Go.Proofs.YthlehkjcfhnplaaGreatDoor

theorem sgn_z (x : Int) : sgnI (decide (x < 0)) (natL x.natAbs) = x.sign := by
  unfold sgnI
  by_cases h0 : (natL x.natAbs).length = 0
  · rw [if_pos h0]
    have := natL_eq_nil.1 (List.eq_nil_of_length_eq_zero h0)
    have : x = 0 := by omega
    subst this; rfl
  · rw [if_neg h0]
    have hn : x ≠ 0 := fun e => h0 (by rw [e]; decide)
    by_cases hl : x < 0
    · rw [if_pos (decide_eq_true hl), Int.sign_eq_neg_one_of_neg hl]
    · rw [if_neg (by simpa using hl), Int.sign_eq_one_of_pos (by omega)]
theorem sign_cases (x : Int) : (x < 0 ∧ x.sign = -1) ∨ (x = 0 ∧ x.sign = 0) ∨ (0 < x ∧ x.sign = 1) := by
  rcases Int.lt_trichotomy x 0 with h | h | h
  · exact .inl ⟨h, Int.sign_eq_neg_one_of_neg h⟩
  · exact .inr (.inl ⟨h, by rw [h]; rfl⟩)
  · exact .inr (.inr ⟨h, Int.sign_eq_one_of_pos h⟩)
theorem sign_lt {x y : Int} (h : x.sign < y.sign) : x < y := by
  have h1 := sign_cases x
  have h2 := sign_cases y
  omega
theorem sign_neg (x : Int) : x.sign = -1 ∧ decide (x < 0) = true ∨ 0 ≤ x.sign ∧ decide (x < 0) = false := by
  rcases sign_cases x with ⟨h, e⟩ | ⟨h, e⟩ | ⟨h, e⟩
  · exact .inl ⟨e, decide_eq_true h⟩
  · exact .inr ⟨by omega, decide_eq_false (by omega)⟩
  · exact .inr ⟨by omega, decide_eq_false (by omega)⟩
theorem cmp_like {x y : Int} (h : x.sign = y.sign) : cmpz x y = if decide (x < 0) = true then cmpv y.natAbs x.natAbs else cmpv x.natAbs y.natAbs := by
  have h1 := sign_cases x
  have h2 := sign_cases y
  unfold cmpz cmpv
  by_cases hx : x < 0
  · rw [show decide (x < 0) = true from decide_eq_true hx, if_pos (rfl : true = true)]
    split <;> (try split) <;> (try split) <;> (try split) <;> omega
  · rw [show decide (x < 0) = false from decide_eq_false hx, if_neg Bool.false_ne_true]
    split <;> (try split) <;> (try split) <;> (try split) <;> omega
/- The references calls over numbers, told by the numbers alone. (Written by wip/exact/genz.py.) -/
open Go.RowKit
/- An append of one cell to a row of the call's own: in place, or to a new block; the elder block then stays. -/
section
variable {P : Program} (w : World)
def Grew (w : World) (v : Value) (n : Nat) (v' : Value) (w' : World) : Prop :=
  (∃ g cap, v = .slice (some ⟨g, 0, none⟩) n cap ∧ v' = .slice (some ⟨g, 0, none⟩) (n + 1) cap ∧ w.grownBy w' (some g)) ∨ (v'.ownBlock = some w.heap.size ∧ w.grownBy w' none)
end
/- An append that does not fit moves the row. -/
section
variable {P : Program} (w : World)
end
end Go.Proofs.YthlehkjcfhnplaaGreatDoor
