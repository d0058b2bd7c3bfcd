/- Several texts in one: Double, Has, HalfLaw, Halved, Ints0. -/
import Derived.Test.YtmcnmoljliggfaaGreatDoorBt11
set_option maxRecDepth 100000
set_option maxHeartbeats 8000000
/- Double of package exact: times a power of two. -/
namespace Go.Proofs.YtmcnmoljliggfaaGreatDoor
open Go.RowKit

structure UpAt (w : World) (u : Value) (L nv : Nat) : Prop where
  ex : ∃ g zs, u = .slice (some ⟨g, 0, none⟩) L L ∧ zs.length = L ∧ Limbs zs ∧ val zs = nv ∧ Row w g zs
structure MadeAt (w : World) (base : Nat) (u : Value) (m : Nat) : Prop where
  ex : ∃ g, u = .slice (some ⟨g, 0, none⟩) m m ∧ base ≤ g ∧ Row w g (List.replicate m 0)
/- slices.ContainsFunc of limbs: is one of them not nought? -/

/- A number divided by 2^n and rounded down: plain, no program in sight. -/

/- Halved of package exact: divided by 2^n and rounded down. -/

/- Signs and order of numbers: plain. -/

theorem sgn_z (x : Int) : sgnI (decide (x < 0)) (natL x.natAbs) = x.sign := by
  unfold sgnI
  by_cases h0 : (natL x.natAbs).length = 0
  · rw [if_pos h0]
    have := natL_eq_nil.1 (List.eq_nil_of_length_eq_zero h0)
    have : x = 0 := by omega
    subst this; rfl
  · rw [if_neg h0]
    have hn : x ≠ 0 := fun e => h0 (by rw [e]; decide)
    by_cases hl : x < 0
    · rw [if_pos (decide_eq_true hl), Int.sign_eq_neg_one_of_neg hl]
    · rw [if_neg (by simpa using hl), Int.sign_eq_one_of_pos (by omega)]
theorem sign_cases (x : Int) : (x < 0 ∧ x.sign = -1) ∨ (x = 0 ∧ x.sign = 0) ∨ (0 < x ∧ x.sign = 1) := by
  rcases Int.lt_trichotomy x 0 with h | h | h
  · exact .inl ⟨h, Int.sign_eq_neg_one_of_neg h⟩
  · exact .inr (.inl ⟨h, by rw [h]; rfl⟩)
  · exact .inr (.inr ⟨h, Int.sign_eq_one_of_pos h⟩)
theorem sign_lt {x y : Int} (h : x.sign < y.sign) : x < y := by
  have h1 := sign_cases x
  have h2 := sign_cases y
  omega
theorem sign_neg (x : Int) : x.sign = -1 ∧ decide (x < 0) = true ∨ 0 ≤ x.sign ∧ decide (x < 0) = false := by
  rcases sign_cases x with ⟨h, e⟩ | ⟨h, e⟩ | ⟨h, e⟩
  · exact .inl ⟨e, decide_eq_true h⟩
  · exact .inr ⟨by omega, decide_eq_false (by omega)⟩
  · exact .inr ⟨by omega, decide_eq_false (by omega)⟩
theorem cmp_like {x y : Int} (h : x.sign = y.sign) : cmpz x y = if decide (x < 0) = true then cmpv y.natAbs x.natAbs else cmpv x.natAbs y.natAbs := by
  have h1 := sign_cases x
  have h2 := sign_cases y
  unfold cmpz cmpv
  by_cases hx : x < 0
  · rw [show decide (x < 0) = true from decide_eq_true hx, if_pos (rfl : true = true)]
    split <;> (try split) <;> (try split) <;> (try split) <;> omega
  · rw [show decide (x < 0) = false from decide_eq_false hx, if_neg Bool.false_ne_true]
    split <;> (try split) <;> (try split) <;> (try split) <;> omega
end Go.Proofs.YtmcnmoljliggfaaGreatDoor
