/- Several texts in one: Lzq1, Ints0q1, Zq1. -/
import Derived.Test.YtkncbenhfcpgkaaDoorBu22
import Derived.Test.YtkncbenhfcpgkaaDoorBu02
import Derived.Test.YtkncbenhfcpgkaaDoorBu24
import Derived.Test.YtkncbenhfcpgkaaDoorBu10
import Derived.Test.YtkncbenhfcpgkaaDoorBu04
import Derived.Test.YtkncbenhfcpgkaaDoorBu03
import Derived.Test.YtkncbenhfcpgkaaDoorBu01
import Derived.Test.YtkncbenhfcpgkaaDoorBu09
import Derived.Test.YtkncbenhfcpgkaaDoorBu05
import Derived.Test.YtkncbenhfcpgkaaDoorBu25
import Derived.Test.YtkncbenhfcpgkaaDoorBu14
import Derived.Test.YtkncbenhfcpgkaaDoorBu17
import Derived.Test.YtkncbenhfcpgkaaDoorBu23
import Derived.Test.YtkncbenhfcpgkaaDoorBu08
import Derived.Test.YtkncbenhfcpgkaaDoorBu07
import Derived.Test.YtkncbenhfcpgkaaDoorBu06
import Derived.Test.YtkncbenhfcpgkaaDoorBu16
import Derived.Test.YtkncbenhfcpgkaaDoorBu15
import Derived.Test.YtkncbenhfcpgkaaDoorBu13
import Derived.Test.YtkncbenhfcpgkaaDoorBu12
import Derived.Test.YtkncbenhfcpgkaaDoorBu11
set_option maxRecDepth 100000
set_option maxHeartbeats 8000000
/- How long numbers get. -/
namespace Go.Proofs.YtkncbenhfcpgkaaDoor

theorem lz_lt (z : Int) : z.natAbs < 4294967296 ^ lz z := lz_le.1 (Nat.le_refl _)
theorem lz_mono {x y : Int} (h : x.natAbs ≤ y.natAbs) : lz x ≤ lz y := lz_le.2 (Nat.lt_of_le_of_lt h (lz_lt y))
theorem lz_mul (x y : Int) : lz (x * y) ≤ lz x + lz y := by
  rw [lz_le, Int.natAbs_mul, Nat.pow_add]
  have h1 := lz_lt x
  have h2 := lz_lt y
  exact Nat.mul_lt_mul'' h1 h2
theorem lz_add (x y : Int) : lz (x + y) ≤ max (lz x) (lz y) + 1 := by
  rw [lz_le, Nat.pow_succ]
  have h1 : x.natAbs < 4294967296 ^ max (lz x) (lz y) := lz_le.1 (Nat.le_max_left _ _)
  have h2 : y.natAbs < 4294967296 ^ max (lz x) (lz y) := lz_le.1 (Nat.le_max_right _ _)
  have h3 := Int.natAbs_add_le x y
  generalize 4294967296 ^ max (lz x) (lz y) = p at *
  omega
theorem lz_small {z : Int} (h : z.natAbs < 18446744073709551616) : lz z ≤ 2 := lz_le.2 (by simpa using h)
/- Signs and order of numbers: plain. -/

theorem sgn_z (x : Int) : sgnI (decide (x < 0)) (natL x.natAbs) = x.sign := by
  unfold sgnI
  by_cases h0 : (natL x.natAbs).length = 0
  · rw [if_pos h0]
    have := natL_eq_nil.1 (List.eq_nil_of_length_eq_zero h0)
    have : x = 0 := by omega
    subst this; rfl
  · rw [if_neg h0]
    have hn : x ≠ 0 := fun e => h0 (by rw [e]; decide)
    by_cases hl : x < 0
    · rw [if_pos (decide_eq_true hl), Int.sign_eq_neg_one_of_neg hl]
    · rw [if_neg (by simpa using hl), Int.sign_eq_one_of_pos (by omega)]
theorem sign_cases (x : Int) : (x < 0 ∧ x.sign = -1) ∨ (x = 0 ∧ x.sign = 0) ∨ (0 < x ∧ x.sign = 1) := by
  rcases Int.lt_trichotomy x 0 with h | h | h
  · exact .inl ⟨h, Int.sign_eq_neg_one_of_neg h⟩
  · exact .inr (.inl ⟨h, by rw [h]; rfl⟩)
  · exact .inr (.inr ⟨h, Int.sign_eq_one_of_pos h⟩)
theorem sign_lt {x y : Int} (h : x.sign < y.sign) : x < y := by
  have h1 := sign_cases x
  have h2 := sign_cases y
  omega
theorem sign_neg (x : Int) : x.sign = -1 ∧ decide (x < 0) = true ∨ 0 ≤ x.sign ∧ decide (x < 0) = false := by
  rcases sign_cases x with ⟨h, e⟩ | ⟨h, e⟩ | ⟨h, e⟩
  · exact .inl ⟨e, decide_eq_true h⟩
  · exact .inr ⟨by omega, decide_eq_false (by omega)⟩
  · exact .inr ⟨by omega, decide_eq_false (by omega)⟩
theorem cmp_like {x y : Int} (h : x.sign = y.sign) : cmpz x y = if decide (x < 0) = true then cmpv y.natAbs x.natAbs else cmpv x.natAbs y.natAbs := by
  have h1 := sign_cases x
  have h2 := sign_cases y
  unfold cmpz cmpv
  by_cases hx : x < 0
  · rw [show decide (x < 0) = true from decide_eq_true hx, if_pos (rfl : true = true)]
    split <;> (try split) <;> (try split) <;> (try split) <;> omega
  · rw [show decide (x < 0) = false from decide_eq_false hx, if_neg Bool.false_ne_true]
    split <;> (try split) <;> (try split) <;> (try split) <;> omega
/- The calls of package exact over numbers, told by the numbers alone. (Written by wip/exact/genz.py.) -/
open Go.RowKit
theorem eplus (x y z : Int) (A B : Option Addr) (c d : Nat) (w : World) (h : Raw w A c (natL x.natAbs)) (g : Raw w B d (natL y.natAbs)) (hx : lz x ≤ 500000000) (hy : lz y ≤ 500000000) (hz : z = x + y) :
    Calls Tryd.prog 23 #[.agg #[.bool (decide (x < 0)), .slice A (natL x.natAbs).length c], .agg #[.bool (decide (y < 0)), .slice B (natL y.natAbs).length d]] w (RetInt w.heap.size w z) := by
  have := exact_Plus (decide (x < 0)) (decide (y < 0)) A B c d (natL x.natAbs) (natL y.natAbs) (canon_natL _) (canon_natL _) (by unfold lz at hx; omega) (by unfold lz at hy; omega) w h g
  rw [ival_at, ival_at, ← hz] at this
  exact this
theorem etimes (x y z : Int) (A B : Option Addr) (c d : Nat) (w : World) (h : Raw w A c (natL x.natAbs)) (g : Raw w B d (natL y.natAbs)) (hx : lz x ≤ 500000000) (hy : lz y ≤ 500000000) (hz : z = x * y) :
    Calls Tryd.prog 22 #[.agg #[.bool (decide (x < 0)), .slice A (natL x.natAbs).length c], .agg #[.bool (decide (y < 0)), .slice B (natL y.natAbs).length d]] w (RetInt w.heap.size w z) := by
  have := exact_Times (decide (x < 0)) (decide (y < 0)) A B c d (natL x.natAbs) (natL y.natAbs) (by unfold lz at hx; omega) (by unfold lz at hy; omega) w h g
  rw [ival_at, ival_at, ← hz] at this
  exact this
theorem edivide (x y q r : Int) (A B : Option Addr) (c d : Nat) (w : World) (h : Raw w A c (natL x.natAbs)) (g : Raw w B d (natL y.natAbs)) (hx : lz x ≤ 500000000) (hy : lz y ≤ 500000000) (hy0 : y ≠ 0) (hq : q = x.tdiv y) (hr : r = x.tmod y) :
    Calls Tryd.prog 29 #[.agg #[.bool (decide (x < 0)), .slice A (natL x.natAbs).length c], .agg #[.bool (decide (y < 0)), .slice B (natL y.natAbs).length d]] w (RetTwo w.heap.size w q r) := by
  have h0 : natL y.natAbs ≠ [] := fun e => by
    have := natL_eq_nil.1 e
    omega
  have := exact_Divide (decide (x < 0)) (decide (y < 0)) A B c d (natL x.natAbs) (natL y.natAbs) (canon_natL _) (canon_natL _) h0 (by unfold lz at hx; omega) (by unfold lz at hy; omega) w h g
  rw [ival_at, ival_at, ← hq, ← hr] at this
  exact this
theorem ecmp (x y k : Int) (A B : Option Addr) (c d : Nat) (w : World) (h : Raw w A c (natL x.natAbs)) (g : Raw w B d (natL y.natAbs)) (hx : lz x ≤ 500000000) (hy : lz y ≤ 500000000) (hk : k = cmpz x y) :
    Calls Tryd.prog 25 #[.agg #[.bool (decide (x < 0)), .slice A (natL x.natAbs).length c], .agg #[.bool (decide (y < 0)), .slice B (natL y.natAbs).length d]] w fun e w' => e = .returned (.int .i64 k) ∧ Below w.heap.size w w' := by
  have s1 := sgn_z x
  have s2 := sgn_z y
  unfold lz at hx hy
  rcases Int.lt_trichotomy x.sign y.sign with hl | hl | hl
  · have := exact_Cmp_less (decide (x < 0)) (decide (y < 0)) A B c d (natL x.natAbs) (natL y.natAbs) _ _ hl s1 s2 w h g
    have e : k = -1 := by rw [hk]; exact cmpz_lt (sign_lt hl)
    rw [e]; exact this
  · have := exact_Cmp_same (decide (x < 0)) (decide (y < 0)) A B c d (natL x.natAbs) (natL y.natAbs) x.sign (sign_neg x) s1 (by rw [s2, hl]) (canon_natL _) (canon_natL _) (by omega) (by omega) w h g
    have e : (if decide (x < 0) = true then cmpv (val (natL y.natAbs)) (val (natL x.natAbs)) else cmpv (val (natL x.natAbs)) (val (natL y.natAbs))) = k := by
      rw [hk, val_natL, val_natL]
      exact (cmp_like hl).symm
    rw [e] at this
    exact this
  · have := exact_Cmp_more (decide (x < 0)) (decide (y < 0)) A B c d (natL x.natAbs) (natL y.natAbs) _ _ hl s1 s2 w h g
    have e : k = 1 := by rw [hk]; exact cmpz_gt (sign_lt hl)
    rw [e]; exact this
theorem eof (n z : Int) (hz : z = n) (h1 : -9223372036854775808 ≤ n) (h2 : n ≤ 9223372036854775807) (w : World) : Calls Tryd.prog 24 #[.int .i64 n] w (RetInt w.heap.size w z) := by
  rw [hz]; exact exact_Of n h1 h2 w
end Go.Proofs.YtkncbenhfcpgkaaDoor
