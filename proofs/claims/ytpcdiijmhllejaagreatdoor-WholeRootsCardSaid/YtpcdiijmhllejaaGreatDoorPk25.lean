/- Several texts in one: Z, RootLaw, NV. -/
import Derived.Test.YtpcdiijmhllejaaGreatDoorPk19
import Derived.Test.YtpcdiijmhllejaaGreatDoorPk21
import Derived.Test.YtpcdiijmhllejaaGreatDoorPk10
import Derived.Test.YtpcdiijmhllejaaGreatDoorPk07
import Derived.Test.YtpcdiijmhllejaaGreatDoorPk22
import Derived.Test.YtpcdiijmhllejaaGreatDoorPk23
import Derived.Test.YtpcdiijmhllejaaGreatDoorPk24
import Derived.Test.YtpcdiijmhllejaaGreatDoorPk03
import Derived.Lib.Hide
import Derived.Test.YtpcdiijmhllejaaGreatDoorPk02
/- The calls of package exact over numbers, told by the numbers alone. (Written by wip/exact/genz.py.) -/
namespace Go.Proofs.YtpcdiijmhllejaaGreatDoor
open Go.RowKit
theorem eplus (x y z : Int) (A B : Option Addr) (c d : Nat) (w : World) (h : Raw w A c (natL x.natAbs)) (g : Raw w B d (natL y.natAbs)) (hx : lz x ≤ 500000000) (hy : lz y ≤ 500000000) (hz : z = x + y) :
    Calls Tryz.prog 30 #[.agg #[.bool (decide (x < 0)), .slice A (natL x.natAbs).length c], .agg #[.bool (decide (y < 0)), .slice B (natL y.natAbs).length d]] w (RetInt w.heap.size w z) := by
  have := exact_Plus (decide (x < 0)) (decide (y < 0)) A B c d (natL x.natAbs) (natL y.natAbs) (canon_natL _) (canon_natL _) (by unfold lz at hx; omega) (by unfold lz at hy; omega) w h g
  rw [ival_at, ival_at, ← hz] at this
  exact this
theorem eminus (x y z : Int) (A B : Option Addr) (c d : Nat) (w : World) (h : Raw w A c (natL x.natAbs)) (g : Raw w B d (natL y.natAbs)) (hx : lz x ≤ 500000000) (hy : lz y ≤ 500000000) (hz : z = x - y) :
    Calls Tryz.prog 31 #[.agg #[.bool (decide (x < 0)), .slice A (natL x.natAbs).length c], .agg #[.bool (decide (y < 0)), .slice B (natL y.natAbs).length d]] w (RetInt w.heap.size w z) := by
  have := exact_Minus (decide (x < 0)) (decide (y < 0)) A B c d (natL x.natAbs) (natL y.natAbs) (canon_natL _) (canon_natL _) (by unfold lz at hx; omega) (by unfold lz at hy; omega) w h g
  rw [ival_at, ival_at, ← hz] at this
  exact this
theorem etimes (x y z : Int) (A B : Option Addr) (c d : Nat) (w : World) (h : Raw w A c (natL x.natAbs)) (g : Raw w B d (natL y.natAbs)) (hx : lz x ≤ 500000000) (hy : lz y ≤ 500000000) (hz : z = x * y) :
    Calls Tryz.prog 32 #[.agg #[.bool (decide (x < 0)), .slice A (natL x.natAbs).length c], .agg #[.bool (decide (y < 0)), .slice B (natL y.natAbs).length d]] w (RetInt w.heap.size w z) := by
  have := exact_Times (decide (x < 0)) (decide (y < 0)) A B c d (natL x.natAbs) (natL y.natAbs) (by unfold lz at hx; omega) (by unfold lz at hy; omega) w h g
  rw [ival_at, ival_at, ← hz] at this
  exact this
theorem edivide (x y q r : Int) (A B : Option Addr) (c d : Nat) (w : World) (h : Raw w A c (natL x.natAbs)) (g : Raw w B d (natL y.natAbs)) (hx : lz x ≤ 500000000) (hy : lz y ≤ 500000000) (hy0 : y ≠ 0) (hq : q = x.tdiv y) (hr : r = x.tmod y) :
    Calls Tryz.prog 87 #[.agg #[.bool (decide (x < 0)), .slice A (natL x.natAbs).length c], .agg #[.bool (decide (y < 0)), .slice B (natL y.natAbs).length d]] w (RetTwo w.heap.size w q r) := by
  have h0 : natL y.natAbs ≠ [] := fun e => by
    have := natL_eq_nil.1 e
    omega
  have := exact_Divide (decide (x < 0)) (decide (y < 0)) A B c d (natL x.natAbs) (natL y.natAbs) (canon_natL _) (canon_natL _) h0 (by unfold lz at hx; omega) (by unfold lz at hy; omega) w h g
  rw [ival_at, ival_at, ← hq, ← hr] at this
  exact this
theorem ecommon (x y z : Int) (A B : Option Addr) (c d : Nat) (w : World) (h : Raw w A c (natL x.natAbs)) (g : Raw w B d (natL y.natAbs)) (hx : lz x ≤ 500000000) (hy : lz y ≤ 500000000) (hz : z = ((Nat.gcd x.natAbs y.natAbs : Nat) : Int)) :
    Calls Tryz.prog 88 #[.agg #[.bool (decide (x < 0)), .slice A (natL x.natAbs).length c], .agg #[.bool (decide (y < 0)), .slice B (natL y.natAbs).length d]] w (RetInt w.heap.size w z) := by
  have := exact_Common (decide (x < 0)) (decide (y < 0)) A B c d (natL x.natAbs) (natL y.natAbs) (by unfold lz at hx; omega) (by unfold lz at hy; omega) w h g
  rw [val_natL, val_natL, ← hz] at this
  exact this
theorem ecmp (x y k : Int) (A B : Option Addr) (c d : Nat) (w : World) (h : Raw w A c (natL x.natAbs)) (g : Raw w B d (natL y.natAbs)) (hx : lz x ≤ 500000000) (hy : lz y ≤ 500000000) (hk : k = cmpz x y) :
    Calls Tryz.prog 153 #[.agg #[.bool (decide (x < 0)), .slice A (natL x.natAbs).length c], .agg #[.bool (decide (y < 0)), .slice B (natL y.natAbs).length d]] w fun e w' => e = .returned (.int .i64 k) ∧ Below w.heap.size w w' := by
  have s1 := sgn_z x
  have s2 := sgn_z y
  unfold lz at hx hy
  rcases Int.lt_trichotomy x.sign y.sign with hl | hl | hl
  · have := exact_Cmp_less (decide (x < 0)) (decide (y < 0)) A B c d (natL x.natAbs) (natL y.natAbs) _ _ hl s1 s2 w h g
    have e : k = -1 := by rw [hk]; exact cmpz_lt (sign_lt hl)
    rw [e]; exact this
  · have := exact_Cmp_same (decide (x < 0)) (decide (y < 0)) A B c d (natL x.natAbs) (natL y.natAbs) x.sign (sign_neg x) s1 (by rw [s2, hl]) (canon_natL _) (canon_natL _) (by omega) (by omega) w h g
    have e : (if decide (x < 0) = true then cmpv (val (natL y.natAbs)) (val (natL x.natAbs)) else cmpv (val (natL x.natAbs)) (val (natL y.natAbs))) = k := by
      rw [hk, val_natL, val_natL]
      exact (cmp_like hl).symm
    rw [e] at this
    exact this
  · have := exact_Cmp_more (decide (x < 0)) (decide (y < 0)) A B c d (natL x.natAbs) (natL y.natAbs) _ _ hl s1 s2 w h g
    have e : k = 1 := by rw [hk]; exact cmpz_gt (sign_lt hl)
    rw [e]; exact this
theorem esign (x k : Int) (A : Option Addr) (c : Nat) (w : World) (h : Raw w A c (natL x.natAbs)) (hk : k = x.sign) :
    Calls Tryz.prog 176 #[.agg #[.bool (decide (x < 0)), .slice A (natL x.natAbs).length c]] w fun e w' => e = .returned (.int .i64 k) ∧ Below w.heap.size w w' := by
  have := exact_Sign_any (decide (x < 0)) A c _ w h
  rw [sgn_z, ← hk] at this
  exact this
theorem ebits (x k : Int) (A : Option Addr) (c : Nat) (w : World) (h : Raw w A c (natL x.natAbs)) (hx : lz x ≤ 200000000) (hk : k = ((bitsI (natL x.natAbs) : Nat) : Int)) :
    Calls Tryz.prog 95 #[.agg #[.bool (decide (x < 0)), .slice A (natL x.natAbs).length c]] w fun e w' => e = .returned (.int .i64 k) ∧ Below w.heap.size w w' := by
  have := exact_Bits_any (decide (x < 0)) A c _ w h (by unfold lz at hx; omega)
  rw [← hk] at this
  exact this
theorem eof (n z : Int) (hz : z = n) (h1 : -9223372036854775808 ≤ n) (h2 : n ≤ 9223372036854775807) (w : World) : Calls Tryz.prog 152 #[.int .i64 n] w (RetInt w.heap.size w z) := by
  rw [hz]; exact exact_Of n h1 h2 w
theorem edouble (x z k : Int) (A : Option Addr) (c : Nat) (w : World) (h : Raw w A c (natL x.natAbs)) (hx : lz x ≤ 1000000) (hx0 : x ≠ 0) (hk0 : 0 ≤ k) (hk : k ≤ 1048576) (hz : z = x * ((2 ^ k.toNat : Nat) : Int)) :
    Calls Tryz.prog 96 #[.agg #[.bool (decide (x < 0)), .slice A (natL x.natAbs).length c], .int .i64 k] w (RetInt w.heap.size w z) := by
  have hne : natL x.natAbs ≠ [] := fun e => by have := natL_eq_nil.1 e; omega
  have := exact_Double_z (decide (x < 0)) A c k.toNat (natL x.natAbs) hne (by omega) (by unfold lz at hx; omega) z (Lib.hid (by rw [hz, ← ival_mul, ival_at])) w h
  rw [Int.toNat_of_nonneg hk0] at this
  exact this
theorem ehalved (x z k : Int) (A : Option Addr) (c : Nat) (w : World) (h : Raw w A c (natL x.natAbs)) (hx : lz x ≤ 1000000) (hk0 : 0 ≤ k) (hk : k ≤ 1048576) (hz : z = x / ((2 ^ k.toNat : Nat) : Int)) :
    Calls Tryz.prog 94 #[.agg #[.bool (decide (x < 0)), .slice A (natL x.natAbs).length c], .int .i64 k] w (RetInt w.heap.size w z) := by
  have := exact_Halved_z (decide (x < 0)) A c k.toNat (natL x.natAbs) (canon_natL _) (fun e => by have := natL_eq_nil.1 e; exact decide_eq_false (by omega)) (by omega) (by unfold lz at hx; omega) z (by rw [ival_at]; exact hz) w h
  rw [Int.toNat_of_nonneg hk0] at this
  exact this
end Go.Proofs.YtpcdiijmhllejaaGreatDoor

/- The root by Newton's steps: plain Lean. -/
namespace Go.Proofs.YtpcdiijmhllejaaGreatDoor

/-- The greatest number whose square is not above x. -/
def IsRoot (x r : Nat) : Prop := r * r ≤ x ∧ x < (r + 1) * (r + 1)
theorem root_above {x r n : Nat} (hr : 0 < r) (h : n = (r + x / r) / 2) : x < (n + 1) * (n + 1) := by
  obtain ⟨q, hq⟩ : ∃ q, q = x / r := ⟨_, rfl⟩
  rw [← hq] at h
  have h1 : x < r * (q + 1) := by
    rw [hq]; exact Nat.lt_mul_div_succ x hr
  have h2 : r + (q + 1) ≤ 2 * (n + 1) := by omega
  have h3 : 4 * (r * (q + 1)) ≤ (r + (q + 1)) * (r + (q + 1)) := by
    generalize q + 1 = s
    have e : ((r : Int) - s) * (r - s) ≥ 0 := by
      rcases Int.le_total 0 ((r : Int) - s) with h | h
      · exact Int.mul_nonneg h h
      · exact Int.mul_nonneg_of_nonpos_of_nonpos h h
    have e2 : (4 * ((r : Int) * s)) ≤ ((r : Int) + s) * (r + s) := by grind
    exact_mod_cast e2
  have h4 : (r + (q + 1)) * (r + (q + 1)) ≤ (2 * (n + 1)) * (2 * (n + 1)) := Nat.mul_le_mul h2 h2
  have h5 : (2 * (n + 1)) * (2 * (n + 1)) = 4 * ((n + 1) * (n + 1)) := by grind
  omega
theorem root_stop {x r n : Nat} (h : n = (r + x / r) / 2) (hn : r ≤ n) : r * r ≤ x := by
  have h1 : r ≤ x / r := by omega
  calc r * r ≤ r * (x / r) := Nat.mul_le_mul_left _ h1
    _ ≤ x := Nat.mul_div_le x r
theorem root_pos {x r n : Nat} (hx : 0 < x) (hr : 0 < r) (h : n = (r + x / r) / 2) : 0 < n := by
  rcases (by omega : r = 1 ∨ 2 ≤ r) with h1 | h1
  · subst h1; rw [Nat.div_one] at h; omega
  · generalize x / r = q at h
    omega
theorem root_one {x r s : Nat} (h : IsRoot x r) (g : IsRoot x s) : r = s := by
  have lem : ∀ a b : Nat, IsRoot x a → IsRoot x b → a ≤ b := fun a b ha hb => by
    rcases Nat.lt_or_ge b a with hl | hl
    · have h1 := Nat.mul_le_mul hl hl
      have h2 := ha.1
      have h3 := hb.2
      have h4 : (b + 1) * (b + 1) = b.succ * b.succ := rfl
      omega
    · exact hl
  exact Nat.le_antisymm (lem r s h g) (lem s r g h)
theorem root_start {x b k : Nat} (h : x < 2 ^ b) (hk : b ≤ 2 * k) : x < (2 ^ k + 1) * (2 ^ k + 1) := by
  have h1 : 2 ^ b ≤ 2 ^ (2 * k) := Nat.pow_le_pow_right (by omega) hk
  have h2 : 2 ^ (2 * k) = 2 ^ k * 2 ^ k := by rw [Nat.two_mul, Nat.pow_add]
  have h3 : 2 ^ k * 2 ^ k ≤ (2 ^ k + 1) * (2 ^ k + 1) := Nat.mul_le_mul (Nat.le_succ _) (Nat.le_succ _)
  omega
theorem root_le {x r s : Nat} (h : IsRoot x r) (hs : x < (s + 1) * (s + 1)) : r ≤ s := by
  rcases Nat.lt_or_ge s r with hl | hl
  · have h1 : (s + 1) * (s + 1) ≤ r * r := Nat.mul_le_mul hl hl
    have := h.1
    omega
  · exact hl
end Go.Proofs.YtpcdiijmhllejaaGreatDoor

/- Variables that hold numbers. -/
namespace Go.Proofs.YtpcdiijmhllejaaGreatDoor
open Go.RowKit

/-- A variable that holds a number. -/
structure NV (w : World) (g : Nat) (z : Int) (A : Option Addr) (c : Nat) : Prop where
  pair : Pair w g 24 (.bool (decide (z < 0))) (.slice A (natL z.natAbs).length c)
  raw : Raw w A c (natL z.natAbs)
theorem NV.below {w w' : World} {g : Nat} {z : Int} {A : Option Addr} {c : Nat} (h : NV w g z A c) (hb : Below w.heap.size w w') : NV w' g z A c := ⟨h.pair.below hb, h.raw.below hb⟩
theorem NV.of {w w' : World} {g : Nat} {z : Int} {A : Option Addr} {c : Nat} (h : Raw w A c (natL z.natAbs)) (hb : Below w.heap.size w w') (p : Pair w' g 24 (.bool (decide (z < 0))) (.slice A (natL z.natAbs).length c)) : NV w' g z A c := ⟨p, h.below hb⟩
/-- A variable that holds limbs and a sign as they came in. -/
structure NR (w : World) (g : Nat) (n : Bool) (A : Option Addr) (c : Nat) (xs : List Nat) : Prop where
  pair : Pair w g 24 (.bool n) (.slice A xs.length c)
  raw : Raw w A c xs
theorem NR.below {w w' : World} {g : Nat} {n : Bool} {A : Option Addr} {c : Nat} {xs : List Nat} (h : NR w g n A c xs) (hb : Below w.heap.size w w') : NR w' g n A c xs := ⟨h.pair.below hb, h.raw.below hb⟩
theorem NR.of {w w' : World} {g : Nat} {n : Bool} {A : Option Addr} {c : Nat} {xs : List Nat} (h : Raw w A c xs) (hb : Below w.heap.size w w') (p : Pair w' g 24 (.bool n) (.slice A xs.length c)) : NR w' g n A c xs := ⟨p, h.below hb⟩
end Go.Proofs.YtpcdiijmhllejaaGreatDoor
