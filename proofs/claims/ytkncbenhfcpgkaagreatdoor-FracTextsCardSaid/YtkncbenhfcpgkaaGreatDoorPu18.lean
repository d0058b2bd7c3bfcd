/- Several texts in one: HalfLaw, Halved, Z, NV. -/
import Derived.Test.YtkncbenhfcpgkaaGreatDoorPu13
import Derived.Test.YtkncbenhfcpgkaaGreatDoorPu01
import Derived.Test.YtkncbenhfcpgkaaGreatDoorPu12
import Derived.Test.YtkncbenhfcpgkaaGreatDoorPu03
import Derived.Test.YtkncbenhfcpgkaaGreatDoorPu06
import Derived.Test.YtkncbenhfcpgkaaGreatDoorPu04
import Derived.Test.YtkncbenhfcpgkaaGreatDoorPu02
import Derived.Test.YtkncbenhfcpgkaaGreatDoorPu17
import Derived.Test.YtkncbenhfcpgkaaGreatDoorPu15
import Derived.Test.YtkncbenhfcpgkaaGreatDoorPu14
import Derived.Test.YtkncbenhfcpgkaaGreatDoorPu09
import Derived.Test.YtkncbenhfcpgkaaGreatDoorPu08
import Derived.Test.YtkncbenhfcpgkaaGreatDoorPu07
import Derived.Test.YtkncbenhfcpgkaaGreatDoorPu05
import Derived.Test.YtkncbenhfcpgkaaGreatDoorPu11
import Derived.Test.YtkncbenhfcpgkaaGreatDoorPu16
set_option maxRecDepth 100000
set_option maxHeartbeats 8000000
/- A number divided by 2^n and rounded down: plain, no program in sight. -/
namespace Go.Proofs.YtkncbenhfcpgkaaGreatDoor

/- Halved of package exact: divided by 2^n and rounded down. -/
open Go.RowKit

theorem Raw.drop {w : World} {ad : Addr} {c m : Nat} {xs : List Nat} (h : Raw w (some ad) c xs) (hm : m < xs.length) : Raw w (some (ad.add m)) (c - m) (xs.drop m) := by
  have h1 := h.cap
  have h2 := h.most
  refine ⟨limbs_drop h.limbs m, by rw [List.length_drop]; omega, by omega, ?_⟩
  have h3 := Reads.cut h.reads (k := m) (cap := c) (by omega) h1
  rw [if_neg (by omega), Nat.mul_one] at h3
  unfold ReadsU
  rw [List.length_drop]
  have e : (cellsU xs).drop m = cellsU (xs.drop m) := by simp [cellsU]
  rw [e] at h3
  exact h3
/- The calls of package exact over numbers, told by the numbers alone. (Written by wip/exact/genz.py.) -/
theorem eplus (x y z : Int) (A B : Option Addr) (c d : Nat) (w : World) (h : Raw w A c (natL x.natAbs)) (g : Raw w B d (natL y.natAbs)) (hx : lz x ≤ 500000000) (hy : lz y ≤ 500000000) (hz : z = x + y) :
    Calls Tryz.prog 106 #[.agg #[.bool (decide (x < 0)), .slice A (natL x.natAbs).length c], .agg #[.bool (decide (y < 0)), .slice B (natL y.natAbs).length d]] w (RetInt w.heap.size w z) := by
  have := exact_Plus (decide (x < 0)) (decide (y < 0)) A B c d (natL x.natAbs) (natL y.natAbs) (canon_natL _) (canon_natL _) (by unfold lz at hx; omega) (by unfold lz at hy; omega) w h g
  rw [ival_at, ival_at, ← hz] at this
  exact this
theorem edivide (x y q r : Int) (A B : Option Addr) (c d : Nat) (w : World) (h : Raw w A c (natL x.natAbs)) (g : Raw w B d (natL y.natAbs)) (hx : lz x ≤ 500000000) (hy : lz y ≤ 500000000) (hy0 : y ≠ 0) (hq : q = x.tdiv y) (hr : r = x.tmod y) :
    Calls Tryz.prog 105 #[.agg #[.bool (decide (x < 0)), .slice A (natL x.natAbs).length c], .agg #[.bool (decide (y < 0)), .slice B (natL y.natAbs).length d]] w (RetTwo w.heap.size w q r) := by
  have h0 : natL y.natAbs ≠ [] := fun e => by
    have := natL_eq_nil.1 e
    omega
  have := exact_Divide (decide (x < 0)) (decide (y < 0)) A B c d (natL x.natAbs) (natL y.natAbs) (canon_natL _) (canon_natL _) h0 (by unfold lz at hx; omega) (by unfold lz at hy; omega) w h g
  rw [ival_at, ival_at, ← hq, ← hr] at this
  exact this
theorem ecmp (x y k : Int) (A B : Option Addr) (c d : Nat) (w : World) (h : Raw w A c (natL x.natAbs)) (g : Raw w B d (natL y.natAbs)) (hx : lz x ≤ 500000000) (hy : lz y ≤ 500000000) (hk : k = cmpz x y) :
    Calls Tryz.prog 107 #[.agg #[.bool (decide (x < 0)), .slice A (natL x.natAbs).length c], .agg #[.bool (decide (y < 0)), .slice B (natL y.natAbs).length d]] w fun e w' => e = .returned (.int .i64 k) ∧ Below w.heap.size w w' := by
  have s1 := sgn_z x
  have s2 := sgn_z y
  unfold lz at hx hy
  rcases Int.lt_trichotomy x.sign y.sign with hl | hl | hl
  · have := exact_Cmp_less (decide (x < 0)) (decide (y < 0)) A B c d (natL x.natAbs) (natL y.natAbs) _ _ hl s1 s2 w h g
    have e : k = -1 := by rw [hk]; exact cmpz_lt (sign_lt hl)
    rw [e]; exact this
  · have := exact_Cmp_same (decide (x < 0)) (decide (y < 0)) A B c d (natL x.natAbs) (natL y.natAbs) x.sign (sign_neg x) s1 (by rw [s2, hl]) (canon_natL _) (canon_natL _) (by omega) (by omega) w h g
    have e : (if decide (x < 0) = true then cmpv (val (natL y.natAbs)) (val (natL x.natAbs)) else cmpv (val (natL x.natAbs)) (val (natL y.natAbs))) = k := by
      rw [hk, val_natL, val_natL]
      exact (cmp_like hl).symm
    rw [e] at this
    exact this
  · have := exact_Cmp_more (decide (x < 0)) (decide (y < 0)) A B c d (natL x.natAbs) (natL y.natAbs) _ _ hl s1 s2 w h g
    have e : k = 1 := by rw [hk]; exact cmpz_gt (sign_lt hl)
    rw [e]; exact this
theorem eof (n z : Int) (hz : z = n) (h1 : -9223372036854775808 ≤ n) (h2 : n ≤ 9223372036854775807) (w : World) : Calls Tryz.prog 104 #[.int .i64 n] w (RetInt w.heap.size w z) := by
  rw [hz]; exact exact_Of n h1 h2 w
/- Variables that hold numbers. -/

structure NV (w : World) (g : Nat) (z : Int) (A : Option Addr) (c : Nat) : Prop where
  pair : Pair w g 24 (.bool (decide (z < 0))) (.slice A (natL z.natAbs).length c)
  raw : Raw w A c (natL z.natAbs)
theorem NV.below {w w' : World} {g : Nat} {z : Int} {A : Option Addr} {c : Nat} (h : NV w g z A c) (hb : Below w.heap.size w w') : NV w' g z A c := ⟨h.pair.below hb, h.raw.below hb⟩
theorem NV.of {w w' : World} {g : Nat} {z : Int} {A : Option Addr} {c : Nat} (h : Raw w A c (natL z.natAbs)) (hb : Below w.heap.size w w') (p : Pair w' g 24 (.bool (decide (z < 0))) (.slice A (natL z.natAbs).length c)) : NV w' g z A c := ⟨p, h.below hb⟩
structure NR (w : World) (g : Nat) (n : Bool) (A : Option Addr) (c : Nat) (xs : List Nat) : Prop where
  pair : Pair w g 24 (.bool n) (.slice A xs.length c)
  raw : Raw w A c xs
theorem NR.below {w w' : World} {g : Nat} {n : Bool} {A : Option Addr} {c : Nat} {xs : List Nat} (h : NR w g n A c xs) (hb : Below w.heap.size w w') : NR w' g n A c xs := ⟨h.pair.below hb, h.raw.below hb⟩
theorem NR.of {w w' : World} {g : Nat} {n : Bool} {A : Option Addr} {c : Nat} {xs : List Nat} (h : Raw w A c xs) (hb : Below w.heap.size w w') (p : Pair w' g 24 (.bool n) (.slice A xs.length c)) : NR w' g n A c xs := ⟨p, h.below hb⟩
end Go.Proofs.YtkncbenhfcpgkaaGreatDoor
