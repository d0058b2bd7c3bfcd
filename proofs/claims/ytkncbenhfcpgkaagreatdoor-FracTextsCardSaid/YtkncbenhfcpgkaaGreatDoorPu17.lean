/- Several texts in one: ZR, Moves, Double, Has. -/
import Derived.Test.YtkncbenhfcpgkaaGreatDoorPu15
import Derived.Test.YtkncbenhfcpgkaaGreatDoorPu16
import Derived.Test.YtkncbenhfcpgkaaGreatDoorPu04
import Derived.Test.YtkncbenhfcpgkaaGreatDoorPu05
import Derived.Test.YtkncbenhfcpgkaaGreatDoorPu08
import Derived.Test.YtkncbenhfcpgkaaGreatDoorPu03
import Derived.Test.YtkncbenhfcpgkaaGreatDoorPu02
import Derived.Test.YtkncbenhfcpgkaaGreatDoorPu01
import Derived.Test.YtkncbenhfcpgkaaGreatDoorPu07
import Derived.Test.YtkncbenhfcpgkaaGreatDoorPu06
import Derived.Test.YtkncbenhfcpgkaaGreatDoorPu14
import Derived.Test.YtkncbenhfcpgkaaGreatDoorPu11
import Derived.Test.YtkncbenhfcpgkaaGreatDoorPu13
import Derived.Test.YtkncbenhfcpgkaaGreatDoorPu12
import Derived.Test.YtkncbenhfcpgkaaGreatDoorPu09
set_option maxRecDepth 100000
set_option maxHeartbeats 8000000
/- The references calls over numbers, told by the numbers alone. (Written by wip/exact/genz.py.) -/
namespace Go.Proofs.YtkncbenhfcpgkaaGreatDoor
open Go.RowKit
theorem rdivide (x y q r : Int) (A B : Option Addr) (c d : Nat) (w : World) (h : Raw w A c (natL x.natAbs)) (g : Raw w B d (natL y.natAbs)) (hx : lz x ≤ 500000000) (hy : lz y ≤ 500000000) (hy0 : y ≠ 0) (hq : q = x.tdiv y) (hr : r = x.tmod y) :
    Calls Tryz.prog 119 #[.agg #[.bool (decide (x < 0)), .slice A (natL x.natAbs).length c], .agg #[.bool (decide (y < 0)), .slice B (natL y.natAbs).length d]] w (RetBoth w.heap.size w q r) := by
  have h0 : natL y.natAbs ≠ [] := fun e => by
    have := natL_eq_nil.1 e
    omega
  have := ref_Divide (decide (x < 0)) (decide (y < 0)) A B c d (natL x.natAbs) (natL y.natAbs) (canon_natL _) h0 (by unfold lz at hx; omega) (by unfold lz at hy; omega) w h g
  rw [ival_at, ival_at, ← hq, ← hr] at this
  exact this
theorem rcmp (x y k : Int) (A B : Option Addr) (c d : Nat) (w : World) (h : Raw w A c (natL x.natAbs)) (g : Raw w B d (natL y.natAbs)) (_ : lz x ≤ 500000000) (_ : lz y ≤ 500000000) (hk : k = cmpz x y) :
    Calls Tryz.prog 123 #[.agg #[.bool (decide (x < 0)), .slice A (natL x.natAbs).length c], .agg #[.bool (decide (y < 0)), .slice B (natL y.natAbs).length d]] w fun e w' => e = .returned (.int .i64 k) ∧ Below w.heap.size w w' := by
  have s1 := sgn_z x
  have s2 := sgn_z y
  rcases Int.lt_trichotomy x.sign y.sign with hl | hl | hl
  · have := ref_Cmp_less (decide (x < 0)) (decide (y < 0)) A B c d (natL x.natAbs) (natL y.natAbs) _ _ hl s1 s2 w h g
    have e : k = -1 := by rw [hk]; exact cmpz_lt (sign_lt hl)
    rw [e]; exact this
  · have := ref_Cmp_same (decide (x < 0)) (decide (y < 0)) A B c d (natL x.natAbs) (natL y.natAbs) x.sign (sign_neg x) s1 (by rw [s2, hl]) (canon_natL _) (canon_natL _) w h g
    have e : (if decide (x < 0) = true then cmpv (val (natL y.natAbs)) (val (natL x.natAbs)) else cmpv (val (natL x.natAbs)) (val (natL y.natAbs))) = k := by
      rw [hk, val_natL, val_natL]
      exact (cmp_like hl).symm
    rw [e] at this
    exact this
  · have := ref_Cmp_more (decide (x < 0)) (decide (y < 0)) A B c d (natL x.natAbs) (natL y.natAbs) _ _ hl s1 s2 w h g
    have e : k = 1 := by rw [hk]; exact cmpz_gt (sign_lt hl)
    rw [e]; exact this
theorem rsign (x k : Int) (A : Option Addr) (c : Nat) (w : World) (h : Raw w A c (natL x.natAbs)) (hk : k = x.sign) :
    Calls Tryz.prog 36 #[.agg #[.bool (decide (x < 0)), .slice A (natL x.natAbs).length c]] w fun e w' => e = .returned (.int .i64 k) ∧ Below w.heap.size w w' := by
  have := ref_Sign_any (decide (x < 0)) A c _ w h
  rw [sgn_z, ← hk] at this
  exact this
theorem rbits (x k : Int) (A : Option Addr) (c : Nat) (w : World) (h : Raw w A c (natL x.natAbs)) (hx : lz x ≤ 200000000) (hk : k = ((bitsI (natL x.natAbs) : Nat) : Int)) :
    Calls Tryz.prog 118 #[.agg #[.bool (decide (x < 0)), .slice A (natL x.natAbs).length c]] w fun e w' => e = .returned (.int .i64 k) ∧ Below w.heap.size w w' := by
  have := ref_Bits_any (decide (x < 0)) A c _ w h (by unfold lz at hx; omega)
  rw [← hk] at this
  exact this
theorem rof (n z : Int) (hz : z = n) (h1 : -9223372036854775808 ≤ n) (h2 : n ≤ 9223372036854775807) (w : World) : Calls Tryz.prog 117 #[.int .i64 n] w (RetInt w.heap.size w z) := by
  rw [hz]; exact ref_Of n h1 h2 w
/- An append that does not fit moves the row. -/
section
variable {P : Program} (w : World)
end
/- Double of package exact: times a power of two. -/

theorem Row.kept {B : Nat} {Ts : List TypeId} {w w' : World} {g : Nat} {zs : List Nat} (h : Row w g zs) (k : KeptV B Ts w w') (hT : 70 ∉ Ts) : Row w' g zs := ⟨k.blk h.blk hT⟩
structure UpAt (w : World) (u : Value) (L nv : Nat) : Prop where
  ex : ∃ g zs, u = .slice (some ⟨g, 0, none⟩) L L ∧ zs.length = L ∧ Limbs zs ∧ val zs = nv ∧ Row w g zs
theorem UpAt.kept {B : Nat} {Ts : List TypeId} {w w' : World} {u : Value} {L nv : Nat} (h : UpAt w u L nv) (k : KeptV B Ts w w') (hT : 70 ∉ Ts) : UpAt w' u L nv := by
  obtain ⟨g, zs, h1, h2, h3, h4, h5⟩ := h.ex
  exact ⟨g, zs, h1, h2, h3, h4, h5.kept k hT⟩
structure MadeAt (w : World) (base : Nat) (u : Value) (m : Nat) : Prop where
  ex : ∃ g, u = .slice (some ⟨g, 0, none⟩) m m ∧ base ≤ g ∧ Row w g (List.replicate m 0)
theorem MadeAt.kept {B : Nat} {Ts : List TypeId} {w w' : World} {base m : Nat} {u : Value} (h : MadeAt w base u m) (k : KeptV B Ts w w') (hT : 70 ∉ Ts) : MadeAt w' base u m := by
  obtain ⟨g, h1, h2, h3⟩ := h.ex
  exact ⟨g, h1, h2, h3.kept k hT⟩
theorem OwnL.kept {B : Nat} {Ts : List TypeId} {w w' : World} {base n L : Nat} {v : Value} (h : OwnL w base v n L) (k : KeptV B Ts w w') (hT : 70 ∉ Ts) : OwnL w' base v n L := by
  obtain ⟨A, c, zs, h1, h2, h3, h4, h5, h6, h7⟩ := h.form
  exact ⟨A, c, zs, h1, h2, h3, h4, h5, h6, k.own h7 hT⟩
/- slices.ContainsFunc of limbs: is one of them not nought? -/

end Go.Proofs.YtkncbenhfcpgkaaGreatDoor
