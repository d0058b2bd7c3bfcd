/- Several texts in one: Z, NV, KeptAt. -/
import Derived.Test.YtadmoheohmbieaaGreatDoorPk16
import Derived.Test.YtadmoheohmbieaaGreatDoorPk17
import Derived.Test.YtadmoheohmbieaaGreatDoorPk10
import Derived.Test.YtadmoheohmbieaaGreatDoorPk07
import Derived.Test.YtadmoheohmbieaaGreatDoorPk19
import Derived.Test.YtadmoheohmbieaaGreatDoorPk20
import Derived.Test.YtadmoheohmbieaaGreatDoorPk03
import Derived.Test.YtadmoheohmbieaaGreatDoorPk02
/- The calls of package exact over numbers, told by the numbers alone. (Written by wip/exact/genz.py.) -/
namespace Go.Proofs.YtadmoheohmbieaaGreatDoor
open Go.RowKit
theorem eplus (x y z : Int) (A B : Option Addr) (c d : Nat) (w : World) (h : Raw w A c (natL x.natAbs)) (g : Raw w B d (natL y.natAbs)) (hx : lz x ≤ 500000000) (hy : lz y ≤ 500000000) (hz : z = x + y) :
    Calls Tryz.prog 208 #[.agg #[.bool (decide (x < 0)), .slice A (natL x.natAbs).length c], .agg #[.bool (decide (y < 0)), .slice B (natL y.natAbs).length d]] w (RetInt w.heap.size w z) := by
  have := exact_Plus (decide (x < 0)) (decide (y < 0)) A B c d (natL x.natAbs) (natL y.natAbs) (canon_natL _) (canon_natL _) (by unfold lz at hx; omega) (by unfold lz at hy; omega) w h g
  rw [ival_at, ival_at, ← hz] at this
  exact this
theorem eminus (x y z : Int) (A B : Option Addr) (c d : Nat) (w : World) (h : Raw w A c (natL x.natAbs)) (g : Raw w B d (natL y.natAbs)) (hx : lz x ≤ 500000000) (hy : lz y ≤ 500000000) (hz : z = x - y) :
    Calls Tryz.prog 224 #[.agg #[.bool (decide (x < 0)), .slice A (natL x.natAbs).length c], .agg #[.bool (decide (y < 0)), .slice B (natL y.natAbs).length d]] w (RetInt w.heap.size w z) := by
  have := exact_Minus (decide (x < 0)) (decide (y < 0)) A B c d (natL x.natAbs) (natL y.natAbs) (canon_natL _) (canon_natL _) (by unfold lz at hx; omega) (by unfold lz at hy; omega) w h g
  rw [ival_at, ival_at, ← hz] at this
  exact this
theorem etimes (x y z : Int) (A B : Option Addr) (c d : Nat) (w : World) (h : Raw w A c (natL x.natAbs)) (g : Raw w B d (natL y.natAbs)) (hx : lz x ≤ 500000000) (hy : lz y ≤ 500000000) (hz : z = x * y) :
    Calls Tryz.prog 204 #[.agg #[.bool (decide (x < 0)), .slice A (natL x.natAbs).length c], .agg #[.bool (decide (y < 0)), .slice B (natL y.natAbs).length d]] w (RetInt w.heap.size w z) := by
  have := exact_Times (decide (x < 0)) (decide (y < 0)) A B c d (natL x.natAbs) (natL y.natAbs) (by unfold lz at hx; omega) (by unfold lz at hy; omega) w h g
  rw [ival_at, ival_at, ← hz] at this
  exact this
theorem edivide (x y q r : Int) (A B : Option Addr) (c d : Nat) (w : World) (h : Raw w A c (natL x.natAbs)) (g : Raw w B d (natL y.natAbs)) (hx : lz x ≤ 500000000) (hy : lz y ≤ 500000000) (hy0 : y ≠ 0) (hq : q = x.tdiv y) (hr : r = x.tmod y) :
    Calls Tryz.prog 157 #[.agg #[.bool (decide (x < 0)), .slice A (natL x.natAbs).length c], .agg #[.bool (decide (y < 0)), .slice B (natL y.natAbs).length d]] w (RetTwo w.heap.size w q r) := by
  have h0 : natL y.natAbs ≠ [] := fun e => by
    have := natL_eq_nil.1 e
    omega
  have := exact_Divide (decide (x < 0)) (decide (y < 0)) A B c d (natL x.natAbs) (natL y.natAbs) (canon_natL _) (canon_natL _) h0 (by unfold lz at hx; omega) (by unfold lz at hy; omega) w h g
  rw [ival_at, ival_at, ← hq, ← hr] at this
  exact this
theorem ecommon (x y z : Int) (A B : Option Addr) (c d : Nat) (w : World) (h : Raw w A c (natL x.natAbs)) (g : Raw w B d (natL y.natAbs)) (hx : lz x ≤ 500000000) (hy : lz y ≤ 500000000) (hz : z = ((Nat.gcd x.natAbs y.natAbs : Nat) : Int)) :
    Calls Tryz.prog 155 #[.agg #[.bool (decide (x < 0)), .slice A (natL x.natAbs).length c], .agg #[.bool (decide (y < 0)), .slice B (natL y.natAbs).length d]] w (RetInt w.heap.size w z) := by
  have := exact_Common (decide (x < 0)) (decide (y < 0)) A B c d (natL x.natAbs) (natL y.natAbs) (by unfold lz at hx; omega) (by unfold lz at hy; omega) w h g
  rw [val_natL, val_natL, ← hz] at this
  exact this
theorem ecmp (x y k : Int) (A B : Option Addr) (c d : Nat) (w : World) (h : Raw w A c (natL x.natAbs)) (g : Raw w B d (natL y.natAbs)) (hx : lz x ≤ 500000000) (hy : lz y ≤ 500000000) (hk : k = cmpz x y) :
    Calls Tryz.prog 156 #[.agg #[.bool (decide (x < 0)), .slice A (natL x.natAbs).length c], .agg #[.bool (decide (y < 0)), .slice B (natL y.natAbs).length d]] w fun e w' => e = .returned (.int .i64 k) ∧ Below w.heap.size w w' := by
  have s1 := sgn_z x
  have s2 := sgn_z y
  unfold lz at hx hy
  rcases Int.lt_trichotomy x.sign y.sign with hl | hl | hl
  · have := exact_Cmp_less (decide (x < 0)) (decide (y < 0)) A B c d (natL x.natAbs) (natL y.natAbs) _ _ hl s1 s2 w h g
    have e : k = -1 := by rw [hk]; exact cmpz_lt (sign_lt hl)
    rw [e]; exact this
  · have := exact_Cmp_same (decide (x < 0)) (decide (y < 0)) A B c d (natL x.natAbs) (natL y.natAbs) x.sign (sign_neg x) s1 (by rw [s2, hl]) (canon_natL _) (canon_natL _) (by omega) (by omega) w h g
    have e : (if decide (x < 0) = true then cmpv (val (natL y.natAbs)) (val (natL x.natAbs)) else cmpv (val (natL x.natAbs)) (val (natL y.natAbs))) = k := by
      rw [hk, val_natL, val_natL]
      exact (cmp_like hl).symm
    rw [e] at this
    exact this
  · have := exact_Cmp_more (decide (x < 0)) (decide (y < 0)) A B c d (natL x.natAbs) (natL y.natAbs) _ _ hl s1 s2 w h g
    have e : k = 1 := by rw [hk]; exact cmpz_gt (sign_lt hl)
    rw [e]; exact this
theorem esign (x k : Int) (A : Option Addr) (c : Nat) (w : World) (h : Raw w A c (natL x.natAbs)) (hk : k = x.sign) :
    Calls Tryz.prog 59 #[.agg #[.bool (decide (x < 0)), .slice A (natL x.natAbs).length c]] w fun e w' => e = .returned (.int .i64 k) ∧ Below w.heap.size w w' := by
  have := exact_Sign_any (decide (x < 0)) A c _ w h
  rw [sgn_z, ← hk] at this
  exact this
theorem ebits (x k : Int) (A : Option Addr) (c : Nat) (w : World) (h : Raw w A c (natL x.natAbs)) (hx : lz x ≤ 200000000) (hk : k = ((bitsI (natL x.natAbs) : Nat) : Int)) :
    Calls Tryz.prog 206 #[.agg #[.bool (decide (x < 0)), .slice A (natL x.natAbs).length c]] w fun e w' => e = .returned (.int .i64 k) ∧ Below w.heap.size w w' := by
  have := exact_Bits_any (decide (x < 0)) A c _ w h (by unfold lz at hx; omega)
  rw [← hk] at this
  exact this
theorem eof (n z : Int) (hz : z = n) (h1 : -9223372036854775808 ≤ n) (h2 : n ≤ 9223372036854775807) (w : World) : Calls Tryz.prog 65 #[.int .i64 n] w (RetInt w.heap.size w z) := by
  rw [hz]; exact exact_Of n h1 h2 w
theorem edouble (x z k : Int) (A : Option Addr) (c : Nat) (w : World) (h : Raw w A c (natL x.natAbs)) (hx : lz x ≤ 1000000) (hx0 : x ≠ 0) (hk0 : 0 ≤ k) (hk : k ≤ 1048576) (hz : z = x * ((2 ^ k.toNat : Nat) : Int)) :
    Calls Tryz.prog 205 #[.agg #[.bool (decide (x < 0)), .slice A (natL x.natAbs).length c], .int .i64 k] w (RetInt w.heap.size w z) := by
  have hne : natL x.natAbs ≠ [] := fun e => by have := natL_eq_nil.1 e; omega
  have := exact_Double_z (decide (x < 0)) A c k.toNat (natL x.natAbs) hne (by omega) (by unfold lz at hx; omega) z (Lib.hid (by rw [hz, ← ival_mul, ival_at])) w h
  rw [Int.toNat_of_nonneg hk0] at this
  exact this
theorem ehalved (x z k : Int) (A : Option Addr) (c : Nat) (w : World) (h : Raw w A c (natL x.natAbs)) (hx : lz x ≤ 1000000) (hk0 : 0 ≤ k) (hk : k ≤ 1048576) (hz : z = x / ((2 ^ k.toNat : Nat) : Int)) :
    Calls Tryz.prog 207 #[.agg #[.bool (decide (x < 0)), .slice A (natL x.natAbs).length c], .int .i64 k] w (RetInt w.heap.size w z) := by
  have := exact_Halved_z (decide (x < 0)) A c k.toNat (natL x.natAbs) (canon_natL _) (fun e => by have := natL_eq_nil.1 e; exact decide_eq_false (by omega)) (by omega) (by unfold lz at hx; omega) z (by rw [ival_at]; exact hz) w h
  rw [Int.toNat_of_nonneg hk0] at this
  exact this
end Go.Proofs.YtadmoheohmbieaaGreatDoor

/- Variables that hold numbers. -/
namespace Go.Proofs.YtadmoheohmbieaaGreatDoor
open Go.RowKit

/-- A variable that holds a number. -/
structure NV (w : World) (g : Nat) (z : Int) (A : Option Addr) (c : Nat) : Prop where
  pair : Pair w g 24 (.bool (decide (z < 0))) (.slice A (natL z.natAbs).length c)
  raw : Raw w A c (natL z.natAbs)
theorem NV.below {w w' : World} {g : Nat} {z : Int} {A : Option Addr} {c : Nat} (h : NV w g z A c) (hb : Below w.heap.size w w') : NV w' g z A c := ⟨h.pair.below hb, h.raw.below hb⟩
theorem NV.of {w w' : World} {g : Nat} {z : Int} {A : Option Addr} {c : Nat} (h : Raw w A c (natL z.natAbs)) (hb : Below w.heap.size w w') (p : Pair w' g 24 (.bool (decide (z < 0))) (.slice A (natL z.natAbs).length c)) : NV w' g z A c := ⟨p, h.below hb⟩
/-- A variable that holds limbs and a sign as they came in. -/
structure NR (w : World) (g : Nat) (n : Bool) (A : Option Addr) (c : Nat) (xs : List Nat) : Prop where
  pair : Pair w g 24 (.bool n) (.slice A xs.length c)
  raw : Raw w A c xs
theorem NR.below {w w' : World} {g : Nat} {n : Bool} {A : Option Addr} {c : Nat} {xs : List Nat} (h : NR w g n A c xs) (hb : Below w.heap.size w w') : NR w' g n A c xs := ⟨h.pair.below hb, h.raw.below hb⟩
theorem NR.of {w w' : World} {g : Nat} {n : Bool} {A : Option Addr} {c : Nat} {xs : List Nat} (h : Raw w A c xs) (hb : Below w.heap.size w w') (p : Pair w' g 24 (.bool n) (.slice A xs.length c)) : NR w' g n A c xs := ⟨p, h.below hb⟩
end Go.Proofs.YtadmoheohmbieaaGreatDoor

/- Numbers at hand where memory only grows; stores that change nothing. -/
namespace Go.Proofs.YtadmoheohmbieaaGreatDoor
open Go.RowKit

theorem KeptV.cells {B : Nat} {w w' : World} (k : KeptV B [] w w') : ∀ p : Addr, p.block < w.heap.size → w'.cell? p = w.cell? p := fun p hp => by
  rcases k.block p.block hp with e | ⟨-, T, hT, -⟩
  · unfold World.cell?; rw [e]
  · cases hT
theorem IntAt.keptNone {B : Nat} {w w' : World} {v : Value} {x : Int} (h : IntAt w v x) (k : KeptV B [] w w') : IntAt w' v x := by
  obtain ⟨A, c, h1, h2⟩ := h.form
  exact ⟨A, c, h1, h2.limbs, h2.cap, h2.most, (h2.reads.keep k.cells).more k.size⟩

theorem set_same2 {w : World} {g : Nat} {t : TypeId} {a b : Value} (h : Pair w g t a b) : (w.setCell ⟨g, 0, none⟩ a).setCell ⟨g, 1, none⟩ b = w := by
  have e : ((w.setCell ⟨g, 0, none⟩ a).setCell ⟨g, 1, none⟩ b).heap = w.heap := by
    refine Array.ext_getElem? fun k => ?_
    by_cases hk : k = g
    · subst hk
      have h1 := (h.store a b).blk
      have h2 := h.blk
      unfold Blk at h1 h2
      rw [h1, h2]
    · rw [Below.heap_setCell _ ⟨g, 1, none⟩ b k hk, Below.heap_setCell w ⟨g, 0, none⟩ a k hk]
  unfold World.setCell at e ⊢
  simp only at e
  rw [e]
/-- A number of the call's own, its limbs where they lie. -/
theorem IntOwn.rawAt {w : World} {base c : Nat} {A : Option Addr} {x : Int} (h : IntOwn w base (.agg #[.bool (decide (x < 0)), .slice A (natL x.natAbs).length c]) x) : Raw w A c (natL x.natAbs) := by
  obtain ⟨A', c', h1, h2⟩ := h.raw
  injection h1 with h1
  simp at h1
  obtain ⟨rfl, rfl⟩ := h1
  exact h2
/-- Stores into a variable leave limbs as they are. -/
theorem IntOwn.pairT {w : World} {base g : Nat} {v a b : Value} {x : Int} (h : IntOwn w base v x) (p : Pair w g 24 a b) (y z : Value) : IntOwn ((w.setCell ⟨g, 0, none⟩ y).setCell ⟨g, 1, none⟩ z) base v x := by
  obtain ⟨A, c, h1, h2, h3, h4⟩ := h.form
  exact ⟨A, c, h1, h2, h3, own_pair h4 (own_blk_ne h4 p.blk (by decide))⟩
end Go.Proofs.YtadmoheohmbieaaGreatDoor
