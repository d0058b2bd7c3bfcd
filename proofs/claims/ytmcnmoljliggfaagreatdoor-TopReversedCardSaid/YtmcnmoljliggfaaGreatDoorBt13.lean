/- Several texts in one: Z, NV, KeptAt, Quad, BookFrac. -/
import Derived.Test.YtmcnmoljliggfaaGreatDoorBt12
set_option maxRecDepth 100000
set_option maxHeartbeats 8000000
/- The calls of package exact over numbers, told by the numbers alone. (Written by wip/exact/genz.py.) -/
namespace Go.Proofs.YtmcnmoljliggfaaGreatDoor
open Go.RowKit
theorem eplus (x y z : Int) (A B : Option Addr) (c d : Nat) (w : World) (h : Raw w A c (natL x.natAbs)) (g : Raw w B d (natL y.natAbs)) (hx : lz x ≤ 500000000) (hy : lz y ≤ 500000000) (hz : z = x + y) :
    Calls Tryz.prog 75 #[.agg #[.bool (decide (x < 0)), .slice A (natL x.natAbs).length c], .agg #[.bool (decide (y < 0)), .slice B (natL y.natAbs).length d]] w (RetInt w.heap.size w z) := by
  have := exact_Plus (decide (x < 0)) (decide (y < 0)) A B c d (natL x.natAbs) (natL y.natAbs) (canon_natL _) (canon_natL _) (by unfold lz at hx; omega) (by unfold lz at hy; omega) w h g
  rw [ival_at, ival_at, ← hz] at this
  exact this
theorem eminus (x y z : Int) (A B : Option Addr) (c d : Nat) (w : World) (h : Raw w A c (natL x.natAbs)) (g : Raw w B d (natL y.natAbs)) (hx : lz x ≤ 500000000) (hy : lz y ≤ 500000000) (hz : z = x - y) :
    Calls Tryz.prog 101 #[.agg #[.bool (decide (x < 0)), .slice A (natL x.natAbs).length c], .agg #[.bool (decide (y < 0)), .slice B (natL y.natAbs).length d]] w (RetInt w.heap.size w z) := by
  have := exact_Minus (decide (x < 0)) (decide (y < 0)) A B c d (natL x.natAbs) (natL y.natAbs) (canon_natL _) (canon_natL _) (by unfold lz at hx; omega) (by unfold lz at hy; omega) w h g
  rw [ival_at, ival_at, ← hz] at this
  exact this
theorem etimes (x y z : Int) (A B : Option Addr) (c d : Nat) (w : World) (h : Raw w A c (natL x.natAbs)) (g : Raw w B d (natL y.natAbs)) (hx : lz x ≤ 500000000) (hy : lz y ≤ 500000000) (hz : z = x * y) :
    Calls Tryz.prog 71 #[.agg #[.bool (decide (x < 0)), .slice A (natL x.natAbs).length c], .agg #[.bool (decide (y < 0)), .slice B (natL y.natAbs).length d]] w (RetInt w.heap.size w z) := by
  have := exact_Times (decide (x < 0)) (decide (y < 0)) A B c d (natL x.natAbs) (natL y.natAbs) (by unfold lz at hx; omega) (by unfold lz at hy; omega) w h g
  rw [ival_at, ival_at, ← hz] at this
  exact this
theorem edivide (x y q r : Int) (A B : Option Addr) (c d : Nat) (w : World) (h : Raw w A c (natL x.natAbs)) (g : Raw w B d (natL y.natAbs)) (hx : lz x ≤ 500000000) (hy : lz y ≤ 500000000) (hy0 : y ≠ 0) (hq : q = x.tdiv y) (hr : r = x.tmod y) :
    Calls Tryz.prog 109 #[.agg #[.bool (decide (x < 0)), .slice A (natL x.natAbs).length c], .agg #[.bool (decide (y < 0)), .slice B (natL y.natAbs).length d]] w (RetTwo w.heap.size w q r) := by
  have h0 : natL y.natAbs ≠ [] := fun e => by
    have := natL_eq_nil.1 e
    omega
  have := exact_Divide (decide (x < 0)) (decide (y < 0)) A B c d (natL x.natAbs) (natL y.natAbs) (canon_natL _) (canon_natL _) h0 (by unfold lz at hx; omega) (by unfold lz at hy; omega) w h g
  rw [ival_at, ival_at, ← hq, ← hr] at this
  exact this
theorem ecommon (x y z : Int) (A B : Option Addr) (c d : Nat) (w : World) (h : Raw w A c (natL x.natAbs)) (g : Raw w B d (natL y.natAbs)) (hx : lz x ≤ 500000000) (hy : lz y ≤ 500000000) (hz : z = ((Nat.gcd x.natAbs y.natAbs : Nat) : Int)) :
    Calls Tryz.prog 98 #[.agg #[.bool (decide (x < 0)), .slice A (natL x.natAbs).length c], .agg #[.bool (decide (y < 0)), .slice B (natL y.natAbs).length d]] w (RetInt w.heap.size w z) := by
  have := exact_Common (decide (x < 0)) (decide (y < 0)) A B c d (natL x.natAbs) (natL y.natAbs) (by unfold lz at hx; omega) (by unfold lz at hy; omega) w h g
  rw [val_natL, val_natL, ← hz] at this
  exact this
theorem ecmp (x y k : Int) (A B : Option Addr) (c d : Nat) (w : World) (h : Raw w A c (natL x.natAbs)) (g : Raw w B d (natL y.natAbs)) (hx : lz x ≤ 500000000) (hy : lz y ≤ 500000000) (hk : k = cmpz x y) :
    Calls Tryz.prog 70 #[.agg #[.bool (decide (x < 0)), .slice A (natL x.natAbs).length c], .agg #[.bool (decide (y < 0)), .slice B (natL y.natAbs).length d]] w fun e w' => e = .returned (.int .i64 k) ∧ Below w.heap.size w w' := by
  have s1 := sgn_z x
  have s2 := sgn_z y
  unfold lz at hx hy
  rcases Int.lt_trichotomy x.sign y.sign with hl | hl | hl
  · have := exact_Cmp_less (decide (x < 0)) (decide (y < 0)) A B c d (natL x.natAbs) (natL y.natAbs) _ _ hl s1 s2 w h g
    have e : k = -1 := by rw [hk]; exact cmpz_lt (sign_lt hl)
    rw [e]; exact this
  · have := exact_Cmp_same (decide (x < 0)) (decide (y < 0)) A B c d (natL x.natAbs) (natL y.natAbs) x.sign (sign_neg x) s1 (by rw [s2, hl]) (canon_natL _) (canon_natL _) (by omega) (by omega) w h g
    have e : (if decide (x < 0) = true then cmpv (val (natL y.natAbs)) (val (natL x.natAbs)) else cmpv (val (natL x.natAbs)) (val (natL y.natAbs))) = k := by
      rw [hk, val_natL, val_natL]
      exact (cmp_like hl).symm
    rw [e] at this
    exact this
  · have := exact_Cmp_more (decide (x < 0)) (decide (y < 0)) A B c d (natL x.natAbs) (natL y.natAbs) _ _ hl s1 s2 w h g
    have e : k = 1 := by rw [hk]; exact cmpz_gt (sign_lt hl)
    rw [e]; exact this
theorem esign (x k : Int) (A : Option Addr) (c : Nat) (w : World) (h : Raw w A c (natL x.natAbs)) (hk : k = x.sign) :
    Calls Tryz.prog 97 #[.agg #[.bool (decide (x < 0)), .slice A (natL x.natAbs).length c]] w fun e w' => e = .returned (.int .i64 k) ∧ Below w.heap.size w w' := by
  have := exact_Sign_any (decide (x < 0)) A c _ w h
  rw [sgn_z, ← hk] at this
  exact this
theorem eof (n z : Int) (hz : z = n) (h1 : -9223372036854775808 ≤ n) (h2 : n ≤ 9223372036854775807) (w : World) : Calls Tryz.prog 74 #[.int .i64 n] w (RetInt w.heap.size w z) := by
  rw [hz]; exact exact_Of n h1 h2 w
/- Variables that hold numbers. -/

structure NV (w : World) (g : Nat) (z : Int) (A : Option Addr) (c : Nat) : Prop where
  pair : Pair w g 25 (.bool (decide (z < 0))) (.slice A (natL z.natAbs).length c)
  raw : Raw w A c (natL z.natAbs)
theorem NV.below {w w' : World} {g : Nat} {z : Int} {A : Option Addr} {c : Nat} (h : NV w g z A c) (hb : Below w.heap.size w w') : NV w' g z A c := ⟨h.pair.below hb, h.raw.below hb⟩
theorem NV.of {w w' : World} {g : Nat} {z : Int} {A : Option Addr} {c : Nat} (h : Raw w A c (natL z.natAbs)) (hb : Below w.heap.size w w') (p : Pair w' g 25 (.bool (decide (z < 0))) (.slice A (natL z.natAbs).length c)) : NV w' g z A c := ⟨p, h.below hb⟩
structure NR (w : World) (g : Nat) (n : Bool) (A : Option Addr) (c : Nat) (xs : List Nat) : Prop where
  pair : Pair w g 25 (.bool n) (.slice A xs.length c)
  raw : Raw w A c xs
/- Numbers at hand where memory only grows; stores that change nothing. -/

theorem KeptV.cells {B : Nat} {w w' : World} (k : KeptV B [] w w') : ∀ p : Addr, p.block < w.heap.size → w'.cell? p = w.cell? p := fun p hp => by
  rcases k.block p.block hp with e | ⟨-, T, hT, -⟩
  · unfold World.cell?; rw [e]
  · cases hT
theorem IntAt.keptNone {B : Nat} {w w' : World} {v : Value} {x : Int} (h : IntAt w v x) (k : KeptV B [] w w') : IntAt w' v x := by
  obtain ⟨A, c, h1, h2⟩ := h.form
  exact ⟨A, c, h1, h2.limbs, h2.cap, h2.most, (h2.reads.keep k.cells).more k.size⟩

theorem IntOwn.rawAt {w : World} {base c : Nat} {A : Option Addr} {x : Int} (h : IntOwn w base (.agg #[.bool (decide (x < 0)), .slice A (natL x.natAbs).length c]) x) : Raw w A c (natL x.natAbs) := by
  obtain ⟨A', c', h1, h2⟩ := h.raw
  injection h1 with h1
  simp at h1
  obtain ⟨rfl, rfl⟩ := h1
  exact h2
theorem IntOwn.pairT {w : World} {base g : Nat} {v a b : Value} {x : Int} (h : IntOwn w base v x) (p : Pair w g 25 a b) (y z : Value) : IntOwn ((w.setCell ⟨g, 0, none⟩ y).setCell ⟨g, 1, none⟩ z) base v x := by
  obtain ⟨A, c, h1, h2, h3, h4⟩ := h.form
  exact ⟨A, c, h1, h2, h3, own_pair h4 (own_blk_ne h4 p.blk (by decide))⟩
/- Fractions in memory: four cells; what a fraction in lowest terms is. -/

structure Quad (w : World) (g : Nat) (a b c d : Value) : Prop where
  blk : Blk w g 27 #[a, b, c, d]
theorem Quad.new (w : World) (a b c d : Value) : Quad (w.alloc (.cells #[a, b, c, d] 27)) w.heap.size a b c d := ⟨Blk.new w _ _⟩
theorem Quad.alloc {w : World} {g : Nat} {a b c d : Value} (h : Quad w g a b c d) (o : Obj) : Quad (w.alloc o) g a b c d := ⟨h.blk.alloc o⟩
theorem Quad.below {w w' : World} {g : Nat} {a b c d : Value} (h : Quad w g a b c d) (hb : Below w.heap.size w w') : Quad w' g a b c d := ⟨h.blk.below hb h.blk.lt⟩
theorem Quad.facts {w : World} {g : Nat} {a b c d : Value} (h : Quad w g a b c d) : g < w.heap.size ∧ w.cell? ⟨g, 0, none⟩ = some a ∧ w.cell? ⟨g, 1, none⟩ = some b ∧ w.cell? ⟨g, 2, none⟩ = some c ∧ w.cell? ⟨g, 3, none⟩ = some d ∧
    w.frozen? ⟨g, 0, none⟩ = false ∧ w.frozen? ⟨g, 1, none⟩ = false ∧ w.frozen? ⟨g, 2, none⟩ = false ∧ w.frozen? ⟨g, 3, none⟩ = false :=
  ⟨h.blk.lt, h.blk.cell 0, h.blk.cell 1, h.blk.cell 2, h.blk.cell 3, h.blk.frozen 0, h.blk.frozen 1, h.blk.frozen 2, h.blk.frozen 3⟩
theorem Quad.store {w : World} {g : Nat} {a b c d : Value} (h : Quad w g a b c d) (x y z u : Value) : Quad ((((w.setCell ⟨g, 0, none⟩ x).setCell ⟨g, 1, none⟩ y).setCell ⟨g, 2, none⟩ z).setCell ⟨g, 3, none⟩ u) g x y z u := ⟨h.blk.store4 rfl x y z u⟩
structure FV (w : World) (g : Nat) (n d : Int) (A : Option Addr) (c : Nat) (B : Option Addr) (e : Nat) : Prop where
  quad : Quad w g (.bool (decide (n < 0))) (.slice A (natL n.natAbs).length c) (.bool (decide (d < 0))) (.slice B (natL d.natAbs).length e)
  num : Raw w A c (natL n.natAbs)
  den : Raw w B e (natL d.natAbs)
theorem FV.below {w w' : World} {g : Nat} {n d : Int} {A : Option Addr} {c : Nat} {B : Option Addr} {e : Nat} (h : FV w g n d A c B e) (hb : Below w.heap.size w w') : FV w' g n d A c B e := ⟨h.quad.below hb, h.num.below hb, h.den.below hb⟩
structure FracAt (w : World) (v : Value) (n d : Int) : Prop where
  form : ∃ A c B e, v = .agg #[.bool (decide (n < 0)), .slice A (natL n.natAbs).length c, .bool (decide (d < 0)), .slice B (natL d.natAbs).length e] ∧ Raw w A c (natL n.natAbs) ∧ Raw w B e (natL d.natAbs)
theorem FracAt.below {w w' : World} {v : Value} {n d : Int} (h : FracAt w v n d) (hb : Below w.heap.size w w') : FracAt w' v n d := by
  obtain ⟨A, c, B, e, h1, h2, h3⟩ := h.form
  exact ⟨A, c, B, e, h1, h2.below hb, h3.below hb⟩
def RetFrac (w : World) (n d : Int) (e : Ending) (w' : World) : Prop := ∃ v, e = .returned v ∧ FracAt w' v n d ∧ Below w.heap.size w w'
structure FracOwn (w : World) (base : Nat) (v : Value) (n d : Int) : Prop where
  form : ∃ A c B e, v = .agg #[.bool (decide (n < 0)), .slice A (natL n.natAbs).length c, .bool (decide (d < 0)), .slice B (natL d.natAbs).length e] ∧ IntOwn w base (.agg #[.bool (decide (n < 0)), .slice A (natL n.natAbs).length c]) n ∧ IntOwn w base (.agg #[.bool (decide (d < 0)), .slice B (natL d.natAbs).length e]) d ∧ ∀ g, (Value.slice A (natL n.natAbs).length c).ownBlock = some g → (Value.slice B (natL d.natAbs).length e).ownBlock ≠ some g
def RetFracOwn (base : Nat) (w : World) (n d : Int) (e : Ending) (w' : World) : Prop := ∃ v, e = .returned v ∧ FracOwn w' base v n d ∧ Below w.heap.size w w'
def RetFracOwn2 (base : Nat) (w : World) (n d k : Int) (e : Ending) (w' : World) : Prop := ∃ v, e = .returned (.tuple #[v, .int .i64 k]) ∧ FracOwn w' base v n d ∧ Below w.heap.size w w'

def gcdZ (n d : Int) : Int := ((Nat.gcd n.natAbs d.natAbs : Nat) : Int)
def lowN (n d : Int) : Int := if d < 0 then -(n.tdiv (gcdZ n d)) else n.tdiv (gcdZ n d)
def lowD (n d : Int) : Int := if d < 0 then -(d.tdiv (gcdZ n d)) else d.tdiv (gcdZ n d)
theorem gcdZ_pos {n d : Int} (h : d ≠ 0) : 0 < gcdZ n d := by
  unfold gcdZ
  have := Nat.gcd_pos_of_pos_right n.natAbs (show 0 < d.natAbs by omega)
  omega
theorem gcdZ_lz {n d : Int} (h : d ≠ 0) : lz (gcdZ n d) ≤ lz d := lz_mono (by
  unfold gcdZ
  rw [Int.natAbs_natCast]
  exact Nat.gcd_le_right _ (by omega))
theorem tdiv_lz (n g : Int) : lz (n.tdiv g) ≤ lz n := lz_mono (by rw [Int.natAbs_tdiv]; exact Nat.div_le_self _ _)
theorem tdiv_sign {n d : Int} (h : d ≠ 0) : (d.tdiv (gcdZ n d)).sign = d.sign := by
  have hp := gcdZ_pos (n := n) h
  have hd : gcdZ n d ∣ d := by
    unfold gcdZ
    exact Int.natAbs_dvd_natAbs.1 (by rw [Int.natAbs_natCast]; exact Nat.gcd_dvd_right _ _)
  obtain ⟨k, hk⟩ := hd
  have e : d.tdiv (gcdZ n d) = k := by
    conv => lhs; arg 1; rw [hk]
    exact Int.mul_tdiv_cancel_left _ (by omega)
  rw [e]
  conv => rhs; rw [hk]
  rw [Int.sign_mul, Int.sign_eq_one_of_pos hp, Int.one_mul]
/- Frac of a Book: the two numbers' limbs are put into it. -/

end Go.Proofs.YtmcnmoljliggfaaGreatDoor
