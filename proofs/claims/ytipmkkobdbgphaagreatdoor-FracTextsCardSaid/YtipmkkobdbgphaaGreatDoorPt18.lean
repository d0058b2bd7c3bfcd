/- Several texts in one: Quad, BitsVal, BitsLz, RCommon. -/
import Derived.Test.YtipmkkobdbgphaaGreatDoorPt17
import Derived.Test.YtipmkkobdbgphaaGreatDoorPt05
import Derived.Test.YtipmkkobdbgphaaGreatDoorPt10
import Derived.Test.YtipmkkobdbgphaaGreatDoorPt15
set_option maxRecDepth 100000
set_option maxHeartbeats 8000000
/- Fractions in memory: four cells; what a fraction in lowest terms is. -/
namespace Go.Proofs.YtipmkkobdbgphaaGreatDoor
open Go.RowKit

structure Quad (w : World) (g : Nat) (a b c d : Value) : Prop where
  blk : Blk w g 27 #[a, b, c, d]
theorem Quad.new (w : World) (a b c d : Value) : Quad (w.alloc (.cells #[a, b, c, d] 27)) w.heap.size a b c d := ⟨Blk.new w _ _⟩
theorem Quad.alloc {w : World} {g : Nat} {a b c d : Value} (h : Quad w g a b c d) (o : Obj) : Quad (w.alloc o) g a b c d := ⟨h.blk.alloc o⟩
theorem Quad.below {w w' : World} {g : Nat} {a b c d : Value} (h : Quad w g a b c d) (hb : Below w.heap.size w w') : Quad w' g a b c d := ⟨h.blk.below hb h.blk.lt⟩
theorem Quad.facts {w : World} {g : Nat} {a b c d : Value} (h : Quad w g a b c d) : g < w.heap.size ∧ w.cell? ⟨g, 0, none⟩ = some a ∧ w.cell? ⟨g, 1, none⟩ = some b ∧ w.cell? ⟨g, 2, none⟩ = some c ∧ w.cell? ⟨g, 3, none⟩ = some d ∧
    w.frozen? ⟨g, 0, none⟩ = false ∧ w.frozen? ⟨g, 1, none⟩ = false ∧ w.frozen? ⟨g, 2, none⟩ = false ∧ w.frozen? ⟨g, 3, none⟩ = false :=
  ⟨h.blk.lt, h.blk.cell 0, h.blk.cell 1, h.blk.cell 2, h.blk.cell 3, h.blk.frozen 0, h.blk.frozen 1, h.blk.frozen 2, h.blk.frozen 3⟩
theorem Quad.store {w : World} {g : Nat} {a b c d : Value} (h : Quad w g a b c d) (x y z u : Value) : Quad ((((w.setCell ⟨g, 0, none⟩ x).setCell ⟨g, 1, none⟩ y).setCell ⟨g, 2, none⟩ z).setCell ⟨g, 3, none⟩ u) g x y z u := ⟨h.blk.store4 rfl x y z u⟩
theorem Blk.mem {w : World} {g : Nat} {t : TypeId} {cs : Array Value} (h : Blk w g t cs) {a : Addr} {v : Value} (hc : w.cell? a = some v) (e : a.block = g) : v ∈ cs := by
  subst e
  unfold Blk at h
  unfold World.cell? at hc
  rw [h] at hc
  simp only at hc
  split at hc
  · cases hc
  · exact Array.mem_of_getElem? hc
theorem Raw.keepFar {w w' : World} {A : Option Addr} {c g : Nat} {xs : List Nat} (h : Raw w A c xs) (hs : w.heap.size ≤ w'.heap.size) (hg : ∀ b, b ≠ g → w'.heap[b]? = w.heap[b]?) (hno : ∀ a k n, w.cell? a = some (.int k n) → a.block ≠ g) : Raw w' A c xs := by
  refine ⟨h.limbs, h.cap, h.most, h.reads.1, fun h0 => ?_⟩
  obtain ⟨ad, e, hb, hc⟩ := h.reads.2 h0
  refine ⟨ad, e, Nat.lt_of_lt_of_le hb hs, fun j u hu => ?_⟩
  have h1 := hc j u hu
  have h2 : (ad.add j).block ≠ g := by
    have hj : j < xs.length := by
      have := (List.getElem?_eq_some_iff.1 hu).1
      rwa [cellsU_length] at this
    rw [cellsU_get hj] at hu
    rw [← hu] at h1
    exact hno _ _ _ h1
  unfold World.cell? at h1 ⊢
  rw [hg _ h2]
  exact h1
theorem Raw.quad {w : World} {A : Option Addr} {c g : Nat} {xs : List Nat} (h : Raw w A c xs) {b1 b2 : Bool} {A1 A2 : Option Addr} {n1 n2 c1 c2 : Nat} (q : Quad w g (.bool b1) (.slice A1 n1 c1) (.bool b2) (.slice A2 n2 c2)) (x y z u : Value) :
    Raw ((((w.setCell ⟨g, 0, none⟩ x).setCell ⟨g, 1, none⟩ y).setCell ⟨g, 2, none⟩ z).setCell ⟨g, 3, none⟩ u) A c xs := by
  refine h.keepFar (g := g) (by simp [World.setCell]) (fun b hb => ?_) (fun a k n hc e => ?_)
  · rw [Below.heap_setCell _ ⟨g, 3, none⟩ u b hb, Below.heap_setCell _ ⟨g, 2, none⟩ z b hb, Below.heap_setCell _ ⟨g, 1, none⟩ y b hb, Below.heap_setCell _ ⟨g, 0, none⟩ x b hb]
  · have := q.blk.mem hc e
    simp at this
theorem Raw.pairT {w : World} {A : Option Addr} {c g : Nat} {xs : List Nat} (h : Raw w A c xs) {t : TypeId} {b1 : Bool} {A1 : Option Addr} {n1 c1 : Nat} (q : Pair w g t (.bool b1) (.slice A1 n1 c1)) (x y : Value) :
    Raw ((w.setCell ⟨g, 0, none⟩ x).setCell ⟨g, 1, none⟩ y) A c xs := by
  refine h.keepFar (g := g) (by simp [World.setCell]) (fun b hb => ?_) (fun a k n hc e => ?_)
  · rw [Below.heap_setCell _ ⟨g, 1, none⟩ y b hb, Below.heap_setCell _ ⟨g, 0, none⟩ x b hb]
  · have := q.blk.mem hc e
    simp at this
structure FV (w : World) (g : Nat) (n d : Int) (A : Option Addr) (c : Nat) (B : Option Addr) (e : Nat) : Prop where
  quad : Quad w g (.bool (decide (n < 0))) (.slice A (natL n.natAbs).length c) (.bool (decide (d < 0))) (.slice B (natL d.natAbs).length e)
  num : Raw w A c (natL n.natAbs)
  den : Raw w B e (natL d.natAbs)
theorem FV.below {w w' : World} {g : Nat} {n d : Int} {A : Option Addr} {c : Nat} {B : Option Addr} {e : Nat} (h : FV w g n d A c B e) (hb : Below w.heap.size w w') : FV w' g n d A c B e := ⟨h.quad.below hb, h.num.below hb, h.den.below hb⟩
structure FracAt (w : World) (v : Value) (n d : Int) : Prop where
  form : ∃ A c B e, v = .agg #[.bool (decide (n < 0)), .slice A (natL n.natAbs).length c, .bool (decide (d < 0)), .slice B (natL d.natAbs).length e] ∧ Raw w A c (natL n.natAbs) ∧ Raw w B e (natL d.natAbs)
theorem FracAt.below {w w' : World} {v : Value} {n d : Int} (h : FracAt w v n d) (hb : Below w.heap.size w w') : FracAt w' v n d := by
  obtain ⟨A, c, B, e, h1, h2, h3⟩ := h.form
  exact ⟨A, c, B, e, h1, h2.below hb, h3.below hb⟩
def RetFrac (w : World) (n d : Int) (e : Ending) (w' : World) : Prop := ∃ v, e = .returned v ∧ FracAt w' v n d ∧ Below w.heap.size w w'
structure FracOwn (w : World) (base : Nat) (v : Value) (n d : Int) : Prop where
  form : ∃ A c B e, v = .agg #[.bool (decide (n < 0)), .slice A (natL n.natAbs).length c, .bool (decide (d < 0)), .slice B (natL d.natAbs).length e] ∧ IntOwn w base (.agg #[.bool (decide (n < 0)), .slice A (natL n.natAbs).length c]) n ∧ IntOwn w base (.agg #[.bool (decide (d < 0)), .slice B (natL d.natAbs).length e]) d ∧ ∀ g, (Value.slice A (natL n.natAbs).length c).ownBlock = some g → (Value.slice B (natL d.natAbs).length e).ownBlock ≠ some g
def RetFracOwn (base : Nat) (w : World) (n d : Int) (e : Ending) (w' : World) : Prop := ∃ v, e = .returned v ∧ FracOwn w' base v n d ∧ Below w.heap.size w w'
def RetFracOwn2 (base : Nat) (w : World) (n d k : Int) (e : Ending) (w' : World) : Prop := ∃ v, e = .returned (.tuple #[v, .int .i64 k]) ∧ FracOwn w' base v n d ∧ Below w.heap.size w w'

def gcdZ (n d : Int) : Int := ((Nat.gcd n.natAbs d.natAbs : Nat) : Int)
def lowN (n d : Int) : Int := if d < 0 then -(n.tdiv (gcdZ n d)) else n.tdiv (gcdZ n d)
def lowD (n d : Int) : Int := if d < 0 then -(d.tdiv (gcdZ n d)) else d.tdiv (gcdZ n d)
theorem gcdZ_pos {n d : Int} (h : d ≠ 0) : 0 < gcdZ n d := by
  unfold gcdZ
  have := Nat.gcd_pos_of_pos_right n.natAbs (show 0 < d.natAbs by omega)
  omega
theorem gcdZ_lz {n d : Int} (h : d ≠ 0) : lz (gcdZ n d) ≤ lz d := lz_mono (by
  unfold gcdZ
  rw [Int.natAbs_natCast]
  exact Nat.gcd_le_right _ (by omega))
theorem tdiv_lz (n g : Int) : lz (n.tdiv g) ≤ lz n := lz_mono (by rw [Int.natAbs_tdiv]; exact Nat.div_le_self _ _)
theorem tdiv_sign {n d : Int} (h : d ≠ 0) : (d.tdiv (gcdZ n d)).sign = d.sign := by
  have hp := gcdZ_pos (n := n) h
  have hd : gcdZ n d ∣ d := by
    unfold gcdZ
    exact Int.natAbs_dvd_natAbs.1 (by rw [Int.natAbs_natCast]; exact Nat.gcd_dvd_right _ _)
  obtain ⟨k, hk⟩ := hd
  have e : d.tdiv (gcdZ n d) = k := by
    conv => lhs; arg 1; rw [hk]
    exact Int.mul_tdiv_cancel_left _ (by omega)
  rw [e]
  conv => rhs; rw [hk]
  rw [Int.sign_mul, Int.sign_eq_one_of_pos hp, Int.one_mul]
/- How many bits a number has, told by the number. -/

theorem bits_val {n : Nat} (hn : 0 < n) : 1 ≤ bitsI (natL n) ∧ 2 ^ (bitsI (natL n) - 1) ≤ n ∧ n < 2 ^ bitsI (natL n) := by
  have hl := limbs_natL n
  have hc := canon_natL n
  have hne : natL n ≠ [] := fun e => by have := natL_eq_nil.1 e; omega
  obtain ⟨ini, t, e⟩ : ∃ ini t, natL n = ini ++ [t] := ⟨(natL n).dropLast, (natL n).getLast hne, (List.dropLast_concat_getLast hne).symm⟩
  have hv := val_natL n
  rw [e] at hl hc hv
  have ht0 : t ≠ 0 := hc t (by simp)
  have ht := (limbs_append.1 hl).2 t (by simp)
  obtain ⟨h1, h2, h3, h4⟩ := bitLen32 t ht ht0
  have hb : bitsI (natL n) = 32 * ini.length + Lib.bitLen t := by
    unfold bitsI
    rw [e, if_neg (by simp)]
    simp
  rw [val_append] at hv
  have hs : val [t] = t := by simp [val]
  rw [hs] at hv
  have hlow := val_lt (limbs_append.1 hl).1
  rw [hb]
  rw [show (4294967296 : Nat) = 2 ^ 32 by decide, ← Nat.pow_mul] at hv hlow
  generalize hp : 32 * ini.length = p at *
  generalize hl' : Lib.bitLen t = l at *
  have e1 : 2 ^ (p + l) = 2 ^ p * 2 ^ l := Nat.pow_add _ _ _
  have e2 : 2 ^ l = 2 * 2 ^ (l - 1) := by rw [← Nat.pow_succ']; congr 1; omega
  have e3 : 2 ^ (p + l - 1) = 2 ^ p * 2 ^ (l - 1) := by rw [← Nat.pow_add]; congr 1; omega
  refine ⟨by omega, ?_, ?_⟩
  · rw [e3]
    have : 2 ^ p * 2 ^ (l - 1) ≤ 2 ^ p * t := Nat.mul_le_mul_left _ (by omega)
    omega
  · rw [e1]
    have : 2 ^ p * (t + 1) ≤ 2 ^ p * 2 ^ l := Nat.mul_le_mul_left _ h4
    rw [Nat.mul_add, Nat.mul_one] at this
    omega
/- How many bits, how many limbs. -/

def bz (x : Int) : Nat := bitsI (natL x.natAbs)
/- Common of the references, told by the numbers alone. -/

theorem rcommon (x y z : Int) (A B : Option Addr) (c d : Nat) (w : World) (h : Raw w A c (natL x.natAbs)) (g : Raw w B d (natL y.natAbs)) (hx : lz x ≤ 30000) (hy : lz y ≤ 30000) (hz : z = gcdZ x y) :
    Calls Tryz.prog 243 #[.agg #[.bool (decide (x < 0)), .slice A (natL x.natAbs).length c], .agg #[.bool (decide (y < 0)), .slice B (natL y.natAbs).length d]] w (RetAt w z) := by
  refine (ref_Common (decide (x < 0)) (decide (y < 0)) A B c d _ _ (canon_natL _) (canon_natL _) hx hy w h g).mono ?_
  rintro e w' ⟨v, rfl, hv, hb⟩
  rw [val_natL, val_natL] at hv
  have e1 : ((Nat.gcd x.natAbs y.natAbs : Nat) : Int) = z := by rw [hz]; rfl
  rw [e1] at hv
  refine ⟨v, rfl, ?_, hb⟩
  rcases hv with h1 | ⟨h1, h2⟩ | ⟨h1, h2⟩
  · exact h1.at_
  · rw [h1, h2]; exact IntAt.sv (h.below hb)
  · rw [h1, h2]; exact IntAt.sv (g.below hb)
theorem gcdZ_comm (x y : Int) : gcdZ x y = gcdZ y x := by unfold gcdZ; rw [Nat.gcd_comm]
theorem gcdZ_rest (x y : Int) : gcdZ y (x.tmod y) = gcdZ x y := by
  unfold gcdZ
  rw [Int.natAbs_tmod, Nat.gcd_comm y.natAbs, Nat.gcd_rec y.natAbs x.natAbs |>.symm, Nat.gcd_comm]
theorem bz_one {y : Int} (h : bz y = 1) : y.natAbs = 1 := by
  have h0 : y ≠ 0 := fun e => by rw [e] at h; revert h; decide
  have := bits_val (show 0 < y.natAbs by omega)
  have e : bitsI (natL y.natAbs) = 1 := h
  rw [e] at this
  omega
theorem gcdZ_one {x y : Int} (h : y.natAbs = 1) : gcdZ x y = 1 := by
  unfold gcdZ; rw [h, Nat.gcd_one_right]; rfl
theorem tmod_lz (n g : Int) : lz (n.tmod g) ≤ lz n := lz_mono (by rw [Int.natAbs_tmod]; exact Nat.mod_le _ _)
end Go.Proofs.YtipmkkobdbgphaaGreatDoor
