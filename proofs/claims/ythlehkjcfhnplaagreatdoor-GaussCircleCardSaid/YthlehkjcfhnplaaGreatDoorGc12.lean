/- Several texts in one: RefDivide, RefQuo, RefDouble, RefCommon. -/
import Derived.Test.YthlehkjcfhnplaaGreatDoorGc11
import Derived.Deep.LoopGhost
set_option maxRecDepth 100000
set_option maxHeartbeats 8000000
/- divide of the references: long division, limb by limb. -/
namespace Go.Proofs.YthlehkjcfhnplaaGreatDoor
open Go.RowKit

def RetNN (base : Nat) (w : World) (n1 n2 : Nat) (e : Ending) (w' : World) : Prop := ∃ v1 v2, e = .returned (.tuple #[v1, v2]) ∧ OwnN w' base v1 n1 ∧ OwnN w' base v2 n2 ∧ Below w.heap.size w w'

theorem own_setFar {w : World} {base : Nat} {e : TypeId} {size n g k : Nat} {v : Value} {xs : List Value} (h : w.ownsRow base e size v n xs) (hg : g < base) (u : Value) : (w.setCell ⟨g, k, none⟩ u).ownsRow base e size v n xs := by
  refine ⟨h.1, ?_⟩
  rcases h.2 with h2 | ⟨b, cap, cur, h1, h2, h3, h4⟩
  · exact .inl h2
  · exact .inr ⟨b, cap, cur, h1, h2, (Blk.far (t := e) h3 (p := ⟨g, k, none⟩) (show b ≠ g by omega) u), h4⟩
theorem OwnN.far {w : World} {base n g k : Nat} {v : Value} (h : OwnN w base v n) (hg : g < base) (u : Value) : OwnN (w.setCell ⟨g, k, none⟩ u) base v n := by
  obtain ⟨A, c, h1, h2, h3, h4⟩ := h.form
  exact ⟨A, c, h1, h2, h3, own_setFar h4 hg u⟩

structure RDiv (w wr : World) (g : Nat) (xs ys : List Nat) (v : Value) (k R : Nat) (zs : List Nat) : Prop where
  len : zs.length = xs.length
  limbs : Limbs zs
  row : Row wr g zs
  low : Below w.heap.size w wr
  own : OwnN wr (g + 1) v R
  eq : val (zs.drop k) * val ys + R = val (xs.drop k)
  lt : R < val ys
  nought : ∀ j, j < k → at0 zs j = 0
theorem RDiv.skip {w wr wr' : World} {g : Nat} {xs ys : List Nat} {v v' : Value} {k R : Nat} {zs : List Nat} (h : RDiv w wr g xs ys v (k + 1) R zs) (hk : k < xs.length) (hrow : Row wr' g zs) (hlow : Below w.heap.size w wr') (hown : OwnN wr' (g + 1) v' (xs[k] + 4294967296 * R)) (hlt : xs[k] + 4294967296 * R < val ys) :
    RDiv w wr' g xs ys v' k (xs[k] + 4294967296 * R) zs := by
  have hk2 : k < zs.length := by rw [h.len]; exact hk
  have h0 : zs[k] = 0 := by rw [← at0_lt hk2]; exact h.nought k (Nat.lt_succ_self _)
  refine ⟨h.len, h.limbs, hrow, hlow, hown, ?_, hlt, fun j hj => h.nought j (by omega)⟩
  rw [val_drop_more hk2, val_drop_more hk, h0, ← h.eq, Nat.zero_add, Nat.mul_add, Nat.mul_assoc]
  omega
theorem RDiv.take {w wr wr' : World} {g : Nat} {xs ys : List Nat} {v v' : Value} {k R q : Nat} {zs : List Nat} (h : RDiv w wr g xs ys v (k + 1) R zs) (hk : k < xs.length) (hq : q = (xs[k] + 4294967296 * R) / val ys) (hq2 : q < 4294967296) (hrow : Row wr' g (zs.set k q)) (hlow : Below w.heap.size w wr') (hown : OwnN wr' (g + 1) v' (xs[k] + 4294967296 * R - val ys * q)) :
    RDiv w wr' g xs ys v' k (xs[k] + 4294967296 * R - val ys * q) (zs.set k q) := by
  have hk2 : k < zs.length := by rw [h.len]; exact hk
  have hY : 0 < val ys := by have := h.lt; omega
  have hd := Nat.div_add_mod (xs[k] + 4294967296 * R) (val ys)
  have hm := Nat.mod_lt (xs[k] + 4294967296 * R) hY
  rw [← hq] at hd
  refine ⟨by rw [List.length_set]; exact h.len, limbs_set h.limbs hq2, hrow, hlow, hown, ?_, by omega, fun j hj => ?_⟩
  · rw [val_drop_set hk2, val_drop_more hk, ← h.eq, Nat.add_mul, Nat.mul_assoc 4294967296, Nat.mul_add, Nat.mul_comm q]
    omega
  · rw [at0_set_ne (by omega)]; exact h.nought j (by omega)
theorem RDiv.stop {w wr : World} {g : Nat} {xs ys : List Nat} {v : Value} {R : Nat} {zs : List Nat} (h : RDiv w wr g xs ys v 0 R zs) : val zs = val xs / val ys ∧ R = val xs % val ys := by
  have e := h.eq
  have hl := h.lt
  simp only [List.drop_zero] at e
  have hY : 0 < val ys := by omega
  rw [← e]
  constructor
  · rw [Nat.add_comm, Nat.add_mul_div_right _ _ hY, Nat.div_eq_of_lt hl, Nat.zero_add]
  · rw [Nat.mul_add_mod_self_right, Nat.mod_eq_of_lt hl]

/- Divide of the references. -/

/- Double of the references: times a power of two. -/

/- Common of the references: the greatest number that goes into both, by halving. -/

structure Cm1 (w wr : World) (X Y : Nat) (A1 : Option Addr) (c1 a : Nat) (A2 : Option Addr) (c2 b t : Nat) : Prop where
  ra : Raw wr A1 c1 (natL a)
  rb : Raw wr A2 c2 (natL b)
  low : Below w.heap.size w wr
  pa : 0 < a
  pb : 0 < b
  gcd : Nat.gcd a b * 2 ^ t = Nat.gcd X Y
  la : a * 2 ^ t ≤ X
  lb : b ≤ Y
structure Cm2 (w wr : World) (g : Nat) (A1 : Option Addr) (c1 a : Nat) (A2 : Option Addr) (c2 b L : Nat) : Prop where
  ra : Raw wr A1 c1 (natL a)
  rb : Raw wr A2 c2 (natL b)
  low : Below w.heap.size w wr
  pb : 0 < b
  odd : a % 2 = 1 ∨ b % 2 = 1
  gcd : Nat.gcd a b = g
  la : (natL a).length ≤ L
  lb : (natL b).length ≤ L
end Go.Proofs.YthlehkjcfhnplaaGreatDoor
