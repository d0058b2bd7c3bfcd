/- Several texts in one: RefQuo, RefDouble, RefCommon. -/
import Derived.Test.YtpcdiijmhllejaaDoorBk15
import Derived.Deep.LoopGhost
/- Divide of the references. -/
namespace Go.Proofs.YtpcdiijmhllejaaDoor
open Go.RowKit

end Go.Proofs.YtpcdiijmhllejaaDoor

/- Double of the references: times a power of two. -/
namespace Go.Proofs.YtpcdiijmhllejaaDoor
open Go.RowKit

theorem ival_nought {n1 : Bool} {xs : List Nat} (h : val xs = 0) : ival n1 xs = 0 := by unfold ival; rw [h]; cases n1 <;> rfl
theorem ival_mul (n1 : Bool) (xs : List Nat) (m : Nat) : ival n1 xs * (m : Int) = if n1 then -((val xs * m : Nat) : Int) else ((val xs * m : Nat) : Int) := by
  unfold ival
  cases n1 <;> simp [Int.neg_mul]

end Go.Proofs.YtpcdiijmhllejaaDoor

/- Common of the references: the greatest number that goes into both, by halving. -/
namespace Go.Proofs.YtpcdiijmhllejaaDoor
open Go.RowKit

theorem gcd_even {a b : Nat} (ha : a % 2 = 0) (hb : b % 2 = 0) : Nat.gcd a b = 2 * Nat.gcd (a / 2) (b / 2) := by
  have e1 : a = 2 * (a / 2) := by omega
  have e2 : b = 2 * (b / 2) := by omega
  conv => lhs; rw [e1, e2]
  exact Nat.gcd_mul_left 2 _ _
theorem gcd_half_left {a b : Nat} (ha : a % 2 = 0) (hb : b % 2 = 1) : Nat.gcd (a / 2) b = Nat.gcd a b := by
  have e1 : a = 2 * (a / 2) := by omega
  conv => rhs; rw [e1]
  have hc : Nat.Coprime 2 b := by
    rw [Nat.coprime_iff_gcd_eq_one, Nat.gcd_rec, hb]; rfl
  exact (Nat.Coprime.gcd_mul_left_cancel (a / 2) hc).symm
theorem gcd_half_right {a b : Nat} (ha : a % 2 = 1) (hb : b % 2 = 0) : Nat.gcd a (b / 2) = Nat.gcd a b := by
  rw [Nat.gcd_comm, gcd_half_left hb ha, Nat.gcd_comm]
theorem gcd_less {a b : Nat} (h : b ≤ a) : Nat.gcd (a - b) b = Nat.gcd a b := Nat.gcd_sub_self_left h

/-- While the twos are taken out of both. -/
structure Cm1 (w wr : World) (X Y : Nat) (A1 : Option Addr) (c1 a : Nat) (A2 : Option Addr) (c2 b t : Nat) : Prop where
  ra : Raw wr A1 c1 (natL a)
  rb : Raw wr A2 c2 (natL b)
  low : Below w.heap.size w wr
  pa : 0 < a
  pb : 0 < b
  gcd : Nat.gcd a b * 2 ^ t = Nat.gcd X Y
  la : a * 2 ^ t ≤ X
  lb : b ≤ Y
theorem Cm1.next {w wr wr' : World} {X Y : Nat} {A1 A2 A1' A2' : Option Addr} {c1 a c2 b t c1' c2' : Nat} (h : Cm1 w wr X Y A1 c1 a A2 c2 b t) (ha : a % 2 = 0) (hb : b % 2 = 0) (r1 : Raw wr' A1' c1' (natL (a / 2))) (r2 : Raw wr' A2' c2' (natL (b / 2))) (hl : Below w.heap.size w wr') : Cm1 w wr' X Y A1' c1' (a / 2) A2' c2' (b / 2) (t + 1) := by
  have h1 := h.pa
  have h2 := h.pb
  refine ⟨r1, r2, hl, by omega, by omega, ?_, ?_, by have := h.lb; omega⟩
  · rw [← h.gcd, gcd_even ha hb, Nat.pow_succ]
    generalize 2 ^ t = p
    rw [Nat.mul_comm p 2, ← Nat.mul_assoc, Nat.mul_comm _ 2]
  · have := h.la
    rw [Nat.pow_succ]
    have e : a / 2 * (2 ^ t * 2) = (a / 2 * 2) * 2 ^ t := by rw [Nat.mul_comm (2 ^ t), Nat.mul_assoc]
    rw [e, show a / 2 * 2 = a by omega]
    exact this
theorem twos_le {X a t L : Nat} (ha : 0 < a) (h : a * 2 ^ t ≤ X) (hX : (natL X).length ≤ L) : t ≤ 32 * L := by
  have h1 : X < 2 ^ (32 * L) := by
    have := natL_length_le.1 hX
    rw [show 4294967296 = 2 ^ 32 by decide, ← Nat.pow_mul] at this
    exact this
  have h2 : 2 ^ t ≤ X := Nat.le_trans (Nat.le_mul_of_pos_left _ ha) h
  have h3 : 2 ^ t < 2 ^ (32 * L) := by omega
  exact Nat.le_of_lt ((Nat.pow_lt_pow_iff_right (by omega)).1 h3)

theorem odd_of {a b : Nat} (h : ¬ (a % 2 = 0 ∧ b % 2 = 0)) : a % 2 = 1 ∨ b % 2 = 1 := by omega
/-- While the lesser is taken from the greater. -/
structure Cm2 (w wr : World) (g : Nat) (A1 : Option Addr) (c1 a : Nat) (A2 : Option Addr) (c2 b L : Nat) : Prop where
  ra : Raw wr A1 c1 (natL a)
  rb : Raw wr A2 c2 (natL b)
  low : Below w.heap.size w wr
  pb : 0 < b
  odd : a % 2 = 1 ∨ b % 2 = 1
  gcd : Nat.gcd a b = g
  la : (natL a).length ≤ L
  lb : (natL b).length ≤ L
theorem Cm2.halfa {w wr wr' : World} {g : Nat} {A1 A2 A1' : Option Addr} {c1 a c2 b L c1' : Nat} (h : Cm2 w wr g A1 c1 a A2 c2 b L) (ha : a % 2 = 0) (r1 : Raw wr' A1' c1' (natL (a / 2))) (hb : Below wr.heap.size wr wr') : Cm2 w wr' g A1' c1' (a / 2) A2 c2 b L := by
  have ho : b % 2 = 1 := by have := h.odd; omega
  exact ⟨r1, h.rb.below hb, belowTo h.low hb, h.pb, .inr ho, by rw [gcd_half_left ha ho]; exact h.gcd, Nat.le_trans (natL_mono (Nat.div_le_self _ _)) h.la, h.lb⟩
theorem Cm2.halfb {w wr wr' : World} {g : Nat} {A1 A2 A2' : Option Addr} {c1 a c2 b L c2' : Nat} (h : Cm2 w wr g A1 c1 a A2 c2 b L) (hb0 : b % 2 = 0) (r2 : Raw wr' A2' c2' (natL (b / 2))) (hb : Below wr.heap.size wr wr') : Cm2 w wr' g A1 c1 a A2' c2' (b / 2) L := by
  have ho : a % 2 = 1 := by have := h.odd; omega
  have := h.pb
  exact ⟨h.ra.below hb, r2, belowTo h.low hb, by omega, .inl ho, by rw [gcd_half_right ho hb0]; exact h.gcd, h.la, Nat.le_trans (natL_mono (Nat.div_le_self _ _)) h.lb⟩
theorem natL_pos_len {a : Nat} (h : 0 < a) : 0 < (natL a).length := by
  rcases Nat.eq_zero_or_pos (natL a).length with h0 | h0
  · have := natL_eq_nil.1 (List.eq_nil_of_length_eq_zero h0)
    omega
  · exact h0
end Go.Proofs.YtpcdiijmhllejaaDoor
