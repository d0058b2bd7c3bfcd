/- Several texts in one: May, Ints, Lens. -/
import Derived.Test.YtpcdiijmhllejaaGreatDoorPk10
import Derived.Test.YtpcdiijmhllejaaGreatDoorPk03
import Derived.Test.YtpcdiijmhllejaaGreatDoorPk22
import Derived.Test.YtpcdiijmhllejaaGreatDoorPk27
import Derived.Test.YtpcdiijmhllejaaGreatDoorPk06
import Derived.IntWalk
/- may, small: of a list of numbers. -/
namespace Go.Proofs.YtpcdiijmhllejaaGreatDoor
open Go.RowKit

/-- Numbers as they came: sign, place, room, limbs. -/
abbrev Num := Bool × Option Addr × Nat × List Nat
def cellsNum (l : List Num) : List Value := l.flatMap fun m => [.bool m.1, .slice m.2.1 m.2.2.2.length m.2.2.1]
def okNum (m : Num) : Bool := okI m.1 m.2.2.2
theorem okI_long {neg : Bool} {xs : List Nat} (h : 2048 < xs.length) : okI neg xs = false := by
  rw [Bool.eq_false_iff]; intro o
  have := (okI_true.1 o).1
  omega
theorem okI_top {neg : Bool} {xs : List Nat} (k : Nat) (hk : k + 1 = xs.length) (h : xs[k] = 0) : okI neg xs = false := by
  rw [Bool.eq_false_iff]; intro o
  have := (okI_true.1 o).2.1
  have e : xs.getLast? = some 0 := by
    rw [List.getLast?_eq_getElem?]
    rw [show xs.length - 1 = k by omega, List.getElem?_eq_getElem (by omega), h]
  exact this 0 e rfl
theorem okI_good {neg : Bool} {xs : List Nat} (k : Nat) (hk : k + 1 = xs.length) (hl : xs.length ≤ 2048) (h : xs[k] ≠ 0) : okI neg xs = true := by
  refine okI_true.2 ⟨hl, fun x hx h0 => h ?_, fun e => by rw [e] at hk; simp at hk⟩
  rw [List.getLast?_eq_getElem?, show xs.length - 1 = k by omega, List.getElem?_eq_getElem (by omega)] at hx
  rw [Option.some.inj hx]; exact h0

end Go.Proofs.YtpcdiijmhllejaaGreatDoor

/- The calls of package whole over numbers that may be, told by the numbers alone. -/
namespace Go.Proofs.YtpcdiijmhllejaaGreatDoor
open Go.RowKit

/-- A number that may be. -/
def Fit (x : Int) : Prop := (natL x.natAbs).length ≤ 2048
instance (x : Int) : Decidable (Fit x) := inferInstanceAs (Decidable ((natL x.natAbs).length ≤ 2048))
theorem Fit.ok {x : Int} (h : Fit x) : okI (decide (x < 0)) (natL x.natAbs) = true := by
  refine okI_true.2 ⟨h, canon_natL _, fun e => ?_⟩
  have := natL_eq_nil.1 e
  exact decide_eq_false (by omega)
theorem Fit.mono {x y : Int} (h : Fit y) (hl : x.natAbs ≤ y.natAbs) : Fit x := Nat.le_trans (natL_mono hl) h
theorem Fit.small {x : Int} (h : x.natAbs < 18446744073709551616) : Fit x := by
  unfold Fit
  have : (natL x.natAbs).length ≤ 2 := natL_length_le.2 (by simpa using h)
  omega
theorem fit_of {x : Int} (h : okI (decide (x < 0)) (natL x.natAbs) = true) : Fit x := (okI_true.1 h).1
/-- What came may be: so it is a number's own sign and limbs. -/
theorem ok_num {n : Bool} {xs : List Nat} (hl : Limbs xs) (o : okI n xs = true) : n = decide (ival n xs < 0) ∧ xs = natL (ival n xs).natAbs ∧ Fit (ival n xs) := by
  obtain ⟨o1, o2, o3⟩ := okI_true.1 o
  have ha : (ival n xs).natAbs = val xs := by unfold ival; split <;> omega
  have h2 : xs = natL (ival n xs).natAbs := by rw [ha]; exact (natL_val hl o2).symm
  refine ⟨?_, h2, by unfold Fit; rw [← h2]; exact o1⟩
  by_cases hx : xs = []
  · subst hx
    rw [o3 rfl]; rfl
  · have hp : 0 < val xs := by
      rcases Nat.eq_zero_or_pos (val xs) with h0 | h0
      · have := natL_val hl o2
        rw [h0, natL_zero] at this
        exact absurd this.symm hx
      · exact h0
    unfold ival
    cases n <;> simp <;> omega
theorem IntOwn.raws {w : World} {base : Nat} {v : Value} {x : Int} (h : IntOwn w base v x) : ∃ A c, v = .agg #[.bool (decide (x < 0)), .slice A (natL x.natAbs).length c] ∧ Raw w A c (natL x.natAbs) := h.raw
/-- A call hands back a number and an error. -/
def RetN2 (w : World) (z k : Int) (e : Ending) (w' : World) : Prop := ∃ A c, e = .returned (.tuple #[.agg #[.bool (decide (z < 0)), .slice A (natL z.natAbs).length c], .int .i64 k]) ∧ Raw w' A c (natL z.natAbs) ∧ Below w.heap.size w w'
def RetN3 (w : World) (z1 z2 k : Int) (e : Ending) (w' : World) : Prop := ∃ A c B d, e = .returned (.tuple #[.agg #[.bool (decide (z1 < 0)), .slice A (natL z1.natAbs).length c], .agg #[.bool (decide (z2 < 0)), .slice B (natL z2.natAbs).length d], .int .i64 k]) ∧ Raw w' A c (natL z1.natAbs) ∧ Raw w' B d (natL z2.natAbs) ∧ Below w.heap.size w w'
def RetN1 (w : World) (z : Int) (e : Ending) (w' : World) : Prop := ∃ A c, e = .returned (.agg #[.bool (decide (z < 0)), .slice A (natL z.natAbs).length c]) ∧ Raw w' A c (natL z.natAbs) ∧ Below w.heap.size w w'
theorem RetInt2.n2 {base : Nat} {w w' : World} {z k : Int} {e : Ending} (h : RetInt2 base w z k e w') : RetN2 w z k e w' := by
  obtain ⟨v, rfl, hv, hb⟩ := h
  obtain ⟨A, c, rfl, hr⟩ := hv.raw
  exact ⟨A, c, rfl, hr, hb⟩
theorem RetInt.n1 {base : Nat} {w w' : World} {z : Int} {e : Ending} (h : RetInt base w z e w') : RetN1 w z e w' := by
  obtain ⟨v, rfl, hv, hb⟩ := h
  obtain ⟨A, c, rfl, hr⟩ := hv.raw
  exact ⟨A, c, rfl, hr, hb⟩
theorem RetTwo3.n3 {base : Nat} {w w' : World} {z1 z2 k : Int} {e : Ending} (h : RetTwo3 base w z1 z2 k e w') : RetN3 w z1 z2 k e w' := by
  obtain ⟨v1, v2, rfl, hv, hb⟩ := h
  obtain ⟨A, c, rfl, hr⟩ := hv.one.raw
  obtain ⟨B, d, rfl, hs⟩ := hv.two.raw
  exact ⟨A, c, B, d, rfl, hr, hs, hb⟩

section
variable (x y z : Int) (A B : Option Addr) (c d : Nat) (hx : Fit x) (hy : Fit y) (w : World) (h : Raw w A c (natL x.natAbs)) (g : Raw w B d (natL y.natAbs))
include hx hy h g
theorem add_o (hz : z = x + y) (fz : Fit z) : Calls Tryz.prog 9 #[.agg #[.bool (decide (x < 0)), .slice A (natL x.natAbs).length c], .agg #[.bool (decide (y < 0)), .slice B (natL y.natAbs).length d]] w (RetInt2 w.heap.size w z 0) := by
  have := whole_Add (decide (x < 0)) (decide (y < 0)) A B c d _ _ w h g
  rw [hx.ok, hy.ok, ival_at, ival_at, ← hz, toldV_fits fz, toldE_fits fz] at this
  exact this
theorem add_z (hz : z = x + y) (fz : Fit z) : Calls Tryz.prog 9 #[.agg #[.bool (decide (x < 0)), .slice A (natL x.natAbs).length c], .agg #[.bool (decide (y < 0)), .slice B (natL y.natAbs).length d]] w (RetN2 w z 0) :=
  (add_o x y z A B c d hx hy w h g hz fz).mono fun _ _ q => q.n2
theorem add_long (fz : ¬ Fit (x + y)) : Calls Tryz.prog 9 #[.agg #[.bool (decide (x < 0)), .slice A (natL x.natAbs).length c], .agg #[.bool (decide (y < 0)), .slice B (natL y.natAbs).length d]] w (RetN2 w 0 4) := by
  have := whole_Add (decide (x < 0)) (decide (y < 0)) A B c d _ _ w h g
  rw [hx.ok, hy.ok, ival_at, ival_at, toldV_long (by unfold Fit at fz; omega), toldE_long (by unfold Fit at fz; omega)] at this
  exact this.mono fun e w' q => q.n2
theorem sub_z (hz : z = x - y) (fz : Fit z) : Calls Tryz.prog 10 #[.agg #[.bool (decide (x < 0)), .slice A (natL x.natAbs).length c], .agg #[.bool (decide (y < 0)), .slice B (natL y.natAbs).length d]] w (RetN2 w z 0) := by
  have := whole_Sub (decide (x < 0)) (decide (y < 0)) A B c d _ _ w h g
  rw [hx.ok, hy.ok, ival_at, ival_at, ← hz, toldV_fits fz, toldE_fits fz] at this
  exact this.mono fun e w' q => q.n2
theorem sub_long (fz : ¬ Fit (x - y)) : Calls Tryz.prog 10 #[.agg #[.bool (decide (x < 0)), .slice A (natL x.natAbs).length c], .agg #[.bool (decide (y < 0)), .slice B (natL y.natAbs).length d]] w (RetN2 w 0 4) := by
  have := whole_Sub (decide (x < 0)) (decide (y < 0)) A B c d _ _ w h g
  rw [hx.ok, hy.ok, ival_at, ival_at, toldV_long (by unfold Fit at fz; omega), toldE_long (by unfold Fit at fz; omega)] at this
  exact this.mono fun e w' q => q.n2
theorem sub_long_n (fz : ¬ Fit (x - y)) (hz0 : z = 0) : Calls Tryz.prog 10 #[.agg #[.bool (decide (x < 0)), .slice A (natL x.natAbs).length c], .agg #[.bool (decide (y < 0)), .slice B (natL y.natAbs).length d]] w (RetN2 w z 4) := by
  rw [hz0]; exact sub_long x y A B c d hx hy w h g fz
theorem mul_o (hz : z = x * y) (fz : Fit z) : Calls Tryz.prog 11 #[.agg #[.bool (decide (x < 0)), .slice A (natL x.natAbs).length c], .agg #[.bool (decide (y < 0)), .slice B (natL y.natAbs).length d]] w (RetInt2 w.heap.size w z 0) := by
  have := whole_Mul (decide (x < 0)) (decide (y < 0)) A B c d _ _ w h g
  rw [hx.ok, hy.ok, ival_at, ival_at, ← hz, toldV_fits fz, toldE_fits fz] at this
  exact this
theorem mul_z (hz : z = x * y) (fz : Fit z) : Calls Tryz.prog 11 #[.agg #[.bool (decide (x < 0)), .slice A (natL x.natAbs).length c], .agg #[.bool (decide (y < 0)), .slice B (natL y.natAbs).length d]] w (RetN2 w z 0) :=
  (mul_o x y z A B c d hx hy w h g hz fz).mono fun _ _ q => q.n2
theorem mul_long (fz : ¬ Fit (x * y)) : Calls Tryz.prog 11 #[.agg #[.bool (decide (x < 0)), .slice A (natL x.natAbs).length c], .agg #[.bool (decide (y < 0)), .slice B (natL y.natAbs).length d]] w (RetN2 w 0 4) := by
  have := whole_Mul (decide (x < 0)) (decide (y < 0)) A B c d _ _ w h g
  rw [hx.ok, hy.ok, ival_at, ival_at, toldV_long (by unfold Fit at fz; omega), toldE_long (by unfold Fit at fz; omega)] at this
  exact this.mono fun e w' q => q.n2
theorem quorem_z (q r : Int) (hy0 : y ≠ 0) (hq : q = x.tdiv y) (hr : r = x.tmod y) : Calls Tryz.prog 19 #[.agg #[.bool (decide (x < 0)), .slice A (natL x.natAbs).length c], .agg #[.bool (decide (y < 0)), .slice B (natL y.natAbs).length d]] w (RetN3 w q r 0) := by
  have := whole_QuoRem (decide (x < 0)) (decide (y < 0)) A B c d _ _ w h g
  unfold quoV remV quoE at this
  have h0 : ¬ (natL y.natAbs).length = 0 := fun e => by
    have := natL_eq_nil.1 (List.eq_nil_of_length_eq_zero e)
    omega
  rw [hx.ok, hy.ok, Bool.and_self, if_pos rfl, if_pos rfl, if_pos rfl, if_neg h0, if_neg h0, if_neg h0, ival_at, ival_at, ← hq, ← hr] at this
  exact this.mono fun e w' q => q.n3
theorem quorem_nought (hy0 : y = 0) (hz0 : z = 0) : Calls Tryz.prog 19 #[.agg #[.bool (decide (x < 0)), .slice A (natL x.natAbs).length c], .agg #[.bool (decide (y < 0)), .slice B (natL y.natAbs).length d]] w (RetN3 w z z 3) := by
  have := whole_QuoRem (decide (x < 0)) (decide (y < 0)) A B c d _ _ w h g
  unfold quoV remV quoE at this
  have h0 : (natL y.natAbs).length = 0 := by rw [hy0]; decide
  rw [hx.ok, hy.ok, Bool.and_self, if_pos rfl, if_pos rfl, if_pos rfl, if_pos h0, if_pos h0, if_pos h0] at this
  rw [hz0]
  exact this.mono fun e w' q => q.n3
theorem gcd_z (hz : z = ((Nat.gcd x.natAbs y.natAbs : Nat) : Int)) : Calls Tryz.prog 20 #[.agg #[.bool (decide (x < 0)), .slice A (natL x.natAbs).length c], .agg #[.bool (decide (y < 0)), .slice B (natL y.natAbs).length d]] w (RetN2 w z 0) := by
  have := whole_GCD (decide (x < 0)) (decide (y < 0)) A B c d _ _ w h g
  unfold gcdV gcdE at this
  rw [hx.ok, hy.ok, Bool.and_self, if_pos rfl, if_pos rfl, val_natL, val_natL, ← hz] at this
  exact this.mono fun e w' q => q.n2
omit hx hy in
theorem same_z (b : Bool) (hb : b = decide (x = y)) : Calls Tryz.prog 23 #[.agg #[.bool (decide (x < 0)), .slice A (natL x.natAbs).length c], .agg #[.bool (decide (y < 0)), .slice B (natL y.natAbs).length d]] w fun e w' => e = .returned (.bool b) ∧ Below w.heap.size w w' := by
  have := same_any (decide (x < 0)) (decide (y < 0)) A B c d _ _ w h g
  have e : decide (decide (x < 0) = decide (y < 0) ∧ natL x.natAbs = natL y.natAbs) = b := by
    rw [hb]
    refine decide_eq_decide.2 ⟨fun ⟨h1, h2⟩ => ?_, fun h => by subst h; exact ⟨rfl, rfl⟩⟩
    have h3 : x.natAbs = y.natAbs := by rw [← val_natL x.natAbs, h2, val_natL]
    have h4 : (x < 0 ↔ y < 0) := decide_eq_decide.1 h1
    omega
  rw [e] at this
  exact this
end
end Go.Proofs.YtpcdiijmhllejaaGreatDoor

/- Lengths of numbers' limbs in tests. -/
namespace Go.Proofs.YtpcdiijmhllejaaGreatDoor

theorem nought_len {z : Int} (h : z = 0) : ((natL z.natAbs).length : Int) = 0 := by subst h; decide
theorem len_ne {z : Int} (h : z ≠ 0) : (natL z.natAbs).length ≠ 0 := fun e => by
  have := natL_eq_nil.1 (List.eq_nil_of_length_eq_zero e)
  omega
theorem more_len {z : Int} (h : z ≠ 0) : (((natL z.natAbs).length : Int) == 0) = false := beq_false_of_ne (by
  have := len_ne h
  omega)
theorem sum_len {x y : Int} (hx : Fit x) (hy : Fit y) (h : x ≠ 0 ∨ y ≠ 0) : IntKind.i64.wrap (((natL x.natAbs).length : Int) + ((natL y.natAbs).length : Int)) = ((natL x.natAbs).length : Int) + ((natL y.natAbs).length : Int) ∧ (((natL x.natAbs).length : Int) + ((natL y.natAbs).length : Int) == 0) = false := by
  unfold Fit at hx hy
  refine ⟨IntWalk.i64_in _ (by omega), beq_false_of_ne ?_⟩
  rcases h with h | h
  · have := len_ne h
    omega
  · have := len_ne h
    omega
theorem tdiv_fit {x y : Int} (h : Fit x) : Fit (x.tdiv y) := h.mono (by rw [Int.natAbs_tdiv]; exact Nat.div_le_self _ _)
theorem tmod_fit {x y : Int} (h : Fit x) : Fit (x.tmod y) := h.mono (by rw [Int.natAbs_tmod]; exact Nat.mod_le _ _)
theorem tdiv_mul_fit {x y : Int} (h : Fit x) : Fit (x.tdiv y * y) := h.mono (by
  rw [Int.natAbs_mul, Int.natAbs_tdiv]
  exact Nat.div_mul_le_self _ _)
end Go.Proofs.YtpcdiijmhllejaaGreatDoor
