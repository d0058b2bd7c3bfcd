/- Several texts in one: RefOf, Vals, Carry. -/
import Derived.Test.YtkncbenhfcpgkaaDoorBu04
import Derived.Test.YtkncbenhfcpgkaaDoorBu03
import Derived.Test.YtkncbenhfcpgkaaDoorBu02
import Derived.Test.YtkncbenhfcpgkaaDoorBu01
import Derived.Test.YtkncbenhfcpgkaaDoorProg
import Derived.Test.YtkncbenhfcpgkaaDoorBuHd
import Derived.WalkKit
import Derived.WalkSpells
import Derived.WalkLawsBesides
import Derived.Lib.Hide
set_option maxRecDepth 100000
set_option maxHeartbeats 8000000
/- trim, signed, Of of the references. -/
namespace Go.Proofs.YtkncbenhfcpgkaaDoor
open Go.RowKit

theorem limbInfo : (Tryd.prog.info? 45).map (fun i => (i.zero, i.size, i.bytes)) = some (some (.int .u32 0), 1, 4) := by kernel_rfl

/- More of numbers by their limbs: plain, no program in sight. -/

abbrev BB : Nat := 4294967296

theorem val_snoc (xs : List Nat) (d : Nat) : val (xs ++ [d]) = val xs + 4294967296 ^ xs.length * d := by
  rw [val_append]; simp [val]
theorem val_take_more {xs : List Nat} {k : Nat} (h : k < xs.length) : val (xs.take (k + 1)) = val (xs.take k) + 4294967296 ^ k * xs[k] := by
  rw [List.take_succ_eq_append_getElem h, val_snoc, List.length_take, Nat.min_eq_left (by omega)]
theorem val_take_all {xs : List Nat} {k : Nat} (h : xs.length ≤ k) : val (xs.take k) = val xs := by
  rw [List.take_of_length_le h]
theorem val_noughts (n : Nat) : val (List.replicate n 0) = 0 := by
  induction n with
  | zero => rfl
  | succ n ih => simp [List.replicate_succ, val, ih]
theorem limbs_noughts (n : Nat) : Limbs (List.replicate n 0) := by
  intro x hx
  have := (List.mem_replicate.1 hx).2
  omega
theorem val_part (xs : List Nat) (k : Nat) (h : k ≤ xs.length) : val xs = val (xs.take k) + 4294967296 ^ k * val (xs.drop k) := by
  conv => lhs; rw [← List.take_append_drop k xs]
  rw [val_append, List.length_take, Nat.min_eq_left h]
theorem val_drop_more {xs : List Nat} {k : Nat} (h : k < xs.length) : val (xs.drop k) = xs[k] + 4294967296 * val (xs.drop (k + 1)) := by
  rw [List.drop_eq_getElem_cons h, val]
theorem val_set {xs : List Nat} {k d : Nat} (h : k < xs.length) : val (xs.set k d) + 4294967296 ^ k * xs[k] = val xs + 4294967296 ^ k * d := by
  induction xs generalizing k with
  | nil => simp at h
  | cons x xs ih =>
    cases k with
    | zero => simp [val]; omega
    | succ k =>
      have hk : k < xs.length := by simpa using h
      have := ih hk
      simp only [List.set_cons_succ, val, List.getElem_cons_succ, Nat.pow_succ]
      have e1 : 4294967296 ^ k * 4294967296 * xs[k] = 4294967296 * (4294967296 ^ k * xs[k]) := by grind
      have e2 : 4294967296 ^ k * 4294967296 * d = 4294967296 * (4294967296 ^ k * d) := by grind
      rw [e1, e2]
      omega
theorem limbs_set {xs : List Nat} (h : Limbs xs) {k d : Nat} (hd : d < 4294967296) : Limbs (xs.set k d) := by
  intro x hx
  rcases List.mem_or_eq_of_mem_set hx with hx | rfl
  · exact h x hx
  · exact hd
def at0 (xs : List Nat) (k : Nat) : Nat := xs.getD k 0
theorem at0_lt {xs : List Nat} {k : Nat} (h : k < xs.length) : at0 xs k = xs[k] := by simp [at0, h]
theorem at0_ge {xs : List Nat} {k : Nat} (h : xs.length ≤ k) : at0 xs k = 0 := by simp [at0, h]
theorem at0_limb {xs : List Nat} (hx : Limbs xs) (k : Nat) : at0 xs k < 4294967296 := by
  rcases Nat.lt_or_ge k xs.length with h | h
  · rw [at0_lt h]; exact limbs_get hx h
  · rw [at0_ge h]; omega
theorem val_take_at0 (xs : List Nat) (k : Nat) : val (xs.take (k + 1)) = val (xs.take k) + 4294967296 ^ k * at0 xs k := by
  rcases Nat.lt_or_ge k xs.length with h | h
  · rw [val_take_more h, at0_lt h]
  · rw [List.take_of_length_le (by omega), List.take_of_length_le h, at0_ge h]; simp

theorem add_step {zs : List Nat} {k c v : Nat} (hk : zs.length = k) (s : Nat) (h : val zs + 4294967296 ^ k * c = v) (x : Nat) (hs : s = x + c) :
    val (zs ++ [s % 4294967296]) + 4294967296 ^ (k + 1) * (s / 4294967296) = v + 4294967296 ^ k * x := by
  subst hk hs
  rw [val_snoc, ← h, Nat.pow_succ]
  generalize 4294967296 ^ zs.length = P
  have e : P * 4294967296 * ((x + c) / 4294967296) + P * ((x + c) % 4294967296) = P * (x + c) := by
    rw [Nat.mul_assoc, ← Nat.mul_add, Nat.div_add_mod]
  rw [Nat.mul_add] at e
  omega
theorem sub_step {zs : List Nat} {k b va vb : Nat} (hk : zs.length = k) (h : val zs + vb = va + 4294967296 ^ k * b) (x y d b' : Nat) (hd : d + y + b = x + 4294967296 * b') :
    val (zs ++ [d]) + (vb + 4294967296 ^ k * y) = va + 4294967296 ^ k * x + 4294967296 ^ (k + 1) * b' := by
  subst hk
  rw [val_snoc, Nat.pow_succ]
  generalize 4294967296 ^ zs.length = P at *
  have e : P * (d + y + b) = P * (x + 4294967296 * b') := by rw [hd]
  simp only [Nat.mul_add] at e
  rw [← Nat.mul_assoc] at e
  omega
theorem at0_set_ne {zs : List Nat} {m k d : Nat} (h : k ≠ m) : at0 (zs.set m d) k = at0 zs k := by
  simp only [at0, List.getD_eq_getElem?_getD]
  rw [List.getElem?_set_ne (by omega)]
theorem at0_noughts (n k : Nat) : at0 (List.replicate n 0) k = 0 := by
  simp only [at0, List.getD_eq_getElem?_getD, List.getElem?_replicate]
  split <;> rfl
theorem mul_step {zs : List Nat} {m c V : Nat} (hm : m < zs.length) (h : val zs + 4294967296 ^ m * c = V) (p t : Nat) (ht : t = c + p + zs[m]) :
    val (zs.set m (t % 4294967296)) + 4294967296 ^ (m + 1) * (t / 4294967296) = V + 4294967296 ^ m * p := by
  have e := val_set (xs := zs) (k := m) (d := t % 4294967296) hm
  rw [Nat.pow_succ]
  generalize 4294967296 ^ m = P at *
  have e2 : P * 4294967296 * (t / 4294967296) + P * (t % 4294967296) = P * t := by
    rw [Nat.mul_assoc, ← Nat.mul_add, Nat.div_add_mod]
  have e3 : P * t = P * c + P * p + P * zs[m] := by rw [ht, Nat.mul_add, Nat.mul_add]
  omega
theorem mul_last {zs : List Nat} {m c V : Nat} (hm : m < zs.length) (h : val zs + 4294967296 ^ m * c = V) (h0 : zs[m] = 0) : val (zs.set m c) = V := by
  have e := val_set (xs := zs) (k := m) (d := c) hm
  rw [h0] at e
  omega
theorem mul_bound {u v o c : Nat} (hu : u < 4294967296) (hv : v < 4294967296) (ho : o < 4294967296) (hc : c < 4294967296) : c + u * v + o < 18446744073709551616 ∧ (c + u * v + o) / 4294967296 < 4294967296 := by
  have h : u * v ≤ 4294967295 * 4294967295 := Nat.mul_le_mul (by omega) (by omega)
  omega
/- math/bits.Add32, Sub32, Div32. -/

theorem bits_u32_nat (a b : Nat) (ha : a < 4294967296) (hb : b < 4294967296) :
    bits .and .u32 a b = ((a &&& b : Nat) : Int) ∧ bits .or .u32 a b = ((a ||| b : Nat) : Int) ∧ bits .xor .u32 a b = ((a ^^^ b : Nat) : Int) := by
  have h := bits_nat .u32 32 (by decide) (fun n h0 h1 => by rw [IntKind.wrap_u32]; omega) a b ha hb
  refine ⟨h.1, h.2, ?_⟩
  have ha' : a % 2 ^ IntKind.u32.bits = a := Nat.mod_eq_of_lt ha
  have hb' : b % 2 ^ IntKind.u32.bits = b := Nat.mod_eq_of_lt hb
  simp only [bits, BitVec.ofInt_natCast, BitVec.toNat_xor, BitVec.toNat_ofNat, ha', hb']
  rw [IntKind.wrap_u32]
  have : a ^^^ b < 2 ^ 32 := Nat.xor_lt_two_pow ha hb
  omega
theorem borrow_top (X Y D : Nat) (hX : X ≤ 1) (hY : Y ≤ 1) (hD : D ≤ 1) : (((1 ^^^ X) &&& Y) ||| ((1 ^^^ (X ^^^ Y)) &&& D)) = if X < Y ∨ (X = Y ∧ D = 1) then 1 else 0 := by
  rcases (by omega : X = 0 ∨ X = 1) with rfl | rfl <;> rcases (by omega : Y = 0 ∨ Y = 1) with rfl | rfl <;> rcases (by omega : D = 0 ∨ D = 1) with rfl | rfl <;> decide
theorem borrow_law (x y b d : Nat) (hx : x < 4294967296) (hy : y < 4294967296) (hb : b ≤ 1) (hd : d = (x + 4294967296 - y - b) % 4294967296) :
    (((4294967295 ^^^ x) &&& y) ||| ((4294967295 ^^^ (x ^^^ y)) &&& d)) / 2147483648 = if x < y + b then 1 else 0 := by
  rw [show 2147483648 = 2 ^ 31 by decide, ← Nat.shiftRight_eq_div_pow, Nat.shiftRight_or_distrib, Nat.shiftRight_and_distrib, Nat.shiftRight_and_distrib, Nat.shiftRight_xor_distrib, Nat.shiftRight_xor_distrib, Nat.shiftRight_xor_distrib, show 4294967295 >>> 31 = 1 by decide]
  simp only [Nat.shiftRight_eq_div_pow]
  rw [borrow_top _ _ _ (by omega) (by omega) (by omega)]
  by_cases h : x < y + b
  · rw [if_pos h, if_pos (by omega)]
  · rw [if_neg h, if_neg (by omega)]

theorem two_eq {a b c d : Int} (h1 : a = c) (h2 : b = d) : Ending.returned (.tuple #[.int .u32 a, .int .u32 b]) = .returned (.tuple #[.int .u32 c, .int .u32 d]) := by
  subst h1 h2; rfl

theorem bits_Add32 (x y c : Nat) (hx : x < 4294967296) (hy : y < 4294967296) (hc : c ≤ 1) (w : World) :
    Calls Tryd.prog 53 #[.int .u32 x, .int .u32 y, .int .u32 c] w fun e w' => e = .returned (.tuple #[.int .u32 ((x + y + c) % 4294967296 : Nat), .int .u32 ((x + y + c) / 4294967296 : Nat)]) ∧ w = w' := by
  go_enter Tryd.func53, Tryd.ntmps53
  go_wp2
  go_ret2
  exact ⟨two_eq (by omega) (by omega), rfl⟩

theorem bits_Sub32_core (x y b : Nat) (hx : x < 4294967296) (hy : y < 4294967296) (hb : b ≤ 1) (d q : Nat) (hd : Hid (d = (x + 4294967296 - y - b) % 4294967296)) (hq : Hid (q = if x < y + b then 1 else 0)) (w : World) :
    Calls Tryd.prog 54 #[.int .u32 x, .int .u32 y, .int .u32 b] w fun e w' => e = .returned (.tuple #[.int .u32 d, .int .u32 q]) ∧ w = w' := by
  have hm : IntKind.u32.max = 4294967295 := rfl
  go_enter Tryd.func54, Tryd.ntmps54
  go_wp2
  go_ret2
  have e : ((x : Int) - (y : Int) - (b : Int)) % 4294967296 = (d : Int) := by rw [hd.out]; omega
  refine ⟨two_eq e ?_, rfl⟩
  rw [e]
  have hd2 : d < 4294967296 := by have := hd.out; omega
  have h1 : 4294967295 ^^^ x < 4294967296 := Nat.xor_lt_two_pow (n := 32) (by omega) hx
  have h2 : x ^^^ y < 4294967296 := Nat.xor_lt_two_pow (n := 32) hx hy
  have h3 : 4294967295 ^^^ (x ^^^ y) < 4294967296 := Nat.xor_lt_two_pow (n := 32) (by omega) h2
  have e1 := (bits_u32_nat 4294967295 x (by omega) hx).2.2
  have e2 := (bits_u32_nat x y hx hy).2.2
  have e3 := (bits_u32_nat 4294967295 (x ^^^ y) (by omega) h2).2.2
  have e4 := (bits_u32_nat _ y h1 hy).1
  have e5 := (bits_u32_nat _ d h3 hd2).1
  have e6 := (bits_u32_nat _ _ (Nat.and_lt_two_pow (n := 32) (4294967295 ^^^ x) hy) (Nat.and_lt_two_pow (n := 32) (4294967295 ^^^ (x ^^^ y)) hd2)).2.1
  have e0 : ((4294967295 : Nat) : Int) = 4294967295 := rfl
  rw [e0] at e1 e3
  rw [e1, e2, e3, e4, e5, e6, hq.out, ← borrow_law x y b d hx hy hb hd.out]
  omega
theorem bits_Sub32 (x y b : Nat) (hx : x < 4294967296) (hy : y < 4294967296) (hb : b ≤ 1) (w : World) :
    Calls Tryd.prog 54 #[.int .u32 x, .int .u32 y, .int .u32 b] w fun e w' => e = .returned (.tuple #[.int .u32 ((x + 4294967296 - y - b) % 4294967296 : Nat), .int .u32 (if x < y + b then 1 else 0 : Nat)]) ∧ w = w' :=
  bits_Sub32_core x y b hx hy hb _ _ (Hd rfl) (Hd rfl) w
theorem bits_Add32_0 (x c : Nat) (hx : x < 4294967296) (hc : c ≤ 1) (w : World) :
    Calls Tryd.prog 53 #[.int .u32 x, .int .u32 0, .int .u32 c] w fun e w' => e = .returned (.tuple #[.int .u32 ((x + 0 + c) % 4294967296 : Nat), .int .u32 ((x + 0 + c) / 4294967296 : Nat)]) ∧ w = w' :=
  bits_Add32 x 0 c hx (by omega) hc w
theorem bits_Sub32_0 (x b : Nat) (hx : x < 4294967296) (hb : b ≤ 1) (w : World) :
    Calls Tryd.prog 54 #[.int .u32 x, .int .u32 0, .int .u32 b] w fun e w' => e = .returned (.tuple #[.int .u32 ((x + 4294967296 - 0 - b) % 4294967296 : Nat), .int .u32 (if x < 0 + b then 1 else 0 : Nat)]) ∧ w = w' :=
  bits_Sub32 x 0 b hx (by omega) hb w
end Go.Proofs.YtkncbenhfcpgkaaDoor
