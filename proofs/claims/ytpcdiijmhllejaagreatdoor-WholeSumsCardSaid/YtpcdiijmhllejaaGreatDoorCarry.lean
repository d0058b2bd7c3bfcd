/- math/bits.Add32, Sub32, Div32. -/
import Derived.Test.YtpcdiijmhllejaaGreatDoorProg
import Derived.WalkKit
import Derived.WalkSpells
import Derived.WalkLawsBesides
import Derived.Lib.Hide
namespace Go.Proofs.YtpcdiijmhllejaaGreatDoor
open Go.RowKit

theorem bits_u32_nat (a b : Nat) (ha : a < 4294967296) (hb : b < 4294967296) :
    bits .and .u32 a b = ((a &&& b : Nat) : Int) ∧ bits .or .u32 a b = ((a ||| b : Nat) : Int) ∧ bits .xor .u32 a b = ((a ^^^ b : Nat) : Int) := by
  have h := bits_nat .u32 32 (by decide) (fun n h0 h1 => by rw [IntKind.wrap_u32]; omega) a b ha hb
  refine ⟨h.1, h.2, ?_⟩
  have ha' : a % 2 ^ IntKind.u32.bits = a := Nat.mod_eq_of_lt ha
  have hb' : b % 2 ^ IntKind.u32.bits = b := Nat.mod_eq_of_lt hb
  simp only [bits, BitVec.ofInt_natCast, BitVec.toNat_xor, BitVec.toNat_ofNat, ha', hb']
  rw [IntKind.wrap_u32]
  have : a ^^^ b < 2 ^ 32 := Nat.xor_lt_two_pow ha hb
  omega
theorem borrow_top (X Y D : Nat) (hX : X ≤ 1) (hY : Y ≤ 1) (hD : D ≤ 1) : (((1 ^^^ X) &&& Y) ||| ((1 ^^^ (X ^^^ Y)) &&& D)) = if X < Y ∨ (X = Y ∧ D = 1) then 1 else 0 := by
  rcases (by omega : X = 0 ∨ X = 1) with rfl | rfl <;> rcases (by omega : Y = 0 ∨ Y = 1) with rfl | rfl <;> rcases (by omega : D = 0 ∨ D = 1) with rfl | rfl <;> decide
theorem borrow_law (x y b d : Nat) (hx : x < 4294967296) (hy : y < 4294967296) (hb : b ≤ 1) (hd : d = (x + 4294967296 - y - b) % 4294967296) :
    (((4294967295 ^^^ x) &&& y) ||| ((4294967295 ^^^ (x ^^^ y)) &&& d)) / 2147483648 = if x < y + b then 1 else 0 := by
  rw [show 2147483648 = 2 ^ 31 by decide, ← Nat.shiftRight_eq_div_pow, Nat.shiftRight_or_distrib, Nat.shiftRight_and_distrib, Nat.shiftRight_and_distrib, Nat.shiftRight_xor_distrib, Nat.shiftRight_xor_distrib, Nat.shiftRight_xor_distrib, show 4294967295 >>> 31 = 1 by decide]
  simp only [Nat.shiftRight_eq_div_pow]
  rw [borrow_top _ _ _ (by omega) (by omega) (by omega)]
  by_cases h : x < y + b
  · rw [if_pos h, if_pos (by omega)]
  · rw [if_neg h, if_neg (by omega)]

theorem two_eq {a b c d : Int} (h1 : a = c) (h2 : b = d) : Ending.returned (.tuple #[.int .u32 a, .int .u32 b]) = .returned (.tuple #[.int .u32 c, .int .u32 d]) := by
  subst h1 h2; rfl

set_option maxRecDepth 100000 in
set_option maxHeartbeats 400000 in
theorem bits_Add32 (x y c : Nat) (hx : x < 4294967296) (hy : y < 4294967296) (hc : c ≤ 1) (w : World) :
    Calls Tryz.prog 166 #[.int .u32 x, .int .u32 y, .int .u32 c] w fun e w' => e = .returned (.tuple #[.int .u32 ((x + y + c) % 4294967296 : Nat), .int .u32 ((x + y + c) / 4294967296 : Nat)]) ∧ w = w' := by
  go_enter Tryz.func166, Tryz.ntmps166
  go_wp2
  go_ret2
  exact ⟨two_eq (by omega) (by omega), rfl⟩

set_option maxRecDepth 100000 in
set_option maxHeartbeats 400000 in
theorem bits_Sub32_core (x y b : Nat) (hx : x < 4294967296) (hy : y < 4294967296) (hb : b ≤ 1) (d q : Nat) (hd : Hid (d = (x + 4294967296 - y - b) % 4294967296)) (hq : Hid (q = if x < y + b then 1 else 0)) (w : World) :
    Calls Tryz.prog 167 #[.int .u32 x, .int .u32 y, .int .u32 b] w fun e w' => e = .returned (.tuple #[.int .u32 d, .int .u32 q]) ∧ w = w' := by
  have hm : IntKind.u32.max = 4294967295 := rfl
  go_enter Tryz.func167, Tryz.ntmps167
  go_wp2
  go_ret2
  have e : ((x : Int) - (y : Int) - (b : Int)) % 4294967296 = (d : Int) := by rw [hd.out]; omega
  refine ⟨two_eq e ?_, rfl⟩
  rw [e]
  have hd2 : d < 4294967296 := by have := hd.out; omega
  have h1 : 4294967295 ^^^ x < 4294967296 := Nat.xor_lt_two_pow (n := 32) (by omega) hx
  have h2 : x ^^^ y < 4294967296 := Nat.xor_lt_two_pow (n := 32) hx hy
  have h3 : 4294967295 ^^^ (x ^^^ y) < 4294967296 := Nat.xor_lt_two_pow (n := 32) (by omega) h2
  have e1 := (bits_u32_nat 4294967295 x (by omega) hx).2.2
  have e2 := (bits_u32_nat x y hx hy).2.2
  have e3 := (bits_u32_nat 4294967295 (x ^^^ y) (by omega) h2).2.2
  have e4 := (bits_u32_nat _ y h1 hy).1
  have e5 := (bits_u32_nat _ d h3 hd2).1
  have e6 := (bits_u32_nat _ _ (Nat.and_lt_two_pow (n := 32) (4294967295 ^^^ x) hy) (Nat.and_lt_two_pow (n := 32) (4294967295 ^^^ (x ^^^ y)) hd2)).2.1
  have e0 : ((4294967295 : Nat) : Int) = 4294967295 := rfl
  rw [e0] at e1 e3
  rw [e1, e2, e3, e4, e5, e6, hq.out, ← borrow_law x y b d hx hy hb hd.out]
  omega
theorem bits_Sub32 (x y b : Nat) (hx : x < 4294967296) (hy : y < 4294967296) (hb : b ≤ 1) (w : World) :
    Calls Tryz.prog 167 #[.int .u32 x, .int .u32 y, .int .u32 b] w fun e w' => e = .returned (.tuple #[.int .u32 ((x + 4294967296 - y - b) % 4294967296 : Nat), .int .u32 (if x < y + b then 1 else 0 : Nat)]) ∧ w = w' :=
  bits_Sub32_core x y b hx hy hb _ _ (Lib.hid rfl) (Lib.hid rfl) w
theorem bits_Add32_0 (x c : Nat) (hx : x < 4294967296) (hc : c ≤ 1) (w : World) :
    Calls Tryz.prog 166 #[.int .u32 x, .int .u32 0, .int .u32 c] w fun e w' => e = .returned (.tuple #[.int .u32 ((x + 0 + c) % 4294967296 : Nat), .int .u32 ((x + 0 + c) / 4294967296 : Nat)]) ∧ w = w' :=
  bits_Add32 x 0 c hx (by omega) hc w
theorem bits_Sub32_0 (x b : Nat) (hx : x < 4294967296) (hb : b ≤ 1) (w : World) :
    Calls Tryz.prog 167 #[.int .u32 x, .int .u32 0, .int .u32 b] w fun e w' => e = .returned (.tuple #[.int .u32 ((x + 4294967296 - 0 - b) % 4294967296 : Nat), .int .u32 (if x < 0 + b then 1 else 0 : Nat)]) ∧ w = w' :=
  bits_Sub32 x 0 b hx (by omega) hb w
end Go.Proofs.YtpcdiijmhllejaaGreatDoor
