/- Several texts in one: DivOps, Lz, Ints0, ZR, Append. -/
import Derived.Test.YtdonecnhdkjniaaGreatDoorGy10
set_option maxRecDepth 100000
set_option maxHeartbeats 8000000
namespace Go.Proofs.YtdonecnhdkjniaaGreatDoor
open Go.RowKit

def RetTwo3 (base : Nat) (w : World) (z1 z2 k : Int) (e : Ending) (w' : World) : Prop := ∃ v1 v2, e = .returned (.tuple #[v1, v2, .int .i64 k]) /\ Ja w' base v1 z1 v2 z2 /\ Below w.heap.size w w'
def RetBoth3 (base : Nat) (w : World) (z1 z2 k : Int) (e : Ending) (w' : World) : Prop := ∃ v1 v2, e = .returned (.tuple #[v1, v2, .int .i64 k]) /\ Zc w' base v1 z1 /\ Zc w' base v2 z2 /\ Below w.heap.size w w'
def RetAt2 (w : World) (z k : Int) (e : Ending) (w' : World) : Prop := ∃ v, e = .returned (.tuple #[v, .int .i64 k]) /\ YQ w' v z /\ Below w.heap.size w w'
def quoV (n1 : Bool) (xs : List Nat) (n2 : Bool) (ys : List Nat) : Int := if okI n1 xs && okI n2 ys then (if ys.length = 0 then 0 else (Zt n1 xs).tdiv (Zt n2 ys)) else 0
def remV (n1 : Bool) (xs : List Nat) (n2 : Bool) (ys : List Nat) : Int := if okI n1 xs && okI n2 ys then (if ys.length = 0 then 0 else (Zt n1 xs).tmod (Zt n2 ys)) else 0
def quoE (n1 : Bool) (xs : List Nat) (n2 : Bool) (ys : List Nat) : Int := if okI n1 xs && okI n2 ys then (if ys.length = 0 then 3 else 0) else 1
def gcdV (n1 : Bool) (xs : List Nat) (n2 : Bool) (ys : List Nat) : Int := if okI n1 xs && okI n2 ys then ((Nat.gcd (val xs) (val ys) : Nat) : Int) else 0
def gcdE (n1 : Bool) (xs : List Nat) (n2 : Bool) (ys : List Nat) : Int := if okI n1 xs && okI n2 ys then 0 else 1

def RetOf (A B : Option Addr) (c d : Nat) (xs ys : List Nat) (w : World) (z : Int) (e : Ending) (w' : World) : Prop := ∃ v, e = .returned v /\ (Zc w' w.heap.size v z ∨ (v = sv false A c xs /\ z = Zt false xs) ∨ (v = sv false B d ys /\ z = Zt false ys)) /\ Below w.heap.size w w'

def lz (z : Int) : Nat := (Za z.natAbs).length
theorem lz_le {z : Int} {k : Nat} : lz z <= k ↔ z.natAbs < 4294967296 ^ k := Z4
theorem lz_lt (z : Int) : z.natAbs < 4294967296 ^ lz z := lz_le.1 (Nat.le_refl _)
theorem lz_mono {x y : Int} (h : x.natAbs <= y.natAbs) : lz x <= lz y := lz_le.2 (Nat.lt_of_le_of_lt h (lz_lt y))
theorem Xg (x y : Int) : lz (x * y) <= lz x + lz y := by
 rw [lz_le, Int.natAbs_mul, Nat.pow_add]
 have h1 := lz_lt x
 have h2 := lz_lt y
 exact Nat.mul_lt_mul'' h1 h2
theorem lz_add (x y : Int) : lz (x + y) <= max (lz x) (lz y) + 1 := by
 rw [lz_le, Nat.pow_succ]
 have h1 : x.natAbs < 4294967296 ^ max (lz x) (lz y) := lz_le.1 (Nat.le_max_left _ _)
 have h2 : y.natAbs < 4294967296 ^ max (lz x) (lz y) := lz_le.1 (Nat.le_max_right _ _)
 have h3 := Int.natAbs_add_le x y
 generalize 4294967296 ^ max (lz x) (lz y) = p at *
 omega
theorem lz_neg (y : Int) : lz (-y) = lz y := by unfold lz; rw [Int.natAbs_neg]
theorem lz_sub (x y : Int) : lz (x - y) <= max (lz x) (lz y) + 1 := by
 have := lz_add x (-y)
 rw [lz_neg] at this
 exact this

theorem sgn_z (x : Int) : sgnI (decide (x < 0)) (Za x.natAbs) = x.sign := by
 unfold sgnI
 by_cases h0 : (Za x.natAbs).length = 0
 . rw [if_pos h0]
   have := YL.1 (List.eq_nil_of_length_eq_zero h0)
   have : x = 0 := by omega
   subst this; rfl
 . rw [if_neg h0]
   have hn : x ≠ 0 := fun e => h0 (by rw [e]; decide)
   by_cases hl : x < 0
   . rw [if_pos (decide_eq_true hl), Int.sign_eq_neg_one_of_neg hl]
   . rw [if_neg (by simpa using hl), Int.sign_eq_one_of_pos (by omega)]
theorem YZ (x : Int) : (x < 0 /\ x.sign = -1) ∨ (x = 0 /\ x.sign = 0) ∨ (0 < x /\ x.sign = 1) := by
 rcases Int.lt_trichotomy x 0 with h | h | h
 . exact .inl ⟨h, Int.sign_eq_neg_one_of_neg h⟩
 . exact .inr (.inl ⟨h, by rw [h]; rfl⟩)
 . exact .inr (.inr ⟨h, Int.sign_eq_one_of_pos h⟩)
theorem sign_lt {x y : Int} (h : x.sign < y.sign) : x < y := by
 have h1 := YZ x
 have h2 := YZ y
 omega
theorem sign_neg (x : Int) : x.sign = -1 /\ decide (x < 0) = true ∨ 0 <= x.sign /\ decide (x < 0) = false := by
 rcases YZ x with ⟨h, e⟩ | ⟨h, e⟩ | ⟨h, e⟩
 . exact .inl ⟨e, decide_eq_true h⟩
 . exact .inr ⟨by omega, decide_eq_false (by omega)⟩
 . exact .inr ⟨by omega, decide_eq_false (by omega)⟩
theorem cmp_like {x y : Int} (h : x.sign = y.sign) : Xw x y = if decide (x < 0) = true then Y1 y.natAbs x.natAbs else Y1 x.natAbs y.natAbs := by
 have h1 := YZ x
 have h2 := YZ y
 unfold Xw Y1
 by_cases hx : x < 0
 . rw [show decide (x < 0) = true from decide_eq_true hx, if_pos (rfl : true = true)]
   split <;> (try split) <;> (try split) <;> (try split) <;> omega
 . rw [show decide (x < 0) = false from decide_eq_false hx, if_neg Bool.false_ne_true]
   split <;> (try split) <;> (try split) <;> (try split) <;> omega
section
variable {P : Program} (w : World)
def Grew (w : World) (v : Value) (n : Nat) (v' : Value) (w' : World) : Prop :=
 (∃ g cap, v = .slice (some ⟨g, 0, none⟩) n cap /\ v' = .slice (some ⟨g, 0, none⟩) (n + 1) cap /\ w.grownBy w' (some g)) ∨ (v'.ownBlock = some w.heap.size /\ w.grownBy w' none)
end
end Go.Proofs.YtdonecnhdkjniaaGreatDoor
