/- Rings of whole numbers by their operations, matrices over them, powers and chains: plain, no program in sight. -/
import Derived.Test.YtalalbhhlbeghaaMatPlain
namespace Go.Proofs.Ytalalbhhlbeghaa
open Go.RowKit

structure Rng where
  add : Int → Int → Int
  mul : Int → Int → Int
  neg : Int → Int

def wrapR : Rng := ⟨fun a b => wrap64 (a + b), fun a b => wrap64 (a * b), fun a => wrap64 (-a)⟩
def smallR : Rng := ⟨fun a b => IntKind.i8.wrap (a + b), fun a b => IntKind.i8.wrap (a * b), fun a => IntKind.i8.wrap (-a)⟩

namespace M4
def gmul (R : Rng) (m n : M4) : M4 :=
  ⟨R.add (R.mul m.a n.a) (R.mul m.b n.c), R.add (R.mul m.a n.b) (R.mul m.b n.d), R.add (R.mul m.c n.a) (R.mul m.d n.c), R.add (R.mul m.c n.b) (R.mul m.d n.d)⟩
def gdet (R : Rng) (m : M4) : Int := R.add (R.mul m.a m.d) (R.neg (R.mul m.b m.c))
def gtrace (R : Rng) (m : M4) : Int := R.add m.a m.d
def gturned (R : Rng) (m : M4) : M4 := ⟨m.d, R.neg m.b, R.neg m.c, m.a⟩
/-- P8.4: bit by bit, from the lowest. k: more bits than n has. -/
def gpow (R : Rng) : Nat → M4 → M4 → Nat → M4
  | 0, r, _, _ => r
  | k + 1, r, s, n => if n = 0 then r else gpow R k (if n % 2 = 1 then gmul R s r else r) (gmul R s s) (n / 2)
theorem gpow_stop (R : Rng) (k : Nat) (r s : M4) : gpow R (k + 1) r s 0 = r := by simp [gpow]
theorem gpow_more (R : Rng) (k : Nat) (r s : M4) (n : Nat) (h : n ≠ 0) : gpow R (k + 1) r s n = gpow R k (if n % 2 = 1 then gmul R s r else r) (gmul R s s) (n / 2) := by
  rw [gpow, if_neg h]
def gchain (R : Rng) (r : M4) (l : List M4) : M4 := l.foldl (fun r m => gmul R m r) r
theorem gchain_snoc (R : Rng) (r : M4) (l : List M4) (k : Nat) (h : k < l.length) : gchain R r (l.take (k + 1)) = gmul R l[k] (gchain R r (l.take k)) := by
  rw [gchain, List.take_succ_eq_append_getElem h, List.foldl_append]; rfl
end M4
end Go.Proofs.Ytalalbhhlbeghaa
