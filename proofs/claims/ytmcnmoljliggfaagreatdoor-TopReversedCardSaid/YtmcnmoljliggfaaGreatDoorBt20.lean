/- Several texts in one: Look, Apart, Up, UpIn, FVar. -/
import Derived.Test.YtmcnmoljliggfaaGreatDoorBt19
import Derived.Test.YtmcnmoljliggfaaGreatDoorBt18
set_option maxRecDepth 100000
set_option maxHeartbeats 8000000
/- lookLimb: all lists of a Book bear their marks. -/
namespace Go.Proofs.YtmcnmoljliggfaaGreatDoor
open Go.RowKit

/- Apart: lists of limbs that share no memory pass. (Written by wip/book/gennil.py.) -/

/- Apart over a list of rows that lie one behind the other. -/

def RowsUp (w : World) : Nat → List Value → Nat → Prop
  | lo, [], hi => lo ≤ hi
  | lo, v :: vs, hi => ∃ n X mid, n ≤ 1073741824 ∧ w.ownsRow lo tLimb 1 v n X ∧ (∀ g, v.ownBlock = some g → g < mid) ∧ lo ≤ mid ∧ RowsUp w mid vs hi
/- Apart over a list of rows none of which lies in another's memory, in whatever order they were made. -/

structure RowsIn (w : World) (lo : Nat) (vs : List Value) (hi : Nat) : Prop where
  le : lo ≤ hi
  row : ∀ j, j < vs.length → ∃ n X, n ≤ 1073741824 ∧ w.ownsRow lo tLimb 1 (vs.getD j nilS) n X ∧ ∀ g, (vs.getD j nilS).ownBlock = some g → g < hi
  apart : ∀ j k, j < k → k < vs.length → ∀ g, (vs.getD j nilS).ownBlock = some g → (vs.getD k nilS).ownBlock ≠ some g
/- Variables of fractions in the laws' walks; what a law may cost; rows of a Book. -/

structure FVar (w : World) (g : Nat) (n d : Int) (A : Option Addr) (c : Nat) (B : Option Addr) (e lo hi : Nat) : Prop where
  quad : Quad w g (.bool (decide (n < 0))) (.slice A (natL n.natAbs).length c) (.bool (decide (d < 0))) (.slice B (natL d.natAbs).length e)
  own : FracOwn w lo (.agg #[.bool (decide (n < 0)), .slice A (natL n.natAbs).length c, .bool (decide (d < 0)), .slice B (natL d.natAbs).length e]) n d
  top1 : ∀ x, (Value.slice A (natL n.natAbs).length c).ownBlock = some x → x < hi
  top2 : ∀ x, (Value.slice B (natL d.natAbs).length e).ownBlock = some x → x < hi
structure SliceOf (ns : List Nat) (u : Value) (V : World) : Prop where
  form : ∃ g t, u = .slice (some ⟨g, 0, none⟩) ns.length ns.length ∧ Blk V g t (cellsI ns).toArray
theorem SliceOf.kept {ns : List Nat} {u : Value} {V V' : World} {B : Nat} (h : SliceOf ns u V) (k : KeptV B [] V V') : SliceOf ns u V' := by
  obtain ⟨g, t, h1, h2⟩ := h.form
  exact ⟨g, t, h1, k.blk h2 (by simp)⟩
theorem SliceOf.new (ns : List Nat) (t : TypeId) (V : World) (vs : Array Value) (h : vs = (cellsI ns).toArray) : SliceOf ns (.slice (some ⟨V.heap.size, 0, none⟩) ns.length ns.length) (V.alloc (.cells vs t)) := by
  subst h
  exact ⟨_, _, rfl, Blk.new _ _ _⟩
def costN (a b : Nat) : Nat := min a 1048576 * min b 1048576 / 16 * 1024
theorem costLow_N (a b : Nat) : costLow a b = ((costN a b : Nat) : Int) := by
  unfold costLow costN
  generalize min a 1048576 = p
  generalize min b 1048576 = q
  rw [Int.natCast_mul, Int.natCast_ediv, Int.natCast_mul]
  rfl
theorem costN_le (a b : Nat) : costN a b ≤ 70368744177664 := by
  have : min a 1048576 * min b 1048576 ≤ 1048576 * 1048576 := Nat.mul_le_mul (Nat.min_le_right _ _) (Nat.min_le_right _ _)
  unfold costN
  omega
end Go.Proofs.YtmcnmoljliggfaaGreatDoor
