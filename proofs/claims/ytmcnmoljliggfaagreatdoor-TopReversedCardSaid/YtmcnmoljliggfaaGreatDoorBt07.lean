/- Several texts in one: Answer, Append, Book, Keep, KeepFar. -/
import Derived.Test.YtmcnmoljliggfaaGreatDoorBt06
set_option maxRecDepth 100000
set_option maxHeartbeats 8000000
/- told, Add, Sub, Mul of package whole and of the references. (Written by wip/exact/gentold.py.) -/
namespace Go.Proofs.YtmcnmoljliggfaaGreatDoor
open Go.RowKit

/- An append of one cell to a row of the call's own: in place, or to a new block; the elder block then stays. -/
section
variable {P : Program} (w : World)
def Grew (w : World) (v : Value) (n : Nat) (v' : Value) (w' : World) : Prop :=
  (∃ g cap, v = .slice (some ⟨g, 0, none⟩) n cap ∧ v' = .slice (some ⟨g, 0, none⟩) (n + 1) cap ∧ w.grownBy w' (some g)) ∨ (v'.ownBlock = some w.heap.size ∧ w.grownBy w' none)
end
/- A Book that holds lists of limbs: what lies in memory; keepLimb. -/

def markU (j : Nat) : Value := .int .u32 ((100001 + j : Nat) : Int)
abbrev nilS : Value := .slice none 0 0
abbrev bookC (m : Nat) (lims : Value) : Array Value := #[.int .i64 (m : Int), lims, nilS, nilS, nilS, nilS, nilS, nilS, nilS, nilS, nilS, nilS, nilS, nilS, nilS, nilS, nilS]
abbrev tLimb : TypeId := 109
def updV (f : Nat → Value) (i : Nat) (v : Value) : Nat → Value := fun j => if j = i then v else f j
def updL (f : Nat → List Value) (i : Nat) (v : List Value) : Nat → List Value := fun j => if j = i then v else f j
structure Plain (b g0 m B0 : Nat) (l : Nat → Value) (n : Nat → Nat) : Prop where
  hb : B0 ≤ b
  hg : b < g0
  hm : m ≤ 1000
  hn : ∀ j, j < m → n j ≤ 1073741824
  under : ∀ j, j < m → ∀ g, (l j).ownBlock = some g → g ≠ b ∧ g ≠ g0
  apart : ∀ j k, j < m → k < m → j ≠ k → ∀ g, (l j).ownBlock = some g → (l k).ownBlock ≠ some g
section
variable {w0 w w' : World} {b g0 cap m B0 : Nat} {l long : Nat → Value} {n : Nat → Nat} {X : Nat → List Value}
end

def heldCells (l : Nat → Value) (m : Nat) : List Value := (List.range m).flatMap fun j => [l j, nilS, .int .i64 ((j + 1 : Nat) : Int)]
/- keepLimb: a list is put into a Book. -/
/- keepLimb leaves a block that is not the Book's as it is. (Written by wip/book/genkeepfar.py.) -/

end Go.Proofs.YtmcnmoljliggfaaGreatDoor
