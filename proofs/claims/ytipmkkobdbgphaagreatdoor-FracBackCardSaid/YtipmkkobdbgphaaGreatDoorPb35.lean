/- Several texts in one: FrontAt, RefDigits, RText, RRead. -/
import Derived.Test.YtipmkkobdbgphaaGreatDoorPb31
import Derived.Test.YtipmkkobdbgphaaGreatDoorPb05
import Derived.Test.YtipmkkobdbgphaaGreatDoorPb30
import Derived.Test.YtipmkkobdbgphaaGreatDoorPb08
import Derived.Test.YtipmkkobdbgphaaGreatDoorPb32
import Derived.Deep.LoopGhost
import Derived.Laws.IdiomStrings
import Derived.Lib.Itoa
import Derived.Test.YtipmkkobdbgphaaGreatDoorPb23
import Derived.Test.YtipmkkobdbgphaaGreatDoorPb33
import Derived.Deep.CutBlock
import Derived.Deep.Cut
import Derived.Deep.DeepCutAuto
set_option maxRecDepth 100000
set_option maxHeartbeats 8000000
/- Where the first bar stands; plain. -/
namespace Go.Proofs.YtipmkkobdbgphaaGreatDoor
open Go.RowKit

/- Digits of the references: the decimal text of a whole number. -/

structure Rd (w wr : World) (n1 : Bool) (S : Value) (V v : Nat) (cs : List Nat) (AP : Option Addr) (cP : Nat) (AL : Option Addr) (cL : Nat) : Prop where
  low : Below w.heap.size w wr
  raw : Raw wr AL cL (natL v)
  parts : wr.ownsRow (w.heap.size + 1) 104 1 (.slice AP cs.length cP) cs.length (cellsU cs)
  px : Pair wr w.heap.size 25 (.bool n1) S
  all : chunks V = cs ++ chunks v
  big : v * 2 ^ (29 * cs.length) ≤ V
  few : cs.length ≤ 2000001
def Rev (M : List UInt8) (i : Nat) (ys : List UInt8) : Prop := ys.length = M.length ∧ ∀ j, j < M.length → ys[j]? = if j < i ∨ M.length ≤ j + i then M[M.length - 1 - j]? else M[j]?
theorem Rev.start (M : List UInt8) : Rev M 0 M := ⟨rfl, fun j hj => by rw [if_neg (by omega)]⟩
theorem Rev.done {M ys : List UInt8} {i : Nat} (h : Rev M i ys) (hi : M.length ≤ 2 * i + 1) : ys = M.reverse := by
  apply List.ext_getElem?
  intro j
  rcases Nat.lt_or_ge j M.length with hj | hj
  · rw [h.2 j hj, List.getElem?_reverse hj]
    split
    · rfl
    · rw [show M.length - 1 - j = j by omega]
  · rw [List.getElem?_eq_none (by rw [h.1]; exact hj), List.getElem?_eq_none (by simpa using hj)]
theorem Rev.at_ {M ys : List UInt8} {i j : Nat} (h : Rev M i ys) (hj : j < M.length) (h1 : i ≤ j) (h2 : j + i < M.length) : ys[j]'(by rw [h.1]; exact hj) = M[j] := by
  have := h.2 j hj
  rw [if_neg (by omega), List.getElem?_eq_getElem hj, List.getElem?_eq_getElem (by rw [h.1]; exact hj)] at this
  exact Option.some.inj this
/- Digits of the references of chapter 02. (Written by wip/frac/genrtext.py.) -/

/- Read of the references of chapter 02. (Written by wip/frac/genrread.py.) -/

def RetReadG (w : World) (T : Int → Int → Bool → Prop) (e : Ending) (w' : World) : Prop := ∃ N D B, RetFracB w N D B e w' ∧ T N D B

end Go.Proofs.YtipmkkobdbgphaaGreatDoor
