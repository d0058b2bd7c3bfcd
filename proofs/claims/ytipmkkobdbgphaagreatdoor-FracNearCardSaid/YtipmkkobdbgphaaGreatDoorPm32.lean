/- Several texts in one: Bytes, TrimDigits, RefRead, ExRead. -/
import Derived.Test.YtipmkkobdbgphaaGreatDoorPm05
import Derived.Lib.UnsafeStr
import Derived.Test.YtipmkkobdbgphaaGreatDoorPm31
import Derived.Test.YtipmkkobdbgphaaGreatDoorPm30
import Derived.Shelf.Strings.SlTrimAscii
import Derived.Test.YtipmkkobdbgphaaGreatDoorPm11
import Derived.Deep.Cut
import Derived.Deep.DeepCutAuto
import Derived.Lib.AtoiErrMem
set_option maxRecDepth 100000
set_option maxHeartbeats 8000000
/- Bytes in front of a block; a row cut short. -/
namespace Go.Proofs.YtipmkkobdbgphaaGreatDoor
open Go.RowKit

theorem byteCells_get {zs : List UInt8} {k : Nat} (hk : k < zs.length) : (Lib.byteCells zs)[k]? = some (.int .u8 (zs[k].toNat : Int)) := by
  simp [Lib.byteCells, hk]
structure Front8 (w : World) (g cap : Nat) (zs : List UInt8) : Prop where
  ex : ∃ rest : List Value, zs.length + rest.length = cap ∧ Blk w g 5 (Lib.byteCells zs ++ rest).toArray
theorem Front8.lt {w : World} {g cap : Nat} {zs : List UInt8} (h : Front8 w g cap zs) : g < w.heap.size := by
  obtain ⟨rest, -, hb⟩ := h.ex
  exact hb.lt
theorem Front8.fits {w : World} {g cap : Nat} {zs : List UInt8} (h : Front8 w g cap zs) : zs.length ≤ cap := by
  obtain ⟨rest, he, -⟩ := h.ex
  omega
theorem Front8.cell {w : World} {g cap : Nat} {zs : List UInt8} (h : Front8 w g cap zs) {k : Nat} (hk : k < zs.length) : w.cell? ⟨g, k, none⟩ = some (.int .u8 (zs[k].toNat : Int)) := by
  obtain ⟨rest, -, hb⟩ := h.ex
  rw [hb.cell, List.getElem?_toArray, List.getElem?_append_left (by rw [Lib.byteCells_length]; exact hk), byteCells_get hk]
theorem Front8.frozen {w : World} {g cap : Nat} {zs : List UInt8} (h : Front8 w g cap zs) (k : Nat) : w.frozen? ⟨g, k, none⟩ = false := by
  obtain ⟨rest, -, hb⟩ := h.ex
  exact hb.frozen k
theorem Front8.set {w : World} {g cap : Nat} {zs : List UInt8} (h : Front8 w g cap zs) {k : Nat} (hk : k < zs.length) (d : UInt8) : Front8 (w.setCell ⟨g, k, none⟩ (.int .u8 (d.toNat : Int))) g cap (zs.set k d) := by
  obtain ⟨rest, he, hb⟩ := h.ex
  refine ⟨rest, by simpa using he, ?_⟩
  have e : (Lib.byteCells (zs.set k d) ++ rest).toArray = (Lib.byteCells zs ++ rest).toArray.setIfInBounds k (.int .u8 (d.toNat : Int)) := by
    rw [List.setIfInBounds_toArray, List.set_append_left _ _ (by rw [Lib.byteCells_length]; exact hk)]
    simp [Lib.byteCells, List.map_set]
  rw [e]
  exact hb.set_ k _
theorem Front8.of_own {w : World} {base n cap g : Nat} {zs : List UInt8} (h : w.ownsRow base 5 1 (.slice (some ⟨g, 0, none⟩) n cap) n (Lib.byteCells zs)) : Front8 w g cap zs ∧ zs.length = n := by
  have hl : zs.length = n := by have := h.1; rw [Lib.byteCells_length] at this; omega
  rcases h.2 with ⟨k1, k2⟩ | ⟨g', cap', cur, k1, k2, k3, k4, k5, k6, k7⟩
  · cases k1
  · injection k1 with a1 a2 a3
    injection a1 with a1
    injection a1 with a1
    subst a1 a3
    refine ⟨⟨cur.toList.drop n, ?_, ?_⟩, hl⟩
    · have : cur.toList.length = cap := by rw [Array.length_toList]; omega
      rw [List.length_drop]; omega
    · rw [Nat.mul_one] at k7
      rw [← k7, List.take_append_drop]
      exact k3
/- strings.Trim of the ten digits: is anything left? -/

def isDig (b : UInt8) : Bool := decide (48 ≤ b.toNat ∧ b.toNat ≤ 57)
def NonD (l : List UInt8) : Prop := ∃ b ∈ l, isDig b = false
theorem NonD.cons {l : List UInt8} {b : UInt8} (h : isDig b = true) : NonD (b :: l) ↔ NonD l := by
  unfold NonD
  constructor
  · rintro ⟨x, hx, hx2⟩
    rw [List.mem_cons] at hx
    rcases hx with rfl | hx
    · rw [h] at hx2; cases hx2
    · exact ⟨x, hx, hx2⟩
  · rintro ⟨x, hx, hx2⟩
    exact ⟨x, List.mem_cons_of_mem _ hx, hx2⟩
def Trimmed (s : ByteArray) (w : World) (e : Ending) (w' : World) : Prop := ∃ t : ByteArray, e = .returned (.string t) ∧ (t.data.toList = [] ↔ ¬ NonD s.data.toList) ∧ Below w.heap.size w w'
/- Read of the references: the number of a text. -/

structure Split (s D : ByteArray) (neg : Bool) : Prop where
  neg : negOf s.data.toList = neg
  tail : tailOf s.data.toList = D.data.toList
def RetRead (base : Nat) (w : World) (o : Option Int) (e : Ending) (w' : World) : Prop := ∃ v, e = .returned (.tuple #[v, .bool o.isSome]) ∧ IntOwn w' base v (o.getD 0) ∧ Below w.heap.size w w'

/- Read of package exact: the number of a text. -/

def strLen : Value → Nat
  | .string t => t.size
  | _ => 0
structure Nine (w0 wl : World) (base : Nat) (AL : Option Addr) (cL : Nat) (xs : List Nat) (part i cc : Nat) : Prop where
  ex : ∃ P : List Nat, P.length = i ∧ Limbs P ∧ wl.ownsRow base 104 1 (.slice AL xs.length cL) xs.length (cellsU (P ++ xs.drop i)) ∧ val P + 4294967296 ^ i * cc = val (xs.take i) * 1000000000 + part
  low : Below w0.heap.size w0 wl
structure Got (W wl : World) (base : Nat) (D d : List UInt8) (AL : Option Addr) (cL v : Nat) : Prop where
  ex : ∃ pre, D = pre ++ d ∧ Lib.decFrom 0 pre = some v
  nine : v = 0 ∨ d.length % 9 = 0
  own : OwnN wl base (.slice AL (natL v).length cL) v
  low : Below W.heap.size W wl

end Go.Proofs.YtipmkkobdbgphaaGreatDoor
