/- Several texts in one: RefBits, Same, Beyond, Twin. -/
import Derived.Test.YtipmkkobdbgphaaGreatDoorPm04
import Derived.Test.YtipmkkobdbgphaaGreatDoorPm01
import Derived.Test.YtipmkkobdbgphaaGreatDoorProg
import Derived.WalkKit
import Derived.WalkSpells
import Derived.WalkLawsBesides
import Derived.Lib.Hide
set_option maxRecDepth 100000
set_option maxHeartbeats 8000000
/- Bits of the references: a loop. -/
namespace Go.Proofs.YtipmkkobdbgphaaGreatDoor
open Go.RowKit

/- SameInt: the same sign, the same limbs. -/

/- Beyond: whether sizes, taken together, are too much to be copied. -/

def cellsI (zs : List Nat) : List Value := zs.map fun x : Nat => .int .i64 (x : Int)
theorem cellsI_length (zs : List Nat) : (cellsI zs).length = zs.length := by simp [cellsI]
theorem cellsI_get {zs : List Nat} {k : Nat} (h : k < zs.length) : (cellsI zs)[k]? = some (.int .i64 zs[k]) := by simp [cellsI, h]
theorem sum_take_le (zs : List Nat) (k : Nat) : (zs.take k).sum ≤ zs.sum := by
  have h := List.take_append_drop k zs
  have : zs.sum = (zs.take k).sum + (zs.drop k).sum := by rw [← List.sum_append, h]
  omega
theorem sum_take_more (zs : List Nat) (k : Nat) (h : k < zs.length) : (zs.take (k + 1)).sum = (zs.take k).sum + zs[k] := by
  rw [List.take_succ_eq_append_getElem h, List.sum_append]; simp

/- Beyond, IntSize, TwinInt, LeftInt: what the statements copy, and whether a copy is still what it was made of. -/

theorem intSize_any (neg : Bool) (A : Option Addr) (c n : Nat) (hn : n ≤ 1152921504606846975) (w : World) :
    Calls Tryz.prog 125 #[.agg #[.bool neg, .slice A n c]] w fun e w' => e = .returned (.int .i64 ((1 + n : Nat) : Int)) ∧ Below w.heap.size w w' := by
  go_enter Tryz.func125, Tryz.ntmps125
  go_wp2
  go_ret
  exact ⟨by go_num, by repeat (first | exact Below.refl _ _ | refine Below.alloc ?_ (by simp; try omega) _)⟩

structure TwinAt (w : World) (g : Nat) (xs : List Nat) : Prop where
  blk : Blk w g 104 (cellsU (xs ++ [7777])).toArray
theorem TwinAt.below {w w' : World} {g : Nat} {xs : List Nat} (h : TwinAt w g xs) (hb : Below w.heap.size w w') : TwinAt w' g xs := ⟨h.blk.below hb h.blk.lt⟩
theorem TwinAt.alloc {w : World} {g : Nat} {xs : List Nat} (h : TwinAt w g xs) (o : Obj) : TwinAt (w.alloc o) g xs := ⟨h.blk.alloc o⟩
theorem TwinAt.cell {w : World} {g : Nat} {xs : List Nat} (h : TwinAt w g xs) {k : Nat} (hk : k < xs.length) : w.cell? ⟨g, k, none⟩ = some (.int .u32 xs[k]) := by
  rw [h.blk.cell, List.getElem?_toArray, cellsU_get (by simp; omega), List.getElem_append_left hk]
theorem TwinAt.raw {w : World} {g : Nat} {xs : List Nat} (hx : Limbs xs) (hl : xs.length < 9223372036854775807) (h : TwinAt w g xs) : Raw w (some ⟨g, 0, none⟩) (xs.length + 1) xs := by
  refine ⟨hx, Nat.le_succ _, by omega, by rw [cellsU_length, Nat.mul_one], fun _ => ⟨⟨g, 0, none⟩, rfl, h.blk.lt, fun j u hu => ?_⟩⟩
  have hj : j < xs.length := by
    have := (List.getElem?_eq_some_iff.1 hu).1
    rwa [cellsU_length] at this
  rw [cellsU_get hj] at hu
  have e : (⟨g, 0, none⟩ : Addr).add j = ⟨g, j, none⟩ := by unfold Addr.add; split <;> simp_all
  rw [e, ← hu]
  exact h.cell hj

theorem cellsU_one (xs : List Nat) : ∀ u ∈ cellsU xs, u.oneCell' = true := by
  intro u hu
  simp [cellsU] at hu
  obtain ⟨a, _, rfl⟩ := hu
  rfl

theorem TwinAt.of_own {w : World} {base g : Nat} {xs : List Nat} (h : w.ownsRow base 104 1 (.slice (some ⟨g, 0, none⟩) (xs.length + 1) (xs.length + 1)) (xs.length + 1) (cellsU xs ++ [.int .u32 7777])) : TwinAt w g xs := by
  rcases h.2 with ⟨h1, h2⟩ | ⟨g', cap, cur, h1, h2, h3, h4, h5, h6, h7⟩
  · omega
  · injection h1 with a1 a2 a3
    injection a1 with a1
    injection a1 with a1
    subst a1 a3
    refine ⟨?_⟩
    unfold Blk
    rw [h3]
    have e : cur.toList = cellsU (xs ++ [7777]) := by
      rw [List.take_of_length_le (by rw [Array.length_toList]; omega)] at h7
      rw [h7]; simp [cellsU]
    rw [← e]

end Go.Proofs.YtipmkkobdbgphaaGreatDoor
