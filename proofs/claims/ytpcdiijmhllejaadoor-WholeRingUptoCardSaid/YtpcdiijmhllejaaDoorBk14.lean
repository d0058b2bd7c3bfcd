/- Several texts in one: Beyond, Twin. -/
import Derived.Test.YtpcdiijmhllejaaDoorBk01
import Derived.Test.YtpcdiijmhllejaaDoorProg
import Derived.WalkKit
import Derived.WalkSpells
import Derived.WalkLawsBesides
import Derived.Lib.Hide
import Derived.Test.YtpcdiijmhllejaaDoorBk13
/- Beyond: whether sizes, taken together, are too much to be copied. -/
namespace Go.Proofs.YtpcdiijmhllejaaDoor
open Go.RowKit

/-- Sizes as cells. -/
def cellsI (zs : List Nat) : List Value := zs.map fun x : Nat => .int .i64 (x : Int)
theorem cellsI_length (zs : List Nat) : (cellsI zs).length = zs.length := by simp [cellsI]
theorem cellsI_get {zs : List Nat} {k : Nat} (h : k < zs.length) : (cellsI zs)[k]? = some (.int .i64 zs[k]) := by simp [cellsI, h]
theorem sum_take_le (zs : List Nat) (k : Nat) : (zs.take k).sum ≤ zs.sum := by
  have h := List.take_append_drop k zs
  have : zs.sum = (zs.take k).sum + (zs.drop k).sum := by rw [← List.sum_append, h]
  omega
theorem sum_take_more (zs : List Nat) (k : Nat) (h : k < zs.length) : (zs.take (k + 1)).sum = (zs.take k).sum + zs[k] := by
  rw [List.take_succ_eq_append_getElem h, List.sum_append]; simp

end Go.Proofs.YtpcdiijmhllejaaDoor

/- Beyond, IntSize, TwinInt, LeftInt: what the statements copy, and whether a copy is still what it was made of. -/
namespace Go.Proofs.YtpcdiijmhllejaaDoor
open Go.RowKit

/-- A copy with a mark in the room behind. -/
structure TwinAt (w : World) (g : Nat) (xs : List Nat) : Prop where
  blk : Blk w g 48 (cellsU (xs ++ [7777])).toArray
theorem TwinAt.below {w w' : World} {g : Nat} {xs : List Nat} (h : TwinAt w g xs) (hb : Below w.heap.size w w') : TwinAt w' g xs := ⟨h.blk.below hb h.blk.lt⟩
theorem TwinAt.alloc {w : World} {g : Nat} {xs : List Nat} (h : TwinAt w g xs) (o : Obj) : TwinAt (w.alloc o) g xs := ⟨h.blk.alloc o⟩
theorem TwinAt.cell {w : World} {g : Nat} {xs : List Nat} (h : TwinAt w g xs) {k : Nat} (hk : k < xs.length) : w.cell? ⟨g, k, none⟩ = some (.int .u32 xs[k]) := by
  rw [h.blk.cell, List.getElem?_toArray, cellsU_get (by simp; omega), List.getElem_append_left hk]
theorem TwinAt.mark {w : World} {g : Nat} {xs : List Nat} (h : TwinAt w g xs) : w.cell? ⟨g, xs.length, none⟩ = some (.int .u32 7777) := by
  rw [h.blk.cell]
  simp [cellsU]
theorem TwinAt.raw {w : World} {g : Nat} {xs : List Nat} (hx : Limbs xs) (hl : xs.length < 9223372036854775807) (h : TwinAt w g xs) : Raw w (some ⟨g, 0, none⟩) (xs.length + 1) xs := by
  refine ⟨hx, Nat.le_succ _, by omega, by rw [cellsU_length, Nat.mul_one], fun _ => ⟨⟨g, 0, none⟩, rfl, h.blk.lt, fun j u hu => ?_⟩⟩
  have hj : j < xs.length := by
    have := (List.getElem?_eq_some_iff.1 hu).1
    rwa [cellsU_length] at this
  rw [cellsU_get hj] at hu
  have e : (⟨g, 0, none⟩ : Addr).add j = ⟨g, j, none⟩ := by unfold Addr.add; split <;> simp_all
  rw [e, ← hu]
  exact h.cell hj

theorem cellsU_one (xs : List Nat) : ∀ u ∈ cellsU xs, u.oneCell' = true := by
  intro u hu
  simp [cellsU] at hu
  obtain ⟨a, _, rfl⟩ := hu
  rfl

theorem TwinAt.of_own {w : World} {base g : Nat} {xs : List Nat} (h : w.ownsRow base 48 1 (.slice (some ⟨g, 0, none⟩) (xs.length + 1) (xs.length + 1)) (xs.length + 1) (cellsU xs ++ [.int .u32 7777])) : TwinAt w g xs := by
  rcases h.2 with ⟨h1, h2⟩ | ⟨g', cap, cur, h1, h2, h3, h4, h5, h6, h7⟩
  · omega
  · injection h1 with a1 a2 a3
    injection a1 with a1
    injection a1 with a1
    subst a1 a3
    refine ⟨?_⟩
    unfold Blk
    rw [h3]
    have e : cur.toList = cellsU (xs ++ [7777]) := by
      rw [List.take_of_length_le (by rw [Array.length_toList]; omega)] at h7
      rw [h7]; simp [cellsU]
    rw [← e]

end Go.Proofs.YtpcdiijmhllejaaDoor
