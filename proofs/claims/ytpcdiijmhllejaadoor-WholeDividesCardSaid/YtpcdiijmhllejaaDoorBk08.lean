/- Several texts in one: RefAdd. -/
import Derived.Test.YtpcdiijmhllejaaDoorBk07
/- add and sub of the references: what they count. (Written by wip/exact/genrefadd.py.) -/
namespace Go.Proofs.YtpcdiijmhllejaaDoor
open Go.RowKit

theorem OwnL.of_row {w : World} {base : Nat} {v : Value} {zs : List Nat} (hz : Limbs zs) (h : w.ownsRow base 48 1 v zs.length (cellsU zs)) : OwnL w base v (val zs) zs.length := by
  rcases h.2 with ⟨h1, h2⟩ | ⟨g, cap, cur, h1, h2, h3, h4, h5, h6⟩
  · have : zs = [] := by cases zs with
      | nil => rfl
      | cons a l => simp at h2
    subst this
    subst h1
    exact ⟨none, 0, [], rfl, hz, rfl, Nat.le_refl _, Nat.le_refl _, by omega, World.ownsRow_nil _ _ _ _⟩
  · subst h1
    exact ⟨_, cap, zs, rfl, hz, rfl, Nat.le_refl _, h4, by unfold maxLen at h5; omega, h⟩
/-- .. cut to what is not nought at the end. -/
theorem OwnL.cut {w : World} {base : Nat} {A : Option Addr} {c : Nat} {zs : List Nat} {L : Nat} (hz : Limbs zs) (hc : zs.length ≤ c) (hm : c ≤ 9223372036854775807) (h : w.ownsRow base 48 1 (.slice A zs.length c) zs.length (cellsU zs)) (hL : zs.length ≤ L) : OwnL w base (.slice A (natL (val zs)).length c) (val zs) L := by
  have hle := natL_val_le hz
  refine ⟨A, c, natL (val zs), rfl, limbs_natL _, val_natL _, by omega, by omega, hm, ?_⟩
  rw [natL_take hz, List.length_take, Nat.min_eq_left hle]
  rw [cellsU_take]
  refine ⟨?_, ?_⟩
  · rw [List.length_take, cellsU_length]; omega
  · rcases h.2 with ⟨h1, h2⟩ | ⟨g, cap, cur, h1, h2, h3, h4, h5, h6, h7⟩
    · injection h1 with a1 a2 a3
      have : (natL (val zs)).length = 0 := by omega
      rw [this, a1, a3]
      exact .inl ⟨rfl, rfl⟩
    · refine .inr ⟨g, cap, cur, by injection h1 with a1 a2 a3; rw [a1, a3], h2, h3, by omega, h5, h6, ?_⟩
      rw [← h7, List.take_take, Nat.mul_one, Nat.mul_one, Nat.min_eq_left hle]
theorem OwnL.longer {w : World} {base : Nat} {v : Value} {n L L' : Nat} (h : OwnL w base v n L) (hl : L ≤ L') : OwnL w base v n L' := by
  obtain ⟨A, c, zs, h1, h2, h3, h4, h5⟩ := h.form
  exact ⟨A, c, zs, h1, h2, h3, by omega, h5⟩

end Go.Proofs.YtpcdiijmhllejaaDoor
