/- answered: the same number, the same error. -/
import Derived.Test.YtpcdiijmhllejaaGreatDoorAnswer
import Derived.Test.YtpcdiijmhllejaaGreatDoorTwin2
namespace Go.Proofs.YtpcdiijmhllejaaGreatDoor
open Go.RowKit

theorem told_short (z : Int) : (natL (toldV z).natAbs).length ≤ 2048 := by
  unfold toldV
  split
  · assumption
  · decide

set_option maxRecDepth 100000 in
set_option maxHeartbeats 1000000 in
theorem answered_own (b : Bool) (A B : Option Addr) (c d : Nat) (xs : List Nat) (k : Int) (w : World) (h : Raw w A c xs) (g : Raw w B d xs) :
    Calls Tryz.prog 15 #[.agg #[.bool b, .slice A xs.length c], .int .i64 k, .agg #[.bool b, .slice B xs.length d], .int .i64 k] w fun e w' => e = .returned (.bool true) ∧ Below w.heap.size w w' := by
  have b0 := Lib.hid (((Below.refl w.heap.size w).alloc (Nat.le_refl _) (.cells #[.bool b, .slice A xs.length c] 24)).alloc (by simp) (.cells #[.bool b, .slice B xs.length d] 24))
  have C := same_any b b A B c d xs xs _ ((h.alloc (.cells #[.bool b, .slice A xs.length c] 24)).alloc (.cells #[.bool b, .slice B xs.length d] 24)) ((g.alloc (.cells #[.bool b, .slice A xs.length c] 24)).alloc (.cells #[.bool b, .slice B xs.length d] 24))
  rw [show decide (b = b ∧ xs = xs) = true by simp] at C
  have HC := Lib.hid C
  clear C h g
  go_enter Tryz.func15, Tryz.ntmps15
  go_wp2_with (first | (go_at_call 23; refine HC.out.mono ?_; rintro e w' ⟨rfl, hb⟩))
  go_ret
  exact ⟨rfl, belowTo b0.out hb⟩
theorem answered_true (v1 v2 : Value) (r k : Int) (w : World) (h : IntAt w v1 r) (g : IntAt w v2 r) :
    Calls Tryz.prog 15 #[v1, .int .i64 k, v2, .int .i64 k] w fun e w' => e = .returned (.bool true) ∧ Below w.heap.size w w' := by
  obtain ⟨A, c, rfl, h1⟩ := h.form
  obtain ⟨B, d, rfl, g1⟩ := g.form
  exact answered_own _ A B c d _ k w h1 g1
end Go.Proofs.YtpcdiijmhllejaaGreatDoor
