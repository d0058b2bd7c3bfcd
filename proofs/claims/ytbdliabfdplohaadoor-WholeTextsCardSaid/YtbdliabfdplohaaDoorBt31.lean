/- Several texts in one: Answered, Append. -/
import Derived.Test.YtbdliabfdplohaaDoorBt23
import Derived.Test.YtbdliabfdplohaaDoorBtHd
import Derived.Test.YtbdliabfdplohaaDoorBt27
import Derived.Test.YtbdliabfdplohaaDoorBt02
set_option maxRecDepth 100000
set_option maxHeartbeats 8000000
/- answered: the same number, the same error. -/
namespace Go.Proofs.YtbdliabfdplohaaDoor
open Go.RowKit

theorem answered_own (b : Bool) (A B : Option Addr) (c d : Nat) (xs : List Nat) (k : Int) (w : World) (h : Raw w A c xs) (g : Raw w B d xs) :
    Calls Tryd.prog 12 #[.agg #[.bool b, .slice A xs.length c], .int .i64 k, .agg #[.bool b, .slice B xs.length d], .int .i64 k] w fun e w' => e = .returned (.bool true) ∧ Below w.heap.size w w' := by
  have b0 := Hd (((Below.refl w.heap.size w).alloc (Nat.le_refl _) (.cells #[.bool b, .slice A xs.length c] 24)).alloc (by simp) (.cells #[.bool b, .slice B xs.length d] 24))
  have C := same_any b b A B c d xs xs _ ((h.alloc (.cells #[.bool b, .slice A xs.length c] 24)).alloc (.cells #[.bool b, .slice B xs.length d] 24)) ((g.alloc (.cells #[.bool b, .slice A xs.length c] 24)).alloc (.cells #[.bool b, .slice B xs.length d] 24))
  rw [show decide (b = b ∧ xs = xs) = true by simp] at C
  have HC := Hd C
  clear C h g
  go_enter Tryd.func12, Tryd.ntmps12
  go_wp2_with (first | (go_at_call 16; refine HC.out.mono ?_; rintro e w' ⟨rfl, hb⟩))
  go_ret
  exact ⟨rfl, belowTo b0.out hb⟩
theorem answered_true (v1 v2 : Value) (r k : Int) (w : World) (h : IntAt w v1 r) (g : IntAt w v2 r) :
    Calls Tryd.prog 12 #[v1, .int .i64 k, v2, .int .i64 k] w fun e w' => e = .returned (.bool true) ∧ Below w.heap.size w w' := by
  obtain ⟨A, c, rfl, h1⟩ := h.form
  obtain ⟨B, d, rfl, g1⟩ := g.form
  exact answered_own _ A B c d _ k w h1 g1
/- An append of one cell to a row of the call's own: in place, or to a new block; the elder block then stays. -/
section
variable {P : Program} (w : World)
def Grew (w : World) (v : Value) (n : Nat) (v' : Value) (w' : World) : Prop :=
  (∃ g cap, v = .slice (some ⟨g, 0, none⟩) n cap ∧ v' = .slice (some ⟨g, 0, none⟩) (n + 1) cap ∧ w.grownBy w' (some g)) ∨ (v'.ownBlock = some w.heap.size ∧ w.grownBy w' none)
end
end Go.Proofs.YtbdliabfdplohaaDoor
