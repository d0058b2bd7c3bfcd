/- Several texts in one: FAnswered, CmpW, OfW, WrapI. -/
import Derived.Test.YthlehkjcfhnplaaGreatDoorGn19
import Derived.Test.YthlehkjcfhnplaaGreatDoorGn10
import Derived.Test.YthlehkjcfhnplaaGreatDoorGn08
import Derived.Test.YthlehkjcfhnplaaGreatDoorGn09
import Derived.Test.YthlehkjcfhnplaaGreatDoorGn05
import Derived.Test.YthlehkjcfhnplaaGreatDoorGn04
import Derived.Test.YthlehkjcfhnplaaGreatDoorGn02
import Derived.Test.YthlehkjcfhnplaaGreatDoorGn03
import Derived.Test.YthlehkjcfhnplaaGreatDoorGn01
import Derived.Test.YthlehkjcfhnplaaGreatDoorGn07
import Derived.Test.YthlehkjcfhnplaaGreatDoorGn06
import Derived.Test.YthlehkjcfhnplaaGreatDoorGn18
import Derived.Test.YthlehkjcfhnplaaGreatDoorGn16
import Derived.Test.YthlehkjcfhnplaaGreatDoorGn11
import Derived.Test.YthlehkjcfhnplaaGreatDoorGn13
import Derived.Test.YthlehkjcfhnplaaGreatDoorGn15
import Derived.Test.YthlehkjcfhnplaaGreatDoorGn14
import Derived.Test.YthlehkjcfhnplaaGreatDoorGn12
import Derived.Test.YthlehkjcfhnplaaGreatDoorGn17
set_option maxRecDepth 100000
set_option maxHeartbeats 8000000
/- answered of package frac. -/
namespace Go.Proofs.YthlehkjcfhnplaaGreatDoor
open Go.RowKit

theorem FracOwn.nought (w : World) (base : Nat) : FracOwn w base (.agg #[.bool false, .slice none 0 0, .bool false, .slice none 0 0]) 0 0 :=
  ⟨none, 0, none, 0, rfl, IntOwn.nought _ _, IntOwn.nought _ _, fun g hg => by cases hg⟩
theorem FracOwn.quad {w : World} {base g : Nat} {v a b c d : Value} {n m : Int} (h : FracOwn w base v n m) (q : Quad w g a b c d) (x y z u : Value) : FracOwn ((((w.setCell ⟨g, 0, none⟩ x).setCell ⟨g, 1, none⟩ y).setCell ⟨g, 2, none⟩ z).setCell ⟨g, 3, none⟩ u) base v n m := by
  obtain ⟨A, k, B, e, h1, h2, h3, h4⟩ := h.form
  have one : ∀ {v : Value} {x' : Int}, IntOwn w base v x' → IntOwn ((((w.setCell ⟨g, 0, none⟩ x).setCell ⟨g, 1, none⟩ y).setCell ⟨g, 2, none⟩ z).setCell ⟨g, 3, none⟩ u) base v x' := fun {v x'} hi => by
    obtain ⟨A', c', a1, a2, a3, a4⟩ := hi.form
    have hne := own_blk_ne a4 q.blk (by decide)
    refine ⟨A', c', a1, a2, a3, a4.1, ?_⟩
    rcases a4.2 with p | ⟨g', cap, cur, p1, p2, p3, p4⟩
    · exact .inl p
    · refine .inr ⟨g', cap, cur, p1, p2, ?_, p4⟩
      have hg : g' ≠ g := fun e => by
        rw [p1] at hne
        exact hne (by simp [Value.ownBlock, e])
      rw [Below.heap_setCell _ ⟨g, 3, none⟩ u g' hg, Below.heap_setCell _ ⟨g, 2, none⟩ z g' hg, Below.heap_setCell _ ⟨g, 1, none⟩ y g' hg, Below.heap_setCell _ ⟨g, 0, none⟩ x g' hg]
      exact p3
  exact ⟨A, k, B, e, h1, one h2, one h3, h4⟩
theorem FracOwn.base {w : World} {b b' : Nat} {v : Value} {n d : Int} (h : FracOwn w b v n d) (hb : b' ≤ b) : FracOwn w b' v n d := by
  obtain ⟨A, k, B, e, h1, h2, h3, h4⟩ := h.form
  exact ⟨A, k, B, e, h1, h2.base hb, h3.base hb, h4⟩
/- Cmp of package whole and of the references. (Written by wip/exact/genfine.py, cut off by hand.) -/

/- Of of package whole. -/

/- Sign, Bits of package whole and of the references: 0 of what may not be. (Written by wip/exact/genwrap.py.) -/

end Go.Proofs.YthlehkjcfhnplaaGreatDoor
