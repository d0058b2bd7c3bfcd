/- Several texts in one: FAnswered, CmpW, OfW, WrapI. -/
import Derived.Test.YthlehkjcfhnplaaGreatDoorGc19
import Derived.Test.YthlehkjcfhnplaaGreatDoorGcHd
import Derived.Test.YthlehkjcfhnplaaGreatDoorGc10
import Derived.Test.YthlehkjcfhnplaaGreatDoorGc03
import Derived.Test.YthlehkjcfhnplaaGreatDoorGc07
set_option maxRecDepth 100000
set_option maxHeartbeats 8000000
/- answered of package frac. -/
namespace Go.Proofs.YthlehkjcfhnplaaGreatDoor
open Go.RowKit

theorem FracOwn.nought (w : World) (base : Nat) : FracOwn w base (.agg #[.bool false, .slice none 0 0, .bool false, .slice none 0 0]) 0 0 :=
  ⟨none, 0, none, 0, rfl, IntOwn.nought _ _, IntOwn.nought _ _, fun g hg => by cases hg⟩
theorem FracOwn.quad {w : World} {base g : Nat} {v a b c d : Value} {n m : Int} (h : FracOwn w base v n m) (q : Quad w g a b c d) (x y z u : Value) : FracOwn ((((w.setCell ⟨g, 0, none⟩ x).setCell ⟨g, 1, none⟩ y).setCell ⟨g, 2, none⟩ z).setCell ⟨g, 3, none⟩ u) base v n m := by
  obtain ⟨A, k, B, e, h1, h2, h3, h4⟩ := h.form
  have one : ∀ {v : Value} {x' : Int}, IntOwn w base v x' → IntOwn ((((w.setCell ⟨g, 0, none⟩ x).setCell ⟨g, 1, none⟩ y).setCell ⟨g, 2, none⟩ z).setCell ⟨g, 3, none⟩ u) base v x' := fun {v x'} hi => by
    obtain ⟨A', c', a1, a2, a3, a4⟩ := hi.form
    have hne := own_blk_ne a4 q.blk (by decide)
    refine ⟨A', c', a1, a2, a3, a4.1, ?_⟩
    rcases a4.2 with p | ⟨g', cap, cur, p1, p2, p3, p4⟩
    · exact .inl p
    · refine .inr ⟨g', cap, cur, p1, p2, ?_, p4⟩
      have hg : g' ≠ g := fun e => by
        rw [p1] at hne
        exact hne (by simp [Value.ownBlock, e])
      rw [Below.heap_setCell _ ⟨g, 3, none⟩ u g' hg, Below.heap_setCell _ ⟨g, 2, none⟩ z g' hg, Below.heap_setCell _ ⟨g, 1, none⟩ y g' hg, Below.heap_setCell _ ⟨g, 0, none⟩ x g' hg]
      exact p3
  exact ⟨A, k, B, e, h1, one h2, one h3, h4⟩
theorem FracOwn.base {w : World} {b b' : Nat} {v : Value} {n d : Int} (h : FracOwn w b v n d) (hb : b' ≤ b) : FracOwn w b' v n d := by
  obtain ⟨A, k, B, e, h1, h2, h3, h4⟩ := h.form
  exact ⟨A, k, B, e, h1, h2.base hb, h3.base hb, h4⟩
theorem frac_answered_fits (n d : Int) (A B : Option Addr) (c e0 : Nat) (w : World) (h : Raw w A c (natL n.natAbs)) (g : Raw w B e0 (natL d.natAbs)) (hn : lz n ≤ 2048) (hd : lz d ≤ 2048) :
    Calls Tryz.prog 213 #[.agg #[.bool (decide (n < 0)), .slice A (natL n.natAbs).length c, .bool (decide (d < 0)), .slice B (natL d.natAbs).length e0]] w (RetFracOwn2 w.heap.size w n d 0) := by
  have px := (Quad.new w (.bool (decide (n < 0))) (.slice A (natL n.natAbs).length c) (.bool (decide (d < 0))) (.slice B (natL d.natAbs).length e0)).alloc (.cells #[.bool false, .slice none 0 0, .bool false, .slice none 0 0] 26)
  have pr := Quad.new (w.alloc (.cells #[.bool (decide (n < 0)), .slice A (natL n.natAbs).length c, .bool (decide (d < 0)), .slice B (natL d.natAbs).length e0] 26)) (.bool false) (.slice none 0 0) (.bool false) (.slice none 0 0)
  have b0 := ((Below.refl w.heap.size w).alloc (Nat.le_refl _) (.cells #[.bool (decide (n < 0)), .slice A (natL n.natAbs).length c, .bool (decide (d < 0)), .slice B (natL d.natAbs).length e0] 26)).alloc (by simp) (.cells #[.bool false, .slice none 0 0, .bool false, .slice none 0 0] 26)
  simp only [World.size_alloc] at pr
  have hn' : (natL n.natAbs).length ≤ 2048 := hn
  have hd' : (natL d.natAbs).length ≤ 2048 := hd
  have H1 := Hd (fun (V : World) (g' : Nat) (hg : V.heap.size = g') => ratio_Answer_false (decide (n < 0)) (decide (d < 0)) A B (natL n.natAbs).length c (natL d.natAbs).length e0 g' (by omega) (by omega) (by simp; omega) (V.alloc (.cells #[.bool (decide (n < 0)), .slice A (natL n.natAbs).length c, .bool (decide (d < 0)), .slice B (natL d.natAbs).length e0] 26)) (by subst hg; exact Quad.new _ _ _ _ _))
  have H2 := Hd (fun (V : World) (h : Raw V A c (natL n.natAbs)) (g : Raw V B e0 (natL d.natAbs)) => ratio_Copy n d A B c e0 V h g (by omega) (by omega))
  have h1 := h.below b0
  have g1 := g.below b0
  have PX := Hd px
  have PR := Hd pr
  have B0 := Hd b0
  have RX := Hd h1
  have RY := Hd g1
  clear px pr b0 h g h1 g1 hn hd hn' hd'
  go_enter Tryz.func213, Tryz.ntmps213
  go_wp2_with (
    (go_at_call 123; with_reducible refine (H1.out _ _ (by simp)).mono ?_; rintro e w1 ⟨rfl, hb⟩; have px := (PX.out.alloc _).below hb; have pr := (PR.out.alloc _).below hb; have B1 := belowTo (B0.out.alloc B0.out.size _) hb; have rx := (RX.out.alloc _).below hb; have ry := (RY.out.alloc _).below hb; have hl0 := B0.out.size; obtain ⟨l1, x0, x1, x2, x3, -, -, -, -⟩ := px.facts))
  refine (H2.out _ rx ry).mono ?_
  rintro e w2 ⟨v, rfl, hI, hb2⟩
  have pr2 := pr.below hb2
  have B2 := belowTo B1 hb2
  obtain ⟨A1, c1, A2, c2, rfl, -⟩ := hI.form
  obtain ⟨l2, y0, y1, y2, y3, f0, f1, f2, f3⟩ := pr2.facts
  go_wp2_with fail
  have hq := pr2.store (.bool (decide (n < 0))) (.slice A1 (natL n.natAbs).length c1) (.bool (decide (d < 0))) (.slice A2 (natL d.natAbs).length c2)
  obtain ⟨_, k0, k1, k2, k3, _⟩ := hq.facts
  have hsz := B1.size
  exact bodyPost_ret (by simp [results, Tryz.results213, go_sem, k0, k1, k2, k3]) rfl ⟨_, rfl, (hI.quad pr2 _ _ _ _).base hsz, below4 B2 (by omega) _ _ _ _⟩
theorem frac_answered_long (n d : Int) (A B : Option Addr) (c e0 : Nat) (w : World) (h : Raw w A c (natL n.natAbs)) (g : Raw w B e0 (natL d.natAbs)) (hl : 2048 < lz n ∨ 2048 < lz d) :
    Calls Tryz.prog 213 #[.agg #[.bool (decide (n < 0)), .slice A (natL n.natAbs).length c, .bool (decide (d < 0)), .slice B (natL d.natAbs).length e0]] w (RetFracOwn2 w.heap.size w 0 0 4) := by
  have px := (Quad.new w (.bool (decide (n < 0))) (.slice A (natL n.natAbs).length c) (.bool (decide (d < 0))) (.slice B (natL d.natAbs).length e0)).alloc (.cells #[.bool false, .slice none 0 0, .bool false, .slice none 0 0] 26)
  have pr := Quad.new (w.alloc (.cells #[.bool (decide (n < 0)), .slice A (natL n.natAbs).length c, .bool (decide (d < 0)), .slice B (natL d.natAbs).length e0] 26)) (.bool false) (.slice none 0 0) (.bool false) (.slice none 0 0)
  have b0 := ((Below.refl w.heap.size w).alloc (Nat.le_refl _) (.cells #[.bool (decide (n < 0)), .slice A (natL n.natAbs).length c, .bool (decide (d < 0)), .slice B (natL d.natAbs).length e0] 26)).alloc (by simp) (.cells #[.bool false, .slice none 0 0, .bool false, .slice none 0 0] 26)
  simp only [World.size_alloc] at pr
  have hn' : (natL n.natAbs).length ≤ 9223372036854775807 := by have := h.cap; have := h.most; omega
  have hd' : (natL d.natAbs).length ≤ 9223372036854775807 := by have := g.cap; have := g.most; omega
  have H1 := Hd (fun (V : World) (g' : Nat) (hg : V.heap.size = g') => ratio_Answer_true (decide (n < 0)) (decide (d < 0)) A B (natL n.natAbs).length c (natL d.natAbs).length e0 g' hn' hd' (by rcases hl with hl | hl <;> unfold lz at hl <;> simp [hl]) (V.alloc (.cells #[.bool (decide (n < 0)), .slice A (natL n.natAbs).length c, .bool (decide (d < 0)), .slice B (natL d.natAbs).length e0] 26)) (by subst hg; exact Quad.new _ _ _ _ _))
  have PX := Hd px
  have PR := Hd pr
  have B0 := Hd b0
  clear px pr b0 h g hl hn' hd'
  go_enter Tryz.func213, Tryz.ntmps213
  go_wp2_with (go_at_call 123; with_reducible refine (H1.out _ _ (by simp)).mono ?_; rintro e w1 ⟨rfl, hb⟩; have pr2 := (PR.out.alloc _).below hb; have B1 := belowTo (B0.out.alloc B0.out.size _) hb; have hl0 := B0.out.size; obtain ⟨l2, y0, y1, y2, y3, f0, f1, f2, f3⟩ := pr2.facts)
  have hq := pr2.store (.bool false) (.slice none 0 0) (.bool false) (.slice none 0 0)
  obtain ⟨_, k0, k1, k2, k3, _⟩ := hq.facts
  exact bodyPost_ret (by simp [results, Tryz.results213, go_sem, k0, k1, k2, k3]) rfl ⟨_, rfl, FracOwn.nought _ _, below4 B1 (by omega) _ _ _ _⟩
/- Cmp of package whole and of the references. (Written by wip/exact/genfine.py, cut off by hand.) -/

/- Of of package whole. -/

/- Sign, Bits of package whole and of the references: 0 of what may not be. (Written by wip/exact/genwrap.py.) -/

end Go.Proofs.YthlehkjcfhnplaaGreatDoor
