/- Several texts in one: FSame, SameG. -/
import Derived.Test.YthlehkjcfhnplaaGreatDoorGn28
import Derived.Test.YthlehkjcfhnplaaGreatDoorGnHd
import Derived.Test.YthlehkjcfhnplaaGreatDoorGn19
import Derived.Test.YthlehkjcfhnplaaGreatDoorGn23
import Derived.Test.YthlehkjcfhnplaaGreatDoorGn27
import Derived.Test.YthlehkjcfhnplaaGreatDoorGn22
import Derived.Test.YthlehkjcfhnplaaGreatDoorGn14
import Derived.Test.YthlehkjcfhnplaaGreatDoorGn12
import Derived.Test.YthlehkjcfhnplaaGreatDoorGn13
import Derived.Test.YthlehkjcfhnplaaGreatDoorGn07
import Derived.Test.YthlehkjcfhnplaaGreatDoorGn08
import Derived.Test.YthlehkjcfhnplaaGreatDoorGn10
import Derived.Test.YthlehkjcfhnplaaGreatDoorGn03
import Derived.Test.YthlehkjcfhnplaaGreatDoorGn02
import Derived.Test.YthlehkjcfhnplaaGreatDoorGn01
import Derived.Test.YthlehkjcfhnplaaGreatDoorGn09
import Derived.Test.YthlehkjcfhnplaaGreatDoorGn05
import Derived.Test.YthlehkjcfhnplaaGreatDoorGn04
import Derived.Test.YthlehkjcfhnplaaGreatDoorGn06
import Derived.Test.YthlehkjcfhnplaaGreatDoorGn11
import Derived.Test.YthlehkjcfhnplaaGreatDoorGn21
import Derived.Test.YthlehkjcfhnplaaGreatDoorGn20
import Derived.Test.YthlehkjcfhnplaaGreatDoorGn18
import Derived.Test.YthlehkjcfhnplaaGreatDoorGn16
import Derived.Test.YthlehkjcfhnplaaGreatDoorGn15
import Derived.Test.YthlehkjcfhnplaaGreatDoorGn17
import Derived.Test.YthlehkjcfhnplaaGreatDoorGn24
import Derived.Test.YthlehkjcfhnplaaGreatDoorGn25
import Derived.Test.YthlehkjcfhnplaaGreatDoorGn26
import Derived.Test.YthlehkjcfhnplaaGreatDoorGn30
import Derived.Test.YthlehkjcfhnplaaGreatDoorGn29
set_option maxRecDepth 100000
set_option maxHeartbeats 8000000
/- SameFrac of the laws, of any two fractions. (Written by wip/frac/genfsame.py.) -/
namespace Go.Proofs.YthlehkjcfhnplaaGreatDoor
open Go.RowKit

theorem same_zz (x y : Int) (A B : Option Addr) (c d : Nat) (w : World) (h : Raw w A c (natL x.natAbs)) (g : Raw w B d (natL y.natAbs)) :
    Calls Tryz.prog 132 #[.agg #[.bool (decide (x < 0)), .slice A (natL x.natAbs).length c], .agg #[.bool (decide (y < 0)), .slice B (natL y.natAbs).length d]] w fun e w' => e = .returned (.bool (decide (x = y))) ∧ Below w.heap.size w w' := by
  have := same_any (decide (x < 0)) (decide (y < 0)) A B c d _ _ w h g
  have e : decide (decide (x < 0) = decide (y < 0) ∧ natL x.natAbs = natL y.natAbs) = decide (x = y) := by
    by_cases hxy : x = y
    · subst hxy; simp
    · rw [decide_eq_false hxy]
      have : ¬ (decide (x < 0) = decide (y < 0) ∧ natL x.natAbs = natL y.natAbs) := by
        rintro ⟨h1, h2⟩
        have h3 : x.natAbs = y.natAbs := by rw [← val_natL x.natAbs, ← val_natL y.natAbs, h2]
        have h4 : (x < 0) ↔ (y < 0) := by simpa using h1
        omega
      simpa using this
  rw [e] at this
  exact this

theorem sameFrac_no1 (n d m f : Int) (A B A2 B2 : Option Addr) (c e0 c2 e2 : Nat) (w : World) (hx : Raw w A c (natL n.natAbs)) (kx : Raw w B e0 (natL d.natAbs)) (hy : Raw w A2 c2 (natL m.natAbs)) (ky : Raw w B2 e2 (natL f.natAbs)) (h1 : n ≠ m) :
    Calls Tryz.prog 38 #[.agg #[.bool (decide (n < 0)), .slice A (natL n.natAbs).length c, .bool (decide (d < 0)), .slice B (natL d.natAbs).length e0], .agg #[.bool (decide (m < 0)), .slice A2 (natL m.natAbs).length c2, .bool (decide (f < 0)), .slice B2 (natL f.natAbs).length e2]] w fun e w' => e = .returned (.bool false) ∧ Below w.heap.size w w' := by
  have C1 := fun (V : World) (a1 : Raw V A c (natL n.natAbs)) (a2 : Raw V A2 c2 (natL m.natAbs)) => same_zz n m A A2 c c2 V a1 a2
  rw [decide_eq_false h1] at C1
  have H1 := Hd C1
  clear C1 h1
  have b0 := (((Below.refl w.heap.size w).alloc (Nat.le_refl _) (.cells #[.bool (decide (n < 0)), .slice A (natL n.natAbs).length c, .bool (decide (d < 0)), .slice B (natL d.natAbs).length e0] 26)).alloc (by simp) (.cells #[.bool (decide (m < 0)), .slice A2 (natL m.natAbs).length c2, .bool (decide (f < 0)), .slice B2 (natL f.natAbs).length e2] 26))
  have p0 := (Quad.new w (.bool (decide (n < 0))) (.slice A (natL n.natAbs).length c) (.bool (decide (d < 0))) (.slice B (natL d.natAbs).length e0)).alloc (.cells #[.bool (decide (m < 0)), .slice A2 (natL m.natAbs).length c2, .bool (decide (f < 0)), .slice B2 (natL f.natAbs).length e2] 26)
  have p1 := Quad.new (w.alloc (.cells #[.bool (decide (n < 0)), .slice A (natL n.natAbs).length c, .bool (decide (d < 0)), .slice B (natL d.natAbs).length e0] 26)) (.bool (decide (m < 0))) (.slice A2 (natL m.natAbs).length c2) (.bool (decide (f < 0))) (.slice B2 (natL f.natAbs).length e2)
  simp only [World.size_alloc] at p1
  have PX := Hd p0
  have PY := Hd p1
  have RX := Hd (hx.below b0)
  have KX := Hd (kx.below b0)
  have RY := Hd (hy.below b0)
  have KY := Hd (ky.below b0)
  have HB := Hd b0
  clear b0 p0 p1 hx kx hy ky
  go_enter Tryz.func38, Tryz.ntmps38
  obtain ⟨W, E⟩ : ∃ W, W = ((w.alloc (.cells #[.bool (decide (n < 0)), .slice A (natL n.natAbs).length c, .bool (decide (d < 0)), .slice B (natL d.natAbs).length e0] 26)).alloc (.cells #[.bool (decide (m < 0)), .slice A2 (natL m.natAbs).length c2, .bool (decide (f < 0)), .slice B2 (natL f.natAbs).length e2] 26)) := ⟨_, rfl⟩
  go_upto_region 1 with fail
  rw [← E] at PX PY RX KX RY KY  HB ⊢
  clear E
  have HS0 := Hd (show w.heap.size ≤ W.heap.size from HB.out.size)
  obtain ⟨l_x, x0, x1, x2, x3, -, -, -, -⟩ := PX.out.facts
  obtain ⟨l_y, y0, y1, y2, y3, -, -, -, -⟩ := PY.out.facts
  go_wp2_with fail
  refine (H1.out W RX.out RY.out).mono ?_
  rintro e wx1 ⟨rfl, hb⟩
  clear l_x x0 x1 x2 x3
  clear l_y y0 y1 y2 y3
  have HS_wx1 := Hd (show W.heap.size ≤ wx1.heap.size from hb.size)
  have PX := Hd (PX.out.below hb)
  have PY := Hd (PY.out.below hb)
  have RX := Hd (RX.out.below hb)
  have KX := Hd (KX.out.below hb)
  have RY := Hd (RY.out.below hb)
  have KY := Hd (KY.out.below hb)
  have HB := Hd (belowTo HB.out hb)
  go_wp2_with fail
  go_ret
  exact ⟨rfl, HB.out⟩

theorem sameFrac_no2 (n d m f : Int) (A B A2 B2 : Option Addr) (c e0 c2 e2 : Nat) (w : World) (hx : Raw w A c (natL n.natAbs)) (kx : Raw w B e0 (natL d.natAbs)) (hy : Raw w A2 c2 (natL m.natAbs)) (ky : Raw w B2 e2 (natL f.natAbs)) (h1 : n = m) (h2 : d ≠ f) :
    Calls Tryz.prog 38 #[.agg #[.bool (decide (n < 0)), .slice A (natL n.natAbs).length c, .bool (decide (d < 0)), .slice B (natL d.natAbs).length e0], .agg #[.bool (decide (m < 0)), .slice A2 (natL m.natAbs).length c2, .bool (decide (f < 0)), .slice B2 (natL f.natAbs).length e2]] w fun e w' => e = .returned (.bool false) ∧ Below w.heap.size w w' := by
  have C1 := fun (V : World) (a1 : Raw V A c (natL n.natAbs)) (a2 : Raw V A2 c2 (natL m.natAbs)) => same_zz n m A A2 c c2 V a1 a2
  rw [decide_eq_true h1] at C1
  have H1 := Hd C1
  have C2 := fun (V : World) (a1 : Raw V B e0 (natL d.natAbs)) (a2 : Raw V B2 e2 (natL f.natAbs)) => same_zz d f B B2 e0 e2 V a1 a2
  rw [decide_eq_false h2] at C2
  have H2 := Hd C2
  clear C1 h1 C2 h2
  have b0 := (((Below.refl w.heap.size w).alloc (Nat.le_refl _) (.cells #[.bool (decide (n < 0)), .slice A (natL n.natAbs).length c, .bool (decide (d < 0)), .slice B (natL d.natAbs).length e0] 26)).alloc (by simp) (.cells #[.bool (decide (m < 0)), .slice A2 (natL m.natAbs).length c2, .bool (decide (f < 0)), .slice B2 (natL f.natAbs).length e2] 26))
  have p0 := (Quad.new w (.bool (decide (n < 0))) (.slice A (natL n.natAbs).length c) (.bool (decide (d < 0))) (.slice B (natL d.natAbs).length e0)).alloc (.cells #[.bool (decide (m < 0)), .slice A2 (natL m.natAbs).length c2, .bool (decide (f < 0)), .slice B2 (natL f.natAbs).length e2] 26)
  have p1 := Quad.new (w.alloc (.cells #[.bool (decide (n < 0)), .slice A (natL n.natAbs).length c, .bool (decide (d < 0)), .slice B (natL d.natAbs).length e0] 26)) (.bool (decide (m < 0))) (.slice A2 (natL m.natAbs).length c2) (.bool (decide (f < 0))) (.slice B2 (natL f.natAbs).length e2)
  simp only [World.size_alloc] at p1
  have PX := Hd p0
  have PY := Hd p1
  have RX := Hd (hx.below b0)
  have KX := Hd (kx.below b0)
  have RY := Hd (hy.below b0)
  have KY := Hd (ky.below b0)
  have HB := Hd b0
  clear b0 p0 p1 hx kx hy ky
  go_enter Tryz.func38, Tryz.ntmps38
  obtain ⟨W, E⟩ : ∃ W, W = ((w.alloc (.cells #[.bool (decide (n < 0)), .slice A (natL n.natAbs).length c, .bool (decide (d < 0)), .slice B (natL d.natAbs).length e0] 26)).alloc (.cells #[.bool (decide (m < 0)), .slice A2 (natL m.natAbs).length c2, .bool (decide (f < 0)), .slice B2 (natL f.natAbs).length e2] 26)) := ⟨_, rfl⟩
  go_upto_region 1 with fail
  rw [← E] at PX PY RX KX RY KY  HB ⊢
  clear E
  have HS0 := Hd (show w.heap.size ≤ W.heap.size from HB.out.size)
  obtain ⟨l_x, x0, x1, x2, x3, -, -, -, -⟩ := PX.out.facts
  obtain ⟨l_y, y0, y1, y2, y3, -, -, -, -⟩ := PY.out.facts
  go_wp2_with fail
  refine (H1.out W RX.out RY.out).mono ?_
  rintro e wx1 ⟨rfl, hb⟩
  clear l_x x0 x1 x2 x3
  clear l_y y0 y1 y2 y3
  have HS_wx1 := Hd (show W.heap.size ≤ wx1.heap.size from hb.size)
  have PX := Hd (PX.out.below hb)
  have PY := Hd (PY.out.below hb)
  have RX := Hd (RX.out.below hb)
  have KX := Hd (KX.out.below hb)
  have RY := Hd (RY.out.below hb)
  have KY := Hd (KY.out.below hb)
  have HB := Hd (belowTo HB.out hb)
  obtain ⟨l_x, x0, x1, x2, x3, -, -, -, -⟩ := PX.out.facts
  obtain ⟨l_y, y0, y1, y2, y3, -, -, -, -⟩ := PY.out.facts
  go_wp2_with fail
  refine (H2.out wx1 KX.out KY.out).mono ?_
  rintro e wx2 ⟨rfl, hb⟩
  clear l_x x0 x1 x2 x3
  clear l_y y0 y1 y2 y3
  have HS_wx2 := Hd (show wx1.heap.size ≤ wx2.heap.size from hb.size)
  have PX := Hd (PX.out.below hb)
  have PY := Hd (PY.out.below hb)
  have RX := Hd (RX.out.below hb)
  have KX := Hd (KX.out.below hb)
  have RY := Hd (RY.out.below hb)
  have KY := Hd (KY.out.below hb)
  have HB := Hd (belowTo HB.out hb)
  go_wp2_with fail
  go_ret
  exact ⟨rfl, HB.out⟩

theorem sameFrac_yes (n d m f : Int) (A B A2 B2 : Option Addr) (c e0 c2 e2 : Nat) (w : World) (hx : Raw w A c (natL n.natAbs)) (kx : Raw w B e0 (natL d.natAbs)) (hy : Raw w A2 c2 (natL m.natAbs)) (ky : Raw w B2 e2 (natL f.natAbs)) (h1 : n = m) (h2 : d = f) :
    Calls Tryz.prog 38 #[.agg #[.bool (decide (n < 0)), .slice A (natL n.natAbs).length c, .bool (decide (d < 0)), .slice B (natL d.natAbs).length e0], .agg #[.bool (decide (m < 0)), .slice A2 (natL m.natAbs).length c2, .bool (decide (f < 0)), .slice B2 (natL f.natAbs).length e2]] w fun e w' => e = .returned (.bool true) ∧ Below w.heap.size w w' := by
  have C1 := fun (V : World) (a1 : Raw V A c (natL n.natAbs)) (a2 : Raw V A2 c2 (natL m.natAbs)) => same_zz n m A A2 c c2 V a1 a2
  rw [decide_eq_true h1] at C1
  have H1 := Hd C1
  have C2 := fun (V : World) (a1 : Raw V B e0 (natL d.natAbs)) (a2 : Raw V B2 e2 (natL f.natAbs)) => same_zz d f B B2 e0 e2 V a1 a2
  rw [decide_eq_true h2] at C2
  have H2 := Hd C2
  clear C1 h1 C2 h2
  have b0 := (((Below.refl w.heap.size w).alloc (Nat.le_refl _) (.cells #[.bool (decide (n < 0)), .slice A (natL n.natAbs).length c, .bool (decide (d < 0)), .slice B (natL d.natAbs).length e0] 26)).alloc (by simp) (.cells #[.bool (decide (m < 0)), .slice A2 (natL m.natAbs).length c2, .bool (decide (f < 0)), .slice B2 (natL f.natAbs).length e2] 26))
  have p0 := (Quad.new w (.bool (decide (n < 0))) (.slice A (natL n.natAbs).length c) (.bool (decide (d < 0))) (.slice B (natL d.natAbs).length e0)).alloc (.cells #[.bool (decide (m < 0)), .slice A2 (natL m.natAbs).length c2, .bool (decide (f < 0)), .slice B2 (natL f.natAbs).length e2] 26)
  have p1 := Quad.new (w.alloc (.cells #[.bool (decide (n < 0)), .slice A (natL n.natAbs).length c, .bool (decide (d < 0)), .slice B (natL d.natAbs).length e0] 26)) (.bool (decide (m < 0))) (.slice A2 (natL m.natAbs).length c2) (.bool (decide (f < 0))) (.slice B2 (natL f.natAbs).length e2)
  simp only [World.size_alloc] at p1
  have PX := Hd p0
  have PY := Hd p1
  have RX := Hd (hx.below b0)
  have KX := Hd (kx.below b0)
  have RY := Hd (hy.below b0)
  have KY := Hd (ky.below b0)
  have HB := Hd b0
  clear b0 p0 p1 hx kx hy ky
  go_enter Tryz.func38, Tryz.ntmps38
  obtain ⟨W, E⟩ : ∃ W, W = ((w.alloc (.cells #[.bool (decide (n < 0)), .slice A (natL n.natAbs).length c, .bool (decide (d < 0)), .slice B (natL d.natAbs).length e0] 26)).alloc (.cells #[.bool (decide (m < 0)), .slice A2 (natL m.natAbs).length c2, .bool (decide (f < 0)), .slice B2 (natL f.natAbs).length e2] 26)) := ⟨_, rfl⟩
  go_upto_region 1 with fail
  rw [← E] at PX PY RX KX RY KY  HB ⊢
  clear E
  have HS0 := Hd (show w.heap.size ≤ W.heap.size from HB.out.size)
  obtain ⟨l_x, x0, x1, x2, x3, -, -, -, -⟩ := PX.out.facts
  obtain ⟨l_y, y0, y1, y2, y3, -, -, -, -⟩ := PY.out.facts
  go_wp2_with fail
  refine (H1.out W RX.out RY.out).mono ?_
  rintro e wx1 ⟨rfl, hb⟩
  clear l_x x0 x1 x2 x3
  clear l_y y0 y1 y2 y3
  have HS_wx1 := Hd (show W.heap.size ≤ wx1.heap.size from hb.size)
  have PX := Hd (PX.out.below hb)
  have PY := Hd (PY.out.below hb)
  have RX := Hd (RX.out.below hb)
  have KX := Hd (KX.out.below hb)
  have RY := Hd (RY.out.below hb)
  have KY := Hd (KY.out.below hb)
  have HB := Hd (belowTo HB.out hb)
  obtain ⟨l_x, x0, x1, x2, x3, -, -, -, -⟩ := PX.out.facts
  obtain ⟨l_y, y0, y1, y2, y3, -, -, -, -⟩ := PY.out.facts
  go_wp2_with fail
  refine (H2.out wx1 KX.out KY.out).mono ?_
  rintro e wx2 ⟨rfl, hb⟩
  clear l_x x0 x1 x2 x3
  clear l_y y0 y1 y2 y3
  have HS_wx2 := Hd (show wx1.heap.size ≤ wx2.heap.size from hb.size)
  have PX := Hd (PX.out.below hb)
  have PY := Hd (PY.out.below hb)
  have RX := Hd (RX.out.below hb)
  have KX := Hd (KX.out.below hb)
  have RY := Hd (RY.out.below hb)
  have KY := Hd (KY.out.below hb)
  have HB := Hd (belowTo HB.out hb)
  go_wp2_with fail
  go_ret
  exact ⟨rfl, HB.out⟩

theorem sameFrac_any (n d m f : Int) (A B A2 B2 : Option Addr) (c e0 c2 e2 : Nat) (w : World) (hx : Raw w A c (natL n.natAbs)) (kx : Raw w B e0 (natL d.natAbs)) (hy : Raw w A2 c2 (natL m.natAbs)) (ky : Raw w B2 e2 (natL f.natAbs)) :
    Calls Tryz.prog 38 #[.agg #[.bool (decide (n < 0)), .slice A (natL n.natAbs).length c, .bool (decide (d < 0)), .slice B (natL d.natAbs).length e0], .agg #[.bool (decide (m < 0)), .slice A2 (natL m.natAbs).length c2, .bool (decide (f < 0)), .slice B2 (natL f.natAbs).length e2]] w fun e w' => e = .returned (.bool (decide (n = m ∧ d = f))) ∧ Below w.heap.size w w' := by
  by_cases h1 : n = m
  · by_cases h2 : d = f
    · rw [decide_eq_true (show n = m ∧ d = f from ⟨h1, h2⟩)]; exact sameFrac_yes n d m f A B A2 B2 c e0 c2 e2 w hx kx hy ky h1 h2
    · rw [decide_eq_false (show ¬ (n = m ∧ d = f) from fun h => h2 h.2)]; exact sameFrac_no2 n d m f A B A2 B2 c e0 c2 e2 w hx kx hy ky h1 h2
  · rw [decide_eq_false (show ¬ (n = m ∧ d = f) from fun h => h1 h.1)]; exact sameFrac_no1 n d m f A B A2 B2 c e0 c2 e2 w hx kx hy ky h1
/- SameGauss of two numbers that are not one. (Written by wip/gauss/gensameg.py.) -/

abbrev SameF (n d m f : Int) (b : Bool) : Prop := ∀ (V : World) (v1 v2 : Value), FracAt V v1 n d → FracAt V v2 m f → Calls Tryz.prog 38 #[v1, v2] V fun e w' => e = .returned (.bool b) ∧ Below V.heap.size V w'
theorem sameF (n d m f : Int) (b : Bool) (hb : decide (n = m ∧ d = f) = b) : SameF n d m f b := by
  intro V v1 v2 g1 g2
  obtain ⟨A, c, B, e0, rfl, h1, h2⟩ := g1.form
  obtain ⟨A2, c2, B2, e2, rfl, h3, h4⟩ := g2.form
  have k := sameFrac_any n d m f A B A2 B2 c e0 c2 e2 V h1 h2 h3 h4
  rw [hb] at k
  exact k

theorem sameGauss_no1 {n d m f p q r s : Int} (C1 : SameF n d p q false) (w : World) (v_x v_y : Value) (g_x : GaussAt w v_x n d m f) (g_y : GaussAt w v_y p q r s)  :
    Calls Tryz.prog 12 #[v_x, v_y] w fun e w' => e = .returned (.bool false) ∧ Below w.heap.size w w' := by
  obtain ⟨Ax1, cx1, Ax2, cx2, Ax3, cx3, Ax4, cx4, rfl, -⟩ := g_x.form
  obtain ⟨Ay1, cy1, Ay2, cy2, Ay3, cy3, Ay4, cy4, rfl, -⟩ := g_y.form
  have H1 := Hd C1
  clear C1
  have G_x := Hd g_x
  have G_y := Hd g_y
  clear g_x g_y
  go_enter Tryz.func12, Tryz.ntmps12
  go_upto_region 1 with fail
  refine boxes2 (P := fun W => Code.wp _ _ _ _ W) fun W p0 p1 b0 => ?_
  have P_x := Hd (Oct.mk p0)
  have P_y := Hd (Oct.mk p1)
  have HB := Hd b0
  clear b0 p0 p1
  obtain ⟨-, a_x0, a_x1, a_x2, a_x3, a_x4, a_x5, a_x6, a_x7⟩ := P_x.out.facts
  obtain ⟨-, a_y0, a_y1, a_y2, a_y3, a_y4, a_y5, a_y6, a_y7⟩ := P_y.out.facts
  go_wp2_with fail
  refine (H1.out W _ _ (G_x.out.below HB.out).re (G_y.out.below HB.out).re).mono ?_
  rintro e wx1 ⟨rfl, hb⟩
  clear a_x0 a_x1 a_x2 a_x3 a_x4 a_x5 a_x6 a_x7 a_y0 a_y1 a_y2 a_y3 a_y4 a_y5 a_y6 a_y7
  have P_x := Hd (P_x.out.below hb)
  have P_y := Hd (P_y.out.below hb)
  have HB := Hd (belowTo HB.out hb)
  clear hb
  go_wp2_with fail
  go_ret
  exact ⟨rfl, HB.out⟩

theorem sameGauss_no2 {n d m f p q r s : Int} (C1 : SameF n d p q true) (C2 : SameF m f r s false) (w : World) (v_x v_y : Value) (g_x : GaussAt w v_x n d m f) (g_y : GaussAt w v_y p q r s)  :
    Calls Tryz.prog 12 #[v_x, v_y] w fun e w' => e = .returned (.bool false) ∧ Below w.heap.size w w' := by
  obtain ⟨Ax1, cx1, Ax2, cx2, Ax3, cx3, Ax4, cx4, rfl, -⟩ := g_x.form
  obtain ⟨Ay1, cy1, Ay2, cy2, Ay3, cy3, Ay4, cy4, rfl, -⟩ := g_y.form
  have H1 := Hd C1
  have H2 := Hd C2
  clear C1 C2
  have G_x := Hd g_x
  have G_y := Hd g_y
  clear g_x g_y
  go_enter Tryz.func12, Tryz.ntmps12
  go_upto_region 1 with fail
  refine boxes2 (P := fun W => Code.wp _ _ _ _ W) fun W p0 p1 b0 => ?_
  have P_x := Hd (Oct.mk p0)
  have P_y := Hd (Oct.mk p1)
  have HB := Hd b0
  clear b0 p0 p1
  obtain ⟨-, a_x0, a_x1, a_x2, a_x3, a_x4, a_x5, a_x6, a_x7⟩ := P_x.out.facts
  obtain ⟨-, a_y0, a_y1, a_y2, a_y3, a_y4, a_y5, a_y6, a_y7⟩ := P_y.out.facts
  go_wp2_with fail
  refine (H1.out W _ _ (G_x.out.below HB.out).re (G_y.out.below HB.out).re).mono ?_
  rintro e wx1 ⟨rfl, hb⟩
  clear a_x0 a_x1 a_x2 a_x3 a_x4 a_x5 a_x6 a_x7 a_y0 a_y1 a_y2 a_y3 a_y4 a_y5 a_y6 a_y7
  have P_x := Hd (P_x.out.below hb)
  have P_y := Hd (P_y.out.below hb)
  have HB := Hd (belowTo HB.out hb)
  clear hb
  obtain ⟨-, a_x0, a_x1, a_x2, a_x3, a_x4, a_x5, a_x6, a_x7⟩ := P_x.out.facts
  obtain ⟨-, a_y0, a_y1, a_y2, a_y3, a_y4, a_y5, a_y6, a_y7⟩ := P_y.out.facts
  go_wp2_with fail
  refine (H2.out wx1 _ _ (G_x.out.below HB.out).im (G_y.out.below HB.out).im).mono ?_
  rintro e wx2 ⟨rfl, hb⟩
  clear a_x0 a_x1 a_x2 a_x3 a_x4 a_x5 a_x6 a_x7 a_y0 a_y1 a_y2 a_y3 a_y4 a_y5 a_y6 a_y7
  have P_x := Hd (P_x.out.below hb)
  have P_y := Hd (P_y.out.below hb)
  have HB := Hd (belowTo HB.out hb)
  clear hb
  go_wp2_with fail
  go_ret
  exact ⟨rfl, HB.out⟩

theorem sameGauss_false {n d m f : Int} (V : World) (v1 v2 : Value) (g1 : GaussAt V v1 n d m f) (g2 : GaussAt V v2 0 1 0 1) (h : ¬ (n = 0 ∧ m = 0)) : Calls Tryz.prog 12 #[v1, v2] V fun e w' => e = .returned (.bool false) ∧ Below V.heap.size V w' := by
  by_cases h1 : n = 0 ∧ d = 1
  · exact sameGauss_no2 (sameF n d 0 1 true (decide_eq_true h1)) (sameF m f 0 1 false (decide_eq_false fun k => h ⟨h1.1, k.1⟩)) V v1 v2 g1 g2
  · exact sameGauss_no1 (sameF n d 0 1 false (decide_eq_false h1)) V v1 v2 g1 g2
end Go.Proofs.YthlehkjcfhnplaaGreatDoor
