/- Several texts in one: Ratio0q1, ArgandLawq1, Gaussq1, GaussCq1. -/
import Derived.Test.YthlehkjcfhnplaaGreatDoorGn31
import Derived.Test.YthlehkjcfhnplaaGreatDoorGnHd
import Derived.Test.YthlehkjcfhnplaaGreatDoorGn29
import Derived.Test.YthlehkjcfhnplaaGreatDoorGn20
import Derived.Test.YthlehkjcfhnplaaGreatDoorGn30
import Derived.Test.YthlehkjcfhnplaaGreatDoorGn14
import Derived.Test.YthlehkjcfhnplaaGreatDoorGn19
import Derived.Test.YthlehkjcfhnplaaGreatDoorGn18
import Derived.Test.YthlehkjcfhnplaaGreatDoorGn16
import Derived.Test.YthlehkjcfhnplaaGreatDoorGn11
import Derived.Test.YthlehkjcfhnplaaGreatDoorGn10
import Derived.Test.YthlehkjcfhnplaaGreatDoorGn08
import Derived.Test.YthlehkjcfhnplaaGreatDoorGn07
import Derived.Test.YthlehkjcfhnplaaGreatDoorGn01
import Derived.Test.YthlehkjcfhnplaaGreatDoorGn04
import Derived.Test.YthlehkjcfhnplaaGreatDoorGn03
import Derived.Test.YthlehkjcfhnplaaGreatDoorGn02
import Derived.Test.YthlehkjcfhnplaaGreatDoorGn09
import Derived.Test.YthlehkjcfhnplaaGreatDoorGn05
import Derived.Test.YthlehkjcfhnplaaGreatDoorGn06
import Derived.Test.YthlehkjcfhnplaaGreatDoorGn13
import Derived.Test.YthlehkjcfhnplaaGreatDoorGn15
import Derived.Test.YthlehkjcfhnplaaGreatDoorGn12
import Derived.Test.YthlehkjcfhnplaaGreatDoorGn17
import Derived.Test.YthlehkjcfhnplaaGreatDoorGn27
import Derived.Test.YthlehkjcfhnplaaGreatDoorGn28
import Derived.Test.YthlehkjcfhnplaaGreatDoorGn23
import Derived.Test.YthlehkjcfhnplaaGreatDoorGn22
import Derived.Test.YthlehkjcfhnplaaGreatDoorGn21
import Derived.Test.YthlehkjcfhnplaaGreatDoorGn24
import Derived.Test.YthlehkjcfhnplaaGreatDoorGn25
import Derived.Test.YthlehkjcfhnplaaGreatDoorGn26
import Derived.Test.YthlehkjcfhnplaaGreatDoorGn32
import Derived.Test.YthlehkjcfhnplaaGreatDoorGn38
import Derived.Test.YthlehkjcfhnplaaGreatDoorGn33
set_option maxRecDepth 100000
set_option maxHeartbeats 8000000
/- Nought, Small, One, Turned of package ratio. (Written by wip/gauss/genratio0.py.) -/
namespace Go.Proofs.YthlehkjcfhnplaaGreatDoor
open Go.RowKit

theorem one_own {N D : Int} (hN : N = 1) (hD : D = 1) (w : World)   :
    Calls Tryz.prog 200 #[] w (RetFracOwn w.heap.size w N D) := by
  have D1 := fun (V : World) => small_own (n := 1) (d := 1) (by decide) (by decide) (by decide) (by decide) (by decide) V
  rw [show lowN 1 1 = 1 by decide +kernel, show lowD 1 1 = 1 by decide +kernel] at D1
  have D1 : ∀ V : World, Calls Tryz.prog 156 #[.int .i64 1, .int .i64 1] V (RetFracOwn V.heap.size V N D) := by rw [hN, hD]; exact D1
  have H1 := Hd D1
  clear D1 hN hD
  go_enter Tryz.func200, Tryz.ntmps200
  go_upto_region 1 with fail
  refine boxes1 (P := fun W => Code.wp _ _ _ _ W) fun W p0 b0 => ?_
  have PR := Hd (Quad.mk p0)
  have HB := Hd b0
  clear b0 p0
  go_wp2_with fail
  refine (H1.out W).mono ?_
  rintro e w9 ⟨v, rfl, hI, hb⟩
  have HI := Hd hI
  obtain ⟨A6, c6, A7, c7, rfl, -⟩ := hI.form
  have pr := PR.out.below hb
  have hb9 := belowTo HB.out hb
  obtain ⟨l_r, r0, r1, r2, r3, f0, f1, f2, f3⟩ := pr.facts
  have HQ := Hd (pr.store (.bool (decide (N < 0))) (.slice A6 (natL N.natAbs).length c6) (.bool (decide (D < 0))) (.slice A7 (natL D.natAbs).length c7))
  have HB9 := Hd (below4 hb9 (show w.heap.size ≤ w.heap.size by omega) (.bool (decide (N < 0))) (.slice A6 (natL N.natAbs).length c6) (.bool (decide (D < 0))) (.slice A7 (natL D.natAbs).length c7))
  have HF := Hd (HI.out.quad pr (.bool (decide (N < 0))) (.slice A6 (natL N.natAbs).length c6) (.bool (decide (D < 0))) (.slice A7 (natL D.natAbs).length c7))
  clear hb hb9 pr hI
  go_wp2_with fail
  obtain ⟨_, k0, k1, k2, k3, _, _, _, _⟩ := HQ.out.facts
  exact bodyPost_ret (by simp [results, Tryz.results200, go_sem, k0, k1, k2, k3]) rfl ⟨_, rfl, HF.out.base HB.out.size, HB9.out⟩

/- Package argand as operations of pairs of rational numbers. -/

theorem sq_sum {a b : Rat} (h : a * a + b * b = 0) : a = 0 ∧ b = 0 := by
  have h1 := sq_nonneg a
  have h2 := sq_nonneg b
  have e1 : a * a = 0 := by grind
  have e2 : b * b = 0 := by grind
  exact ⟨(Rat.mul_eq_zero.1 e1).elim id id, (Rat.mul_eq_zero.1 e2).elim id id⟩
theorem one_r : OpR0 200 1 1 := one_own rfl rfl
section
variable {a b c e : Rat} {n d m f p q r s N D M E : Int}
theorem plus_g (ha : Is a n d) (hb : Is b m f) (hc : Is c p q) (he : Is e r s) (sa : Sz a 100000000) (sb : Sz b 100000000) (sc : Sz c 100000000) (se : Sz e 100000000) (h1 : Is (a + c) N D) (h2 : Is (b + e) M E) : OpG 192 n d m f p q r s N D M E := by
  exact argand_Plus (plus_r ha hc h1 sa sc) (plus_r hb he h2 sb se)
theorem minus_g (ha : Is a n d) (hb : Is b m f) (hc : Is c p q) (he : Is e r s) (sa : Sz a 100000000) (sb : Sz b 100000000) (sc : Sz c 100000000) (se : Sz e 100000000) (h1 : Is (a - c) N D) (h2 : Is (b - e) M E) : OpG 115 n d m f p q r s N D M E := by
  exact argand_Minus (minus_r ha hc h1 sa sc) (minus_r hb he h2 sb se)
theorem over_g (ha : Is a n d) (hb : Is b m f) (hc : Is c p q) (he : Is e r s) (sa : Sz a 100000) (sb : Sz b 100000) (sc : Sz c 100000) (se : Sz e 100000) (h0 : ¬ (c = 0 ∧ e = 0)) (h1 : Is ((a * c + b * e) / (c * c + e * e)) N D) (h2 : Is ((b * c - a * e) / (c * c + e * e)) M E) : OpG 117 n d m f p q r s N D M E := by
  have hn : c * c + e * e ≠ 0 := fun h => h0 (sq_sum h)
  have up : ∀ {q : Rat} {k l : Nat}, Sz q k → k ≤ l → Sz q l := fun h k => h.mono k
  have se2 := sz_neg se
  have e1 : Is ((a * c + b * e) * (1 / (c * c + e * e))) N D := by rw [show (a * c + b * e) * (1 / (c * c + e * e)) = (a * c + b * e) / (c * c + e * e) by grind]; exact h1
  have e2 : Is ((b * c - a * e) * (1 / (c * c + e * e))) M E := by rw [show (b * c - a * e) * (1 / (c * c + e * e)) = (b * c - a * e) / (c * c + e * e) by grind]; exact h2
  have t1 : Is (a * c - b * -e) (a * c + b * e).num (a * c + b * e).den := by rw [show a * c - b * -e = a * c + b * e by grind]; exact Is.of _
  have t2 : Is (a * -e + b * c) (b * c - a * e).num (b * c - a * e).den := by rw [show a * -e + b * c = b * c - a * e by grind]; exact Is.of _
  have s1 := sz_add (sz_mul sa sc) (sz_mul sb se)
  have s2 := sz_sub (sz_mul sb sc) (sz_mul sa se)
  have s3 := sz_add (sz_mul sc sc) (sz_mul se se)
  have s4 := sz_quo sz_one s3 hn
  exact argand_Over (conj_g hc he (up sc (by omega)) (up se (by omega)))
    (times_g ha hb hc (is_neg he) (up sa (by omega)) (up sb (by omega)) (up sc (by omega)) (up se2 (by omega)) t1 t2) one_r (norm_g hc he (up sc (by omega)) (up se (by omega)) (Is.of _)) (over_r is_unit (Is.of _) (Is.of _) (up sz_one (by omega)) (up s3 (by omega)) hn)
    (scaled_g (Is.of _) (Is.of _) (Is.of _) (up s1 (by omega)) (up s2 (by omega)) (up s4 (by omega)) e1 e2)
end
/- May, Nought, Answer of argand; package gauss. (Written by wip/gauss/gengauss.py.) -/

theorem both_Plus {n d m f p q r s T1 T2 T3 T4 N D M E k : Int} (C1 : MayG 55 (decide (n < 0)) (decide (d < 0)) (decide (m < 0)) (decide (f < 0)) (natL n.natAbs) (natL d.natAbs) (natL m.natAbs) (natL f.natAbs) true) (C2 : MayG 55 (decide (p < 0)) (decide (q < 0)) (decide (r < 0)) (decide (s < 0)) (natL p.natAbs) (natL q.natAbs) (natL r.natAbs) (natL s.natAbs) true) (C3 : OpG 192 n d m f p q r s T1 T2 T3 T4) (C4 : AnsweredG T1 T2 T3 T4 N D M E k) (w : World) (v_x v_y : Value) (g_x : GaussAt w v_x n d m f) (g_y : GaussAt w v_y p q r s)  :
    Calls Tryz.prog 114 #[v_x, v_y, .func (.func 192) #[] #[]] w (RetGaussOwn2 w.heap.size w N D M E k) := by
  obtain ⟨Ax1, cx1, Ax2, cx2, Ax3, cx3, Ax4, cx4, rfl, -⟩ := g_x.form
  obtain ⟨Ay1, cy1, Ay2, cy2, Ay3, cy3, Ay4, cy4, rfl, -⟩ := g_y.form
  have H1 := Hd C1
  have H2 := Hd C2
  have H3 := Hd C3
  have H4 := Hd C4
  clear C1 C2 C3 C4
  have G_x := Hd g_x
  have G_y := Hd g_y
  clear g_x g_y
  go_enter Tryz.func114, Tryz.ntmps114
  go_upto_region 1 with fail
  refine boxes3 (P := fun W => Code.wp _ _ _ _ W) fun W p0 p1 p2 b0 => ?_
  have P_x := Hd (Oct.mk p0)
  have P_y := Hd (Oct.mk p1)
  have PR := Hd (Oct.mk p2)
  have HB := Hd b0
  clear b0 p0 p1 p2
  obtain ⟨-, a_x0, a_x1, a_x2, a_x3, a_x4, a_x5, a_x6, a_x7⟩ := P_x.out.facts
  go_wp2_with fail
  refine (H1.out W _ (G_x.out.below HB.out).raw).mono ?_
  rintro e wx1 ⟨rfl, hb⟩
  clear a_x0 a_x1 a_x2 a_x3 a_x4 a_x5 a_x6 a_x7
  have P_x := Hd (P_x.out.below hb)
  have P_y := Hd (P_y.out.below hb)
  have PR := Hd (PR.out.below hb)
  have HB := Hd (belowTo HB.out hb)
  clear hb
  obtain ⟨-, a_y0, a_y1, a_y2, a_y3, a_y4, a_y5, a_y6, a_y7⟩ := P_y.out.facts
  go_wp2_with fail
  refine (H2.out wx1 _ (G_y.out.below HB.out).raw).mono ?_
  rintro e wx2 ⟨rfl, hb⟩
  clear a_y0 a_y1 a_y2 a_y3 a_y4 a_y5 a_y6 a_y7
  have P_x := Hd (P_x.out.below hb)
  have P_y := Hd (P_y.out.below hb)
  have PR := Hd (PR.out.below hb)
  have HB := Hd (belowTo HB.out hb)
  clear hb
  obtain ⟨-, a_x0, a_x1, a_x2, a_x3, a_x4, a_x5, a_x6, a_x7⟩ := P_x.out.facts
  obtain ⟨-, a_y0, a_y1, a_y2, a_y3, a_y4, a_y5, a_y6, a_y7⟩ := P_y.out.facts
  go_wp2_with fail
  refine (H3.out wx2 _ _ (G_x.out.below HB.out) (G_y.out.below HB.out)).mono ?_
  rintro e wt ⟨v, rfl, hI, hb⟩
  clear a_x0 a_x1 a_x2 a_x3 a_x4 a_x5 a_x6 a_x7 a_y0 a_y1 a_y2 a_y3 a_y4 a_y5 a_y6 a_y7
  have HI0 := Hd (hI.base HB.out.size)
  have P_x := Hd (P_x.out.below hb)
  have P_y := Hd (P_y.out.below hb)
  have PR := Hd (PR.out.below hb)
  have HB := Hd (belowTo HB.out hb)
  clear hI hb
  go_wp2_with fail
  refine (H4.out wt w.heap.size _ HB.out.size HI0.out).mono ?_
  rintro e w9 ⟨v, rfl, hI, hb⟩
  have HI := Hd hI
  obtain ⟨A6, c6, A7, c7, A8, c8, A9, c9, rfl, -⟩ := hI.form
  have pr := PR.out.below hb
  have hb9 := belowTo HB.out hb
  obtain ⟨l_r, r0, r1, r2, r3, r4, r5, r6, r7⟩ := pr.facts
  obtain ⟨f0, f1, f2, f3, f4, f5, f6, f7⟩ := pr.free
  have HQ := Hd (pr.store (.bool (decide (N < 0))) (.slice A6 (natL N.natAbs).length c6) (.bool (decide (D < 0))) (.slice A7 (natL D.natAbs).length c7) (.bool (decide (M < 0))) (.slice A8 (natL M.natAbs).length c8) (.bool (decide (E < 0))) (.slice A9 (natL E.natAbs).length c9))
  have HB9 := Hd (below8 hb9 (show w.heap.size ≤ w.heap.size + 1 + 1 by omega) (.bool (decide (N < 0))) (.slice A6 (natL N.natAbs).length c6) (.bool (decide (D < 0))) (.slice A7 (natL D.natAbs).length c7) (.bool (decide (M < 0))) (.slice A8 (natL M.natAbs).length c8) (.bool (decide (E < 0))) (.slice A9 (natL E.natAbs).length c9))
  have HF := Hd (HI.out.oct pr (by decide) (.bool (decide (N < 0))) (.slice A6 (natL N.natAbs).length c6) (.bool (decide (D < 0))) (.slice A7 (natL D.natAbs).length c7) (.bool (decide (M < 0))) (.slice A8 (natL M.natAbs).length c8) (.bool (decide (E < 0))) (.slice A9 (natL E.natAbs).length c9))
  clear hb hb9 pr hI
  go_wp2_with fail
  obtain ⟨_, k0, k1, k2, k3, k4, k5, k6, k7⟩ := HQ.out.facts
  exact bodyPost_ret (by simp [results, Tryz.results114, go_sem, k0, k1, k2, k3, k4, k5, k6, k7]) rfl ⟨_, rfl, HF.out, HB9.out⟩

theorem both_Minus {n d m f p q r s T1 T2 T3 T4 N D M E k : Int} (C1 : MayG 55 (decide (n < 0)) (decide (d < 0)) (decide (m < 0)) (decide (f < 0)) (natL n.natAbs) (natL d.natAbs) (natL m.natAbs) (natL f.natAbs) true) (C2 : MayG 55 (decide (p < 0)) (decide (q < 0)) (decide (r < 0)) (decide (s < 0)) (natL p.natAbs) (natL q.natAbs) (natL r.natAbs) (natL s.natAbs) true) (C3 : OpG 115 n d m f p q r s T1 T2 T3 T4) (C4 : AnsweredG T1 T2 T3 T4 N D M E k) (w : World) (v_x v_y : Value) (g_x : GaussAt w v_x n d m f) (g_y : GaussAt w v_y p q r s)  :
    Calls Tryz.prog 114 #[v_x, v_y, .func (.func 115) #[] #[]] w (RetGaussOwn2 w.heap.size w N D M E k) := by
  obtain ⟨Ax1, cx1, Ax2, cx2, Ax3, cx3, Ax4, cx4, rfl, -⟩ := g_x.form
  obtain ⟨Ay1, cy1, Ay2, cy2, Ay3, cy3, Ay4, cy4, rfl, -⟩ := g_y.form
  have H1 := Hd C1
  have H2 := Hd C2
  have H3 := Hd C3
  have H4 := Hd C4
  clear C1 C2 C3 C4
  have G_x := Hd g_x
  have G_y := Hd g_y
  clear g_x g_y
  go_enter Tryz.func114, Tryz.ntmps114
  go_upto_region 1 with fail
  refine boxes3 (P := fun W => Code.wp _ _ _ _ W) fun W p0 p1 p2 b0 => ?_
  have P_x := Hd (Oct.mk p0)
  have P_y := Hd (Oct.mk p1)
  have PR := Hd (Oct.mk p2)
  have HB := Hd b0
  clear b0 p0 p1 p2
  obtain ⟨-, a_x0, a_x1, a_x2, a_x3, a_x4, a_x5, a_x6, a_x7⟩ := P_x.out.facts
  go_wp2_with fail
  refine (H1.out W _ (G_x.out.below HB.out).raw).mono ?_
  rintro e wx1 ⟨rfl, hb⟩
  clear a_x0 a_x1 a_x2 a_x3 a_x4 a_x5 a_x6 a_x7
  have P_x := Hd (P_x.out.below hb)
  have P_y := Hd (P_y.out.below hb)
  have PR := Hd (PR.out.below hb)
  have HB := Hd (belowTo HB.out hb)
  clear hb
  obtain ⟨-, a_y0, a_y1, a_y2, a_y3, a_y4, a_y5, a_y6, a_y7⟩ := P_y.out.facts
  go_wp2_with fail
  refine (H2.out wx1 _ (G_y.out.below HB.out).raw).mono ?_
  rintro e wx2 ⟨rfl, hb⟩
  clear a_y0 a_y1 a_y2 a_y3 a_y4 a_y5 a_y6 a_y7
  have P_x := Hd (P_x.out.below hb)
  have P_y := Hd (P_y.out.below hb)
  have PR := Hd (PR.out.below hb)
  have HB := Hd (belowTo HB.out hb)
  clear hb
  obtain ⟨-, a_x0, a_x1, a_x2, a_x3, a_x4, a_x5, a_x6, a_x7⟩ := P_x.out.facts
  obtain ⟨-, a_y0, a_y1, a_y2, a_y3, a_y4, a_y5, a_y6, a_y7⟩ := P_y.out.facts
  go_wp2_with fail
  refine (H3.out wx2 _ _ (G_x.out.below HB.out) (G_y.out.below HB.out)).mono ?_
  rintro e wt ⟨v, rfl, hI, hb⟩
  clear a_x0 a_x1 a_x2 a_x3 a_x4 a_x5 a_x6 a_x7 a_y0 a_y1 a_y2 a_y3 a_y4 a_y5 a_y6 a_y7
  have HI0 := Hd (hI.base HB.out.size)
  have P_x := Hd (P_x.out.below hb)
  have P_y := Hd (P_y.out.below hb)
  have PR := Hd (PR.out.below hb)
  have HB := Hd (belowTo HB.out hb)
  clear hI hb
  go_wp2_with fail
  refine (H4.out wt w.heap.size _ HB.out.size HI0.out).mono ?_
  rintro e w9 ⟨v, rfl, hI, hb⟩
  have HI := Hd hI
  obtain ⟨A6, c6, A7, c7, A8, c8, A9, c9, rfl, -⟩ := hI.form
  have pr := PR.out.below hb
  have hb9 := belowTo HB.out hb
  obtain ⟨l_r, r0, r1, r2, r3, r4, r5, r6, r7⟩ := pr.facts
  obtain ⟨f0, f1, f2, f3, f4, f5, f6, f7⟩ := pr.free
  have HQ := Hd (pr.store (.bool (decide (N < 0))) (.slice A6 (natL N.natAbs).length c6) (.bool (decide (D < 0))) (.slice A7 (natL D.natAbs).length c7) (.bool (decide (M < 0))) (.slice A8 (natL M.natAbs).length c8) (.bool (decide (E < 0))) (.slice A9 (natL E.natAbs).length c9))
  have HB9 := Hd (below8 hb9 (show w.heap.size ≤ w.heap.size + 1 + 1 by omega) (.bool (decide (N < 0))) (.slice A6 (natL N.natAbs).length c6) (.bool (decide (D < 0))) (.slice A7 (natL D.natAbs).length c7) (.bool (decide (M < 0))) (.slice A8 (natL M.natAbs).length c8) (.bool (decide (E < 0))) (.slice A9 (natL E.natAbs).length c9))
  have HF := Hd (HI.out.oct pr (by decide) (.bool (decide (N < 0))) (.slice A6 (natL N.natAbs).length c6) (.bool (decide (D < 0))) (.slice A7 (natL D.natAbs).length c7) (.bool (decide (M < 0))) (.slice A8 (natL M.natAbs).length c8) (.bool (decide (E < 0))) (.slice A9 (natL E.natAbs).length c9))
  clear hb hb9 pr hI
  go_wp2_with fail
  obtain ⟨_, k0, k1, k2, k3, k4, k5, k6, k7⟩ := HQ.out.facts
  exact bodyPost_ret (by simp [results, Tryz.results114, go_sem, k0, k1, k2, k3, k4, k5, k6, k7]) rfl ⟨_, rfl, HF.out, HB9.out⟩

theorem both_Over {n d m f p q r s T1 T2 T3 T4 N D M E k : Int} (C1 : MayG 55 (decide (n < 0)) (decide (d < 0)) (decide (m < 0)) (decide (f < 0)) (natL n.natAbs) (natL d.natAbs) (natL m.natAbs) (natL f.natAbs) true) (C2 : MayG 55 (decide (p < 0)) (decide (q < 0)) (decide (r < 0)) (decide (s < 0)) (natL p.natAbs) (natL q.natAbs) (natL r.natAbs) (natL s.natAbs) true) (C3 : OpG 117 n d m f p q r s T1 T2 T3 T4) (C4 : AnsweredG T1 T2 T3 T4 N D M E k) (w : World) (v_x v_y : Value) (g_x : GaussAt w v_x n d m f) (g_y : GaussAt w v_y p q r s)  :
    Calls Tryz.prog 114 #[v_x, v_y, .func (.func 117) #[] #[]] w (RetGaussOwn2 w.heap.size w N D M E k) := by
  obtain ⟨Ax1, cx1, Ax2, cx2, Ax3, cx3, Ax4, cx4, rfl, -⟩ := g_x.form
  obtain ⟨Ay1, cy1, Ay2, cy2, Ay3, cy3, Ay4, cy4, rfl, -⟩ := g_y.form
  have H1 := Hd C1
  have H2 := Hd C2
  have H3 := Hd C3
  have H4 := Hd C4
  clear C1 C2 C3 C4
  have G_x := Hd g_x
  have G_y := Hd g_y
  clear g_x g_y
  go_enter Tryz.func114, Tryz.ntmps114
  go_upto_region 1 with fail
  refine boxes3 (P := fun W => Code.wp _ _ _ _ W) fun W p0 p1 p2 b0 => ?_
  have P_x := Hd (Oct.mk p0)
  have P_y := Hd (Oct.mk p1)
  have PR := Hd (Oct.mk p2)
  have HB := Hd b0
  clear b0 p0 p1 p2
  obtain ⟨-, a_x0, a_x1, a_x2, a_x3, a_x4, a_x5, a_x6, a_x7⟩ := P_x.out.facts
  go_wp2_with fail
  refine (H1.out W _ (G_x.out.below HB.out).raw).mono ?_
  rintro e wx1 ⟨rfl, hb⟩
  clear a_x0 a_x1 a_x2 a_x3 a_x4 a_x5 a_x6 a_x7
  have P_x := Hd (P_x.out.below hb)
  have P_y := Hd (P_y.out.below hb)
  have PR := Hd (PR.out.below hb)
  have HB := Hd (belowTo HB.out hb)
  clear hb
  obtain ⟨-, a_y0, a_y1, a_y2, a_y3, a_y4, a_y5, a_y6, a_y7⟩ := P_y.out.facts
  go_wp2_with fail
  refine (H2.out wx1 _ (G_y.out.below HB.out).raw).mono ?_
  rintro e wx2 ⟨rfl, hb⟩
  clear a_y0 a_y1 a_y2 a_y3 a_y4 a_y5 a_y6 a_y7
  have P_x := Hd (P_x.out.below hb)
  have P_y := Hd (P_y.out.below hb)
  have PR := Hd (PR.out.below hb)
  have HB := Hd (belowTo HB.out hb)
  clear hb
  obtain ⟨-, a_x0, a_x1, a_x2, a_x3, a_x4, a_x5, a_x6, a_x7⟩ := P_x.out.facts
  obtain ⟨-, a_y0, a_y1, a_y2, a_y3, a_y4, a_y5, a_y6, a_y7⟩ := P_y.out.facts
  go_wp2_with fail
  refine (H3.out wx2 _ _ (G_x.out.below HB.out) (G_y.out.below HB.out)).mono ?_
  rintro e wt ⟨v, rfl, hI, hb⟩
  clear a_x0 a_x1 a_x2 a_x3 a_x4 a_x5 a_x6 a_x7 a_y0 a_y1 a_y2 a_y3 a_y4 a_y5 a_y6 a_y7
  have HI0 := Hd (hI.base HB.out.size)
  have P_x := Hd (P_x.out.below hb)
  have P_y := Hd (P_y.out.below hb)
  have PR := Hd (PR.out.below hb)
  have HB := Hd (belowTo HB.out hb)
  clear hI hb
  go_wp2_with fail
  refine (H4.out wt w.heap.size _ HB.out.size HI0.out).mono ?_
  rintro e w9 ⟨v, rfl, hI, hb⟩
  have HI := Hd hI
  obtain ⟨A6, c6, A7, c7, A8, c8, A9, c9, rfl, -⟩ := hI.form
  have pr := PR.out.below hb
  have hb9 := belowTo HB.out hb
  obtain ⟨l_r, r0, r1, r2, r3, r4, r5, r6, r7⟩ := pr.facts
  obtain ⟨f0, f1, f2, f3, f4, f5, f6, f7⟩ := pr.free
  have HQ := Hd (pr.store (.bool (decide (N < 0))) (.slice A6 (natL N.natAbs).length c6) (.bool (decide (D < 0))) (.slice A7 (natL D.natAbs).length c7) (.bool (decide (M < 0))) (.slice A8 (natL M.natAbs).length c8) (.bool (decide (E < 0))) (.slice A9 (natL E.natAbs).length c9))
  have HB9 := Hd (below8 hb9 (show w.heap.size ≤ w.heap.size + 1 + 1 by omega) (.bool (decide (N < 0))) (.slice A6 (natL N.natAbs).length c6) (.bool (decide (D < 0))) (.slice A7 (natL D.natAbs).length c7) (.bool (decide (M < 0))) (.slice A8 (natL M.natAbs).length c8) (.bool (decide (E < 0))) (.slice A9 (natL E.natAbs).length c9))
  have HF := Hd (HI.out.oct pr (by decide) (.bool (decide (N < 0))) (.slice A6 (natL N.natAbs).length c6) (.bool (decide (D < 0))) (.slice A7 (natL D.natAbs).length c7) (.bool (decide (M < 0))) (.slice A8 (natL M.natAbs).length c8) (.bool (decide (E < 0))) (.slice A9 (natL E.natAbs).length c9))
  clear hb hb9 pr hI
  go_wp2_with fail
  obtain ⟨_, k0, k1, k2, k3, k4, k5, k6, k7⟩ := HQ.out.facts
  exact bodyPost_ret (by simp [results, Tryz.results114, go_sem, k0, k1, k2, k3, k4, k5, k6, k7]) rfl ⟨_, rfl, HF.out, HB9.out⟩

theorem gauss_Add {n1 n2 n3 n4 : Bool} {xs ys us vs : List Nat} {m1 m2 m3 m4 : Bool} {ps qs rs ts : List Nat} {N D M E k : Int} (C1 : BothC (.func (.func 192) #[] #[]) n1 n2 n3 n4 xs ys us vs m1 m2 m3 m4 ps qs rs ts N D M E k) (w : World) (v_x v_y : Value) (g_x : GaussRaw w v_x n1 n2 n3 n4 xs ys us vs) (g_y : GaussRaw w v_y m1 m2 m3 m4 ps qs rs ts)  :
    Calls Tryz.prog 106 #[v_x, v_y] w (RetGaussOwn2 w.heap.size w N D M E k) := by
  obtain ⟨Ax1, cx1, Ax2, cx2, Ax3, cx3, Ax4, cx4, rfl, -⟩ := g_x.form
  obtain ⟨Ay1, cy1, Ay2, cy2, Ay3, cy3, Ay4, cy4, rfl, -⟩ := g_y.form
  have H1 := Hd C1
  clear C1
  have G_x := Hd g_x
  have G_y := Hd g_y
  clear g_x g_y
  go_enter Tryz.func106, Tryz.ntmps106
  go_upto_region 1 with fail
  refine boxes3 (P := fun W => Code.wp _ _ _ _ W) fun W p0 p1 p2 b0 => ?_
  have P_x := Hd (Oct.mk p0)
  have P_y := Hd (Oct.mk p1)
  have PR := Hd (Oct.mk p2)
  have HB := Hd b0
  clear b0 p0 p1 p2
  obtain ⟨-, a_x0, a_x1, a_x2, a_x3, a_x4, a_x5, a_x6, a_x7⟩ := P_x.out.facts
  obtain ⟨-, a_y0, a_y1, a_y2, a_y3, a_y4, a_y5, a_y6, a_y7⟩ := P_y.out.facts
  go_wp2_with fail
  refine (H1.out W _ _ (G_x.out.below HB.out) (G_y.out.below HB.out)).mono ?_
  rintro e w9 ⟨v, rfl, hI, hb⟩
  clear a_x0 a_x1 a_x2 a_x3 a_x4 a_x5 a_x6 a_x7 a_y0 a_y1 a_y2 a_y3 a_y4 a_y5 a_y6 a_y7
  have HI := Hd hI
  obtain ⟨A6, c6, A7, c7, A8, c8, A9, c9, rfl, -⟩ := hI.form
  have pr := PR.out.below hb
  have hb9 := belowTo HB.out hb
  obtain ⟨l_r, r0, r1, r2, r3, r4, r5, r6, r7⟩ := pr.facts
  obtain ⟨f0, f1, f2, f3, f4, f5, f6, f7⟩ := pr.free
  have HQ := Hd (pr.store (.bool (decide (N < 0))) (.slice A6 (natL N.natAbs).length c6) (.bool (decide (D < 0))) (.slice A7 (natL D.natAbs).length c7) (.bool (decide (M < 0))) (.slice A8 (natL M.natAbs).length c8) (.bool (decide (E < 0))) (.slice A9 (natL E.natAbs).length c9))
  have HB9 := Hd (below8 hb9 (show w.heap.size ≤ w.heap.size + 1 + 1 by omega) (.bool (decide (N < 0))) (.slice A6 (natL N.natAbs).length c6) (.bool (decide (D < 0))) (.slice A7 (natL D.natAbs).length c7) (.bool (decide (M < 0))) (.slice A8 (natL M.natAbs).length c8) (.bool (decide (E < 0))) (.slice A9 (natL E.natAbs).length c9))
  have HF := Hd (HI.out.oct pr (by decide) (.bool (decide (N < 0))) (.slice A6 (natL N.natAbs).length c6) (.bool (decide (D < 0))) (.slice A7 (natL D.natAbs).length c7) (.bool (decide (M < 0))) (.slice A8 (natL M.natAbs).length c8) (.bool (decide (E < 0))) (.slice A9 (natL E.natAbs).length c9))
  clear hb hb9 pr hI
  go_wp2_with fail
  obtain ⟨_, k0, k1, k2, k3, k4, k5, k6, k7⟩ := HQ.out.facts
  exact bodyPost_ret (by simp [results, Tryz.results106, go_sem, k0, k1, k2, k3, k4, k5, k6, k7]) rfl ⟨_, rfl, HF.out.base HB.out.size, HB9.out⟩

theorem gauss_Sub {n1 n2 n3 n4 : Bool} {xs ys us vs : List Nat} {m1 m2 m3 m4 : Bool} {ps qs rs ts : List Nat} {N D M E k : Int} (C1 : BothC (.func (.func 115) #[] #[]) n1 n2 n3 n4 xs ys us vs m1 m2 m3 m4 ps qs rs ts N D M E k) (w : World) (v_x v_y : Value) (g_x : GaussRaw w v_x n1 n2 n3 n4 xs ys us vs) (g_y : GaussRaw w v_y m1 m2 m3 m4 ps qs rs ts)  :
    Calls Tryz.prog 28 #[v_x, v_y] w (RetGaussOwn2 w.heap.size w N D M E k) := by
  obtain ⟨Ax1, cx1, Ax2, cx2, Ax3, cx3, Ax4, cx4, rfl, -⟩ := g_x.form
  obtain ⟨Ay1, cy1, Ay2, cy2, Ay3, cy3, Ay4, cy4, rfl, -⟩ := g_y.form
  have H1 := Hd C1
  clear C1
  have G_x := Hd g_x
  have G_y := Hd g_y
  clear g_x g_y
  go_enter Tryz.func28, Tryz.ntmps28
  go_upto_region 1 with fail
  refine boxes3 (P := fun W => Code.wp _ _ _ _ W) fun W p0 p1 p2 b0 => ?_
  have P_x := Hd (Oct.mk p0)
  have P_y := Hd (Oct.mk p1)
  have PR := Hd (Oct.mk p2)
  have HB := Hd b0
  clear b0 p0 p1 p2
  obtain ⟨-, a_x0, a_x1, a_x2, a_x3, a_x4, a_x5, a_x6, a_x7⟩ := P_x.out.facts
  obtain ⟨-, a_y0, a_y1, a_y2, a_y3, a_y4, a_y5, a_y6, a_y7⟩ := P_y.out.facts
  go_wp2_with fail
  refine (H1.out W _ _ (G_x.out.below HB.out) (G_y.out.below HB.out)).mono ?_
  rintro e w9 ⟨v, rfl, hI, hb⟩
  clear a_x0 a_x1 a_x2 a_x3 a_x4 a_x5 a_x6 a_x7 a_y0 a_y1 a_y2 a_y3 a_y4 a_y5 a_y6 a_y7
  have HI := Hd hI
  obtain ⟨A6, c6, A7, c7, A8, c8, A9, c9, rfl, -⟩ := hI.form
  have pr := PR.out.below hb
  have hb9 := belowTo HB.out hb
  obtain ⟨l_r, r0, r1, r2, r3, r4, r5, r6, r7⟩ := pr.facts
  obtain ⟨f0, f1, f2, f3, f4, f5, f6, f7⟩ := pr.free
  have HQ := Hd (pr.store (.bool (decide (N < 0))) (.slice A6 (natL N.natAbs).length c6) (.bool (decide (D < 0))) (.slice A7 (natL D.natAbs).length c7) (.bool (decide (M < 0))) (.slice A8 (natL M.natAbs).length c8) (.bool (decide (E < 0))) (.slice A9 (natL E.natAbs).length c9))
  have HB9 := Hd (below8 hb9 (show w.heap.size ≤ w.heap.size + 1 + 1 by omega) (.bool (decide (N < 0))) (.slice A6 (natL N.natAbs).length c6) (.bool (decide (D < 0))) (.slice A7 (natL D.natAbs).length c7) (.bool (decide (M < 0))) (.slice A8 (natL M.natAbs).length c8) (.bool (decide (E < 0))) (.slice A9 (natL E.natAbs).length c9))
  have HF := Hd (HI.out.oct pr (by decide) (.bool (decide (N < 0))) (.slice A6 (natL N.natAbs).length c6) (.bool (decide (D < 0))) (.slice A7 (natL D.natAbs).length c7) (.bool (decide (M < 0))) (.slice A8 (natL M.natAbs).length c8) (.bool (decide (E < 0))) (.slice A9 (natL E.natAbs).length c9))
  clear hb hb9 pr hI
  go_wp2_with fail
  obtain ⟨_, k0, k1, k2, k3, k4, k5, k6, k7⟩ := HQ.out.facts
  exact bodyPost_ret (by simp [results, Tryz.results28, go_sem, k0, k1, k2, k3, k4, k5, k6, k7]) rfl ⟨_, rfl, HF.out.base HB.out.size, HB9.out⟩

theorem gauss_Quo_ok {n d m f p q r s N D M E k : Int} (C0 : MayG 55 (decide (n < 0)) (decide (d < 0)) (decide (m < 0)) (decide (f < 0)) (natL n.natAbs) (natL d.natAbs) (natL m.natAbs) (natL f.natAbs) true) (C2 : MayG 55 (decide (p < 0)) (decide (q < 0)) (decide (r < 0)) (decide (s < 0)) (natL p.natAbs) (natL q.natAbs) (natL r.natAbs) (natL s.natAbs) true) (C3 : NoughtG 116 p q r s false) (C1 : BothC (.func (.func 117) #[] #[]) (decide (n < 0)) (decide (d < 0)) (decide (m < 0)) (decide (f < 0)) (natL n.natAbs) (natL d.natAbs) (natL m.natAbs) (natL f.natAbs) (decide (p < 0)) (decide (q < 0)) (decide (r < 0)) (decide (s < 0)) (natL p.natAbs) (natL q.natAbs) (natL r.natAbs) (natL s.natAbs) N D M E k) (w : World) (v_x v_y : Value) (g_x : GaussAt w v_x n d m f) (g_y : GaussAt w v_y p q r s)  :
    Calls Tryz.prog 29 #[v_x, v_y] w (RetGaussOwn2 w.heap.size w N D M E k) := by
  obtain ⟨Ax1, cx1, Ax2, cx2, Ax3, cx3, Ax4, cx4, rfl, -⟩ := g_x.form
  obtain ⟨Ay1, cy1, Ay2, cy2, Ay3, cy3, Ay4, cy4, rfl, -⟩ := g_y.form
  have H0 := Hd C0
  have H2 := Hd C2
  have H3 := Hd C3
  have H1 := Hd C1
  clear C0 C2 C3 C1
  have G_x := Hd g_x
  have G_y := Hd g_y
  clear g_x g_y
  go_enter Tryz.func29, Tryz.ntmps29
  go_upto_region 1 with fail
  refine boxes3 (P := fun W => Code.wp _ _ _ _ W) fun W p0 p1 p2 b0 => ?_
  have P_x := Hd (Oct.mk p0)
  have P_y := Hd (Oct.mk p1)
  have PR := Hd (Oct.mk p2)
  have HB := Hd b0
  clear b0 p0 p1 p2
  obtain ⟨-, a_x0, a_x1, a_x2, a_x3, a_x4, a_x5, a_x6, a_x7⟩ := P_x.out.facts
  go_wp2_with fail
  refine (H0.out W _ (G_x.out.below HB.out).raw).mono ?_
  rintro e wx1 ⟨rfl, hb⟩
  clear a_x0 a_x1 a_x2 a_x3 a_x4 a_x5 a_x6 a_x7
  have P_x := Hd (P_x.out.below hb)
  have P_y := Hd (P_y.out.below hb)
  have PR := Hd (PR.out.below hb)
  have HB := Hd (belowTo HB.out hb)
  clear hb
  obtain ⟨-, a_y0, a_y1, a_y2, a_y3, a_y4, a_y5, a_y6, a_y7⟩ := P_y.out.facts
  go_wp2_with fail
  refine (H2.out wx1 _ (G_y.out.below HB.out).raw).mono ?_
  rintro e wx2 ⟨rfl, hb⟩
  clear a_y0 a_y1 a_y2 a_y3 a_y4 a_y5 a_y6 a_y7
  have P_x := Hd (P_x.out.below hb)
  have P_y := Hd (P_y.out.below hb)
  have PR := Hd (PR.out.below hb)
  have HB := Hd (belowTo HB.out hb)
  clear hb
  obtain ⟨-, a_y0, a_y1, a_y2, a_y3, a_y4, a_y5, a_y6, a_y7⟩ := P_y.out.facts
  go_wp2_with fail
  refine (H3.out wx2 _ (G_y.out.below HB.out)).mono ?_
  rintro e wx3 ⟨rfl, hb⟩
  clear a_y0 a_y1 a_y2 a_y3 a_y4 a_y5 a_y6 a_y7
  have P_x := Hd (P_x.out.below hb)
  have P_y := Hd (P_y.out.below hb)
  have PR := Hd (PR.out.below hb)
  have HB := Hd (belowTo HB.out hb)
  clear hb
  obtain ⟨-, a_x0, a_x1, a_x2, a_x3, a_x4, a_x5, a_x6, a_x7⟩ := P_x.out.facts
  obtain ⟨-, a_y0, a_y1, a_y2, a_y3, a_y4, a_y5, a_y6, a_y7⟩ := P_y.out.facts
  go_wp2_with fail
  refine (H1.out wx3 _ _ (G_x.out.below HB.out).raw (G_y.out.below HB.out).raw).mono ?_
  rintro e w9 ⟨v, rfl, hI, hb⟩
  clear a_x0 a_x1 a_x2 a_x3 a_x4 a_x5 a_x6 a_x7 a_y0 a_y1 a_y2 a_y3 a_y4 a_y5 a_y6 a_y7
  have HI := Hd hI
  obtain ⟨A6, c6, A7, c7, A8, c8, A9, c9, rfl, -⟩ := hI.form
  have pr := PR.out.below hb
  have hb9 := belowTo HB.out hb
  obtain ⟨l_r, r0, r1, r2, r3, r4, r5, r6, r7⟩ := pr.facts
  obtain ⟨f0, f1, f2, f3, f4, f5, f6, f7⟩ := pr.free
  have HQ := Hd (pr.store (.bool (decide (N < 0))) (.slice A6 (natL N.natAbs).length c6) (.bool (decide (D < 0))) (.slice A7 (natL D.natAbs).length c7) (.bool (decide (M < 0))) (.slice A8 (natL M.natAbs).length c8) (.bool (decide (E < 0))) (.slice A9 (natL E.natAbs).length c9))
  have HB9 := Hd (below8 hb9 (show w.heap.size ≤ w.heap.size + 1 + 1 by omega) (.bool (decide (N < 0))) (.slice A6 (natL N.natAbs).length c6) (.bool (decide (D < 0))) (.slice A7 (natL D.natAbs).length c7) (.bool (decide (M < 0))) (.slice A8 (natL M.natAbs).length c8) (.bool (decide (E < 0))) (.slice A9 (natL E.natAbs).length c9))
  have HF := Hd (HI.out.oct pr (by decide) (.bool (decide (N < 0))) (.slice A6 (natL N.natAbs).length c6) (.bool (decide (D < 0))) (.slice A7 (natL D.natAbs).length c7) (.bool (decide (M < 0))) (.slice A8 (natL M.natAbs).length c8) (.bool (decide (E < 0))) (.slice A9 (natL E.natAbs).length c9))
  clear hb hb9 pr hI
  go_wp2_with fail
  obtain ⟨_, k0, k1, k2, k3, k4, k5, k6, k7⟩ := HQ.out.facts
  exact bodyPost_ret (by simp [results, Tryz.results29, go_sem, k0, k1, k2, k3, k4, k5, k6, k7]) rfl ⟨_, rfl, HF.out.base HB.out.size, HB9.out⟩

/- The calls of package gauss over numbers that may be, where nothing is refused. (Written by wip/gauss/gengaussc.py.) -/

section
variable {a b c e : Rat} {n d m f p q r s N D M E : Int}
theorem gadd_c (x : GIs a b n d m f) (y : GIs c e p q r s) (z : GIs (a + c) (b + e) N D M E) : OpG2 106 n d m f p q r s N D M E 0 := by
  intro V v1 v2 g1 g2
  have C : BothC (.func (.func 192) #[] #[]) (decide (n < 0)) (decide (d < 0)) (decide (m < 0)) (decide (f < 0)) (natL n.natAbs) (natL d.natAbs) (natL m.natAbs) (natL f.natAbs) (decide (p < 0)) (decide (q < 0)) (decide (r < 0)) (decide (s < 0)) (natL p.natAbs) (natL q.natAbs) (natL r.natAbs) (natL s.natAbs) N D M E 0 := fun V v1 v2 g1 g2 => by
    have up : ∀ {q : Rat} {l : Nat}, Sz q 2048 → 2048 ≤ l → Sz q l := fun h k => h.mono k
    exact both_Plus x.may y.may (plus_g x.re x.im y.re y.im (up x.sz.1 (by omega)) (up x.sz.2 (by omega)) (up y.sz.1 (by omega)) (up y.sz.2 (by omega)) z.re z.im) z.fits V v1 v2 ⟨g1.form⟩ ⟨g2.form⟩
  exact gauss_Add C V v1 v2 g1.raw g2.raw
theorem gsub_c (x : GIs a b n d m f) (y : GIs c e p q r s) (z : GIs (a - c) (b - e) N D M E) : OpG2 28 n d m f p q r s N D M E 0 := by
  intro V v1 v2 g1 g2
  have C : BothC (.func (.func 115) #[] #[]) (decide (n < 0)) (decide (d < 0)) (decide (m < 0)) (decide (f < 0)) (natL n.natAbs) (natL d.natAbs) (natL m.natAbs) (natL f.natAbs) (decide (p < 0)) (decide (q < 0)) (decide (r < 0)) (decide (s < 0)) (natL p.natAbs) (natL q.natAbs) (natL r.natAbs) (natL s.natAbs) N D M E 0 := fun V v1 v2 g1 g2 => by
    have up : ∀ {q : Rat} {l : Nat}, Sz q 2048 → 2048 ≤ l → Sz q l := fun h k => h.mono k
    exact both_Minus x.may y.may (minus_g x.re x.im y.re y.im (up x.sz.1 (by omega)) (up x.sz.2 (by omega)) (up y.sz.1 (by omega)) (up y.sz.2 (by omega)) z.re z.im) z.fits V v1 v2 ⟨g1.form⟩ ⟨g2.form⟩
  exact gauss_Sub C V v1 v2 g1.raw g2.raw
theorem gquo_c (x : GIs a b n d m f) (y : GIs c e p q r s) (h0 : ¬ (c = 0 ∧ e = 0)) (z : GIs ((a * c + b * e) / (c * c + e * e)) ((b * c - a * e) / (c * c + e * e)) N D M E) : OpG2 29 n d m f p q r s N D M E 0 := by
  intro V v1 v2 g1 g2
  have C : BothC (.func (.func 117) #[] #[]) (decide (n < 0)) (decide (d < 0)) (decide (m < 0)) (decide (f < 0)) (natL n.natAbs) (natL d.natAbs) (natL m.natAbs) (natL f.natAbs) (decide (p < 0)) (decide (q < 0)) (decide (r < 0)) (decide (s < 0)) (natL p.natAbs) (natL q.natAbs) (natL r.natAbs) (natL s.natAbs) N D M E 0 := fun V v1 v2 g1 g2 => by
    have up : ∀ {q : Rat} {l : Nat}, Sz q 2048 → 2048 ≤ l → Sz q l := fun h k => h.mono k
    exact both_Over x.may y.may (over_g x.re x.im y.re y.im (up x.sz.1 (by omega)) (up x.sz.2 (by omega)) (up y.sz.1 (by omega)) (up y.sz.2 (by omega)) h0 z.re z.im) z.fits V v1 v2 ⟨g1.form⟩ ⟨g2.form⟩
  have hd : decide (p = 0 ∧ r = 0) = false := decide_eq_false (fun h => h0 ⟨y.re.nought.1 h.1, y.im.nought.1 h.2⟩)
  exact gauss_Quo_ok x.may y.may (nought_g y.re y.im false hd) C V v1 v2 g1 g2
end
end Go.Proofs.YthlehkjcfhnplaaGreatDoor
