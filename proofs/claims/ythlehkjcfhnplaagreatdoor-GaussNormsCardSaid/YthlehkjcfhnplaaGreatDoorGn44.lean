/- Several texts in one: Gaussq2, Partsq1, FieldLawq2, FracCq1. -/
import Derived.Test.YthlehkjcfhnplaaGreatDoorGn32
import Derived.Test.YthlehkjcfhnplaaGreatDoorGnHd
import Derived.Test.YthlehkjcfhnplaaGreatDoorGn31
import Derived.Test.YthlehkjcfhnplaaGreatDoorGn29
import Derived.Test.YthlehkjcfhnplaaGreatDoorGn20
import Derived.Test.YthlehkjcfhnplaaGreatDoorGn42
import Derived.Test.YthlehkjcfhnplaaGreatDoorGn30
import Derived.Test.YthlehkjcfhnplaaGreatDoorGn14
import Derived.Test.YthlehkjcfhnplaaGreatDoorGn19
import Derived.Test.YthlehkjcfhnplaaGreatDoorGn18
import Derived.Test.YthlehkjcfhnplaaGreatDoorGn16
import Derived.Test.YthlehkjcfhnplaaGreatDoorGn11
import Derived.Test.YthlehkjcfhnplaaGreatDoorGn10
import Derived.Test.YthlehkjcfhnplaaGreatDoorGn08
import Derived.Test.YthlehkjcfhnplaaGreatDoorGn07
import Derived.Test.YthlehkjcfhnplaaGreatDoorGn01
import Derived.Test.YthlehkjcfhnplaaGreatDoorGn04
import Derived.Test.YthlehkjcfhnplaaGreatDoorGn03
import Derived.Test.YthlehkjcfhnplaaGreatDoorGn02
import Derived.Test.YthlehkjcfhnplaaGreatDoorGn09
import Derived.Test.YthlehkjcfhnplaaGreatDoorGn05
import Derived.Test.YthlehkjcfhnplaaGreatDoorGn06
import Derived.Test.YthlehkjcfhnplaaGreatDoorGn13
import Derived.Test.YthlehkjcfhnplaaGreatDoorGn15
import Derived.Test.YthlehkjcfhnplaaGreatDoorGn12
import Derived.Test.YthlehkjcfhnplaaGreatDoorGn17
import Derived.Test.YthlehkjcfhnplaaGreatDoorGn27
import Derived.Test.YthlehkjcfhnplaaGreatDoorGn28
import Derived.Test.YthlehkjcfhnplaaGreatDoorGn43
import Derived.Test.YthlehkjcfhnplaaGreatDoorGn23
import Derived.Test.YthlehkjcfhnplaaGreatDoorGn22
import Derived.Test.YthlehkjcfhnplaaGreatDoorGn21
import Derived.Test.YthlehkjcfhnplaaGreatDoorGn24
import Derived.Test.YthlehkjcfhnplaaGreatDoorGn25
import Derived.Test.YthlehkjcfhnplaaGreatDoorGn26
import Derived.Test.YthlehkjcfhnplaaGreatDoorGn34
import Derived.Test.YthlehkjcfhnplaaGreatDoorGn33
import Derived.Test.YthlehkjcfhnplaaGreatDoorGn35
set_option maxRecDepth 100000
set_option maxHeartbeats 8000000
/- May, Nought, Answer of argand; package gauss. (Written by wip/gauss/gengauss.py.) -/
namespace Go.Proofs.YthlehkjcfhnplaaGreatDoor
open Go.RowKit

theorem both_Conj {n d m f p q r s T1 T2 T3 T4 N D M E k : Int} (C1 : MayG 55 (decide (n < 0)) (decide (d < 0)) (decide (m < 0)) (decide (f < 0)) (natL n.natAbs) (natL d.natAbs) (natL m.natAbs) (natL f.natAbs) true) (C2 : MayG 55 (decide (p < 0)) (decide (q < 0)) (decide (r < 0)) (decide (s < 0)) (natL p.natAbs) (natL q.natAbs) (natL r.natAbs) (natL s.natAbs) true) (C3 : OpG 120 n d m f p q r s T1 T2 T3 T4) (C4 : AnsweredG T1 T2 T3 T4 N D M E k) (w : World) (v_x v_y : Value) (g_x : GaussAt w v_x n d m f) (g_y : GaussAt w v_y p q r s)  :
    Calls Tryz.prog 114 #[v_x, v_y, .func (.func 120) #[] #[]] w (RetGaussOwn2 w.heap.size w N D M E k) := by
  obtain ⟨Ax1, cx1, Ax2, cx2, Ax3, cx3, Ax4, cx4, rfl, -⟩ := g_x.form
  obtain ⟨Ay1, cy1, Ay2, cy2, Ay3, cy3, Ay4, cy4, rfl, -⟩ := g_y.form
  have H1 := Hd C1
  have H2 := Hd C2
  have H3 := Hd C3
  have H4 := Hd C4
  clear C1 C2 C3 C4
  have G_x := Hd g_x
  have G_y := Hd g_y
  clear g_x g_y
  go_enter Tryz.func114, Tryz.ntmps114
  go_upto_region 1 with fail
  refine boxes3 (P := fun W => Code.wp _ _ _ _ W) fun W p0 p1 p2 b0 => ?_
  have P_x := Hd (Oct.mk p0)
  have P_y := Hd (Oct.mk p1)
  have PR := Hd (Oct.mk p2)
  have HB := Hd b0
  clear b0 p0 p1 p2
  obtain ⟨-, a_x0, a_x1, a_x2, a_x3, a_x4, a_x5, a_x6, a_x7⟩ := P_x.out.facts
  go_wp2_with fail
  refine (H1.out W _ (G_x.out.below HB.out).raw).mono ?_
  rintro e wx1 ⟨rfl, hb⟩
  clear a_x0 a_x1 a_x2 a_x3 a_x4 a_x5 a_x6 a_x7
  have P_x := Hd (P_x.out.below hb)
  have P_y := Hd (P_y.out.below hb)
  have PR := Hd (PR.out.below hb)
  have HB := Hd (belowTo HB.out hb)
  clear hb
  obtain ⟨-, a_y0, a_y1, a_y2, a_y3, a_y4, a_y5, a_y6, a_y7⟩ := P_y.out.facts
  go_wp2_with fail
  refine (H2.out wx1 _ (G_y.out.below HB.out).raw).mono ?_
  rintro e wx2 ⟨rfl, hb⟩
  clear a_y0 a_y1 a_y2 a_y3 a_y4 a_y5 a_y6 a_y7
  have P_x := Hd (P_x.out.below hb)
  have P_y := Hd (P_y.out.below hb)
  have PR := Hd (PR.out.below hb)
  have HB := Hd (belowTo HB.out hb)
  clear hb
  obtain ⟨-, a_x0, a_x1, a_x2, a_x3, a_x4, a_x5, a_x6, a_x7⟩ := P_x.out.facts
  obtain ⟨-, a_y0, a_y1, a_y2, a_y3, a_y4, a_y5, a_y6, a_y7⟩ := P_y.out.facts
  go_wp2_with fail
  refine (H3.out wx2 _ _ (G_x.out.below HB.out) (G_y.out.below HB.out)).mono ?_
  rintro e wt ⟨v, rfl, hI, hb⟩
  clear a_x0 a_x1 a_x2 a_x3 a_x4 a_x5 a_x6 a_x7 a_y0 a_y1 a_y2 a_y3 a_y4 a_y5 a_y6 a_y7
  have HI0 := Hd (hI.base HB.out.size)
  have P_x := Hd (P_x.out.below hb)
  have P_y := Hd (P_y.out.below hb)
  have PR := Hd (PR.out.below hb)
  have HB := Hd (belowTo HB.out hb)
  clear hI hb
  go_wp2_with fail
  refine (H4.out wt w.heap.size _ HB.out.size HI0.out).mono ?_
  rintro e w9 ⟨v, rfl, hI, hb⟩
  have HI := Hd hI
  obtain ⟨A6, c6, A7, c7, A8, c8, A9, c9, rfl, -⟩ := hI.form
  have pr := PR.out.below hb
  have hb9 := belowTo HB.out hb
  obtain ⟨l_r, r0, r1, r2, r3, r4, r5, r6, r7⟩ := pr.facts
  obtain ⟨f0, f1, f2, f3, f4, f5, f6, f7⟩ := pr.free
  have HQ := Hd (pr.store (.bool (decide (N < 0))) (.slice A6 (natL N.natAbs).length c6) (.bool (decide (D < 0))) (.slice A7 (natL D.natAbs).length c7) (.bool (decide (M < 0))) (.slice A8 (natL M.natAbs).length c8) (.bool (decide (E < 0))) (.slice A9 (natL E.natAbs).length c9))
  have HB9 := Hd (below8 hb9 (show w.heap.size ≤ w.heap.size + 1 + 1 by omega) (.bool (decide (N < 0))) (.slice A6 (natL N.natAbs).length c6) (.bool (decide (D < 0))) (.slice A7 (natL D.natAbs).length c7) (.bool (decide (M < 0))) (.slice A8 (natL M.natAbs).length c8) (.bool (decide (E < 0))) (.slice A9 (natL E.natAbs).length c9))
  have HF := Hd (HI.out.oct pr (by decide) (.bool (decide (N < 0))) (.slice A6 (natL N.natAbs).length c6) (.bool (decide (D < 0))) (.slice A7 (natL D.natAbs).length c7) (.bool (decide (M < 0))) (.slice A8 (natL M.natAbs).length c8) (.bool (decide (E < 0))) (.slice A9 (natL E.natAbs).length c9))
  clear hb hb9 pr hI
  go_wp2_with fail
  obtain ⟨_, k0, k1, k2, k3, k4, k5, k6, k7⟩ := HQ.out.facts
  exact bodyPost_ret (by simp [results, Tryz.results114, go_sem, k0, k1, k2, k3, k4, k5, k6, k7]) rfl ⟨_, rfl, HF.out, HB9.out⟩

/- Conj, Norm, Unit of gauss; Mirrored, Square, OnCircle, Unit of the references. (Written by wip/gauss/genparts.py.) -/

theorem conj_clos {n d m f p q r s N D M E : Int} (C1 : OpG1 121 n d m f N D M E) (w : World) (v_x v_y : Value) (g_x : GaussAt w v_x n d m f) (g_y : GaussAt w v_y p q r s)  :
    Calls Tryz.prog 120 #[v_x, v_y] w (RetGaussOwn w.heap.size w N D M E) := by
  obtain ⟨Ax1, cx1, Ax2, cx2, Ax3, cx3, Ax4, cx4, rfl, -⟩ := g_x.form
  obtain ⟨Ay1, cy1, Ay2, cy2, Ay3, cy3, Ay4, cy4, rfl, -⟩ := g_y.form
  have H1 := Hd C1
  clear C1
  have G_x := Hd g_x
  have G_y := Hd g_y
  clear g_x g_y
  go_enter Tryz.func120, Tryz.ntmps120
  go_upto_region 1 with fail
  refine boxes3 (P := fun W => Code.wp _ _ _ _ W) fun W p0 p1 p2 b0 => ?_
  have P_x := Hd (Oct.mk p0)
  have P_y := Hd (Oct.mk p1)
  have PR := Hd (Oct.mk p2)
  have HB := Hd b0
  clear b0 p0 p1 p2
  obtain ⟨-, a_x0, a_x1, a_x2, a_x3, a_x4, a_x5, a_x6, a_x7⟩ := P_x.out.facts
  obtain ⟨-, a_y0, a_y1, a_y2, a_y3, a_y4, a_y5, a_y6, a_y7⟩ := P_y.out.facts
  go_wp2_with fail
  refine (H1.out W _ (G_x.out.below HB.out)).mono ?_
  rintro e w9 ⟨v, rfl, hI, hb⟩
  clear a_x0 a_x1 a_x2 a_x3 a_x4 a_x5 a_x6 a_x7 a_y0 a_y1 a_y2 a_y3 a_y4 a_y5 a_y6 a_y7
  have HI := Hd hI
  obtain ⟨A6, c6, A7, c7, A8, c8, A9, c9, rfl, -⟩ := hI.form
  have pr := PR.out.below hb
  have hb9 := belowTo HB.out hb
  obtain ⟨l_r, r0, r1, r2, r3, r4, r5, r6, r7⟩ := pr.facts
  obtain ⟨f0, f1, f2, f3, f4, f5, f6, f7⟩ := pr.free
  have HQ := Hd (pr.store (.bool (decide (N < 0))) (.slice A6 (natL N.natAbs).length c6) (.bool (decide (D < 0))) (.slice A7 (natL D.natAbs).length c7) (.bool (decide (M < 0))) (.slice A8 (natL M.natAbs).length c8) (.bool (decide (E < 0))) (.slice A9 (natL E.natAbs).length c9))
  have HB9 := Hd (below8 hb9 (show w.heap.size ≤ w.heap.size + 1 + 1 by omega) (.bool (decide (N < 0))) (.slice A6 (natL N.natAbs).length c6) (.bool (decide (D < 0))) (.slice A7 (natL D.natAbs).length c7) (.bool (decide (M < 0))) (.slice A8 (natL M.natAbs).length c8) (.bool (decide (E < 0))) (.slice A9 (natL E.natAbs).length c9))
  have HF := Hd (HI.out.oct pr (by decide) (.bool (decide (N < 0))) (.slice A6 (natL N.natAbs).length c6) (.bool (decide (D < 0))) (.slice A7 (natL D.natAbs).length c7) (.bool (decide (M < 0))) (.slice A8 (natL M.natAbs).length c8) (.bool (decide (E < 0))) (.slice A9 (natL E.natAbs).length c9))
  clear hb hb9 pr hI
  go_wp2_with fail
  obtain ⟨_, k0, k1, k2, k3, k4, k5, k6, k7⟩ := HQ.out.facts
  exact bodyPost_ret (by simp [results, Tryz.results120, go_sem, k0, k1, k2, k3, k4, k5, k6, k7]) rfl ⟨_, rfl, HF.out.base HB.out.size, HB9.out⟩

theorem gauss_Conj {n1 n2 n3 n4 : Bool} {xs ys us vs : List Nat} {N D M E k : Int} (C1 : BothC (.func (.func 120) #[] #[]) n1 n2 n3 n4 xs ys us vs n1 n2 n3 n4 xs ys us vs N D M E k) (w : World) (v_x : Value) (g_x : GaussRaw w v_x n1 n2 n3 n4 xs ys us vs)  :
    Calls Tryz.prog 32 #[v_x] w (RetGaussOwn2 w.heap.size w N D M E k) := by
  obtain ⟨Ax1, cx1, Ax2, cx2, Ax3, cx3, Ax4, cx4, rfl, -⟩ := g_x.form
  have H1 := Hd C1
  clear C1
  have G_x := Hd g_x
  clear g_x
  go_enter Tryz.func32, Tryz.ntmps32
  go_upto_region 1 with fail
  refine boxes2 (P := fun W => Code.wp _ _ _ _ W) fun W p0 p1 b0 => ?_
  have P_x := Hd (Oct.mk p0)
  have PR := Hd (Oct.mk p1)
  have HB := Hd b0
  clear b0 p0 p1
  obtain ⟨-, a_x0, a_x1, a_x2, a_x3, a_x4, a_x5, a_x6, a_x7⟩ := P_x.out.facts
  go_wp2_with fail
  refine (H1.out W _ _ (G_x.out.below HB.out) (G_x.out.below HB.out)).mono ?_
  rintro e w9 ⟨v, rfl, hI, hb⟩
  clear a_x0 a_x1 a_x2 a_x3 a_x4 a_x5 a_x6 a_x7
  have HI := Hd hI
  obtain ⟨A6, c6, A7, c7, A8, c8, A9, c9, rfl, -⟩ := hI.form
  have pr := PR.out.below hb
  have hb9 := belowTo HB.out hb
  obtain ⟨l_r, r0, r1, r2, r3, r4, r5, r6, r7⟩ := pr.facts
  obtain ⟨f0, f1, f2, f3, f4, f5, f6, f7⟩ := pr.free
  have HQ := Hd (pr.store (.bool (decide (N < 0))) (.slice A6 (natL N.natAbs).length c6) (.bool (decide (D < 0))) (.slice A7 (natL D.natAbs).length c7) (.bool (decide (M < 0))) (.slice A8 (natL M.natAbs).length c8) (.bool (decide (E < 0))) (.slice A9 (natL E.natAbs).length c9))
  have HB9 := Hd (below8 hb9 (show w.heap.size ≤ w.heap.size + 1 by omega) (.bool (decide (N < 0))) (.slice A6 (natL N.natAbs).length c6) (.bool (decide (D < 0))) (.slice A7 (natL D.natAbs).length c7) (.bool (decide (M < 0))) (.slice A8 (natL M.natAbs).length c8) (.bool (decide (E < 0))) (.slice A9 (natL E.natAbs).length c9))
  have HF := Hd (HI.out.oct pr (by decide) (.bool (decide (N < 0))) (.slice A6 (natL N.natAbs).length c6) (.bool (decide (D < 0))) (.slice A7 (natL D.natAbs).length c7) (.bool (decide (M < 0))) (.slice A8 (natL M.natAbs).length c8) (.bool (decide (E < 0))) (.slice A9 (natL E.natAbs).length c9))
  clear hb hb9 pr hI
  go_wp2_with fail
  obtain ⟨_, k0, k1, k2, k3, k4, k5, k6, k7⟩ := HQ.out.facts
  exact bodyPost_ret (by simp [results, Tryz.results32, go_sem, k0, k1, k2, k3, k4, k5, k6, k7]) rfl ⟨_, rfl, HF.out.base HB.out.size, HB9.out⟩

theorem gauss_Norm_fits {n d m f N D : Int} (C1 : MayG 55 (decide (n < 0)) (decide (d < 0)) (decide (m < 0)) (decide (f < 0)) (natL n.natAbs) (natL d.natAbs) (natL m.natAbs) (natL f.natAbs) true) (C2 : OpN 122 n d m f N D) (hb : (decide (2048 < (natL N.natAbs).length) || decide (2048 < (natL D.natAbs).length)) = false) (w : World) (v_x : Value) (g_x : GaussAt w v_x n d m f)  :
    Calls Tryz.prog 33 #[v_x] w (RetFracOwn2 w.heap.size w N D 0) := by
  obtain ⟨Ax1, cx1, Ax2, cx2, Ax3, cx3, Ax4, cx4, rfl, -⟩ := g_x.form
  have HLB := Hd hb
  clear hb
  have H1 := Hd C1
  have H2 := Hd C2
  clear C1 C2
  have G_x := Hd g_x
  clear g_x
  go_enter Tryz.func33, Tryz.ntmps33
  go_upto_region 1 with fail
  refine boxes2 (P := fun W => Code.wp _ _ _ _ W) fun W p0 p1 b0 => ?_
  have P_x := Hd (Oct.mk p0)
  have PR := Hd (Quad.mk p1)
  have HB := Hd b0
  clear b0 p0 p1
  obtain ⟨-, a_x0, a_x1, a_x2, a_x3, a_x4, a_x5, a_x6, a_x7⟩ := P_x.out.facts
  go_wp2_with fail
  refine (H1.out W _ (G_x.out.below HB.out).raw).mono ?_
  rintro e wx1 ⟨rfl, hb⟩
  clear a_x0 a_x1 a_x2 a_x3 a_x4 a_x5 a_x6 a_x7
  have P_x := Hd (P_x.out.below hb)
  have PR := Hd (PR.out.below hb)
  have HB := Hd (belowTo HB.out hb)
  clear hb
  obtain ⟨-, a_x0, a_x1, a_x2, a_x3, a_x4, a_x5, a_x6, a_x7⟩ := P_x.out.facts
  go_wp2_with fail
  refine (H2.out wx1 _ (G_x.out.below HB.out)).mono ?_
  rintro e wx2 ⟨v, rfl, hI, hb⟩
  clear a_x0 a_x1 a_x2 a_x3 a_x4 a_x5 a_x6 a_x7
  have hi := hI.in_
  obtain ⟨Ann1, cnn1, Ann2, cnn2, rfl, -⟩ := hI.form
  have HS_nn := Hd HB.out.size
  have ha := (Below.refl wx2.heap.size wx2).alloc (Nat.le_refl _) (.cells #[.bool (decide (N < 0)), .slice Ann1 (natL N.natAbs).length cnn1, .bool (decide (D < 0)), .slice Ann2 (natL D.natAbs).length cnn2] 26)
  have hq := Quad.new wx2 (.bool (decide (N < 0))) (.slice Ann1 (natL N.natAbs).length cnn1) (.bool (decide (D < 0))) (.slice Ann2 (natL D.natAbs).length cnn2)
  have hi := hi.below ha
  have ho := hI.below ha
  have P_x := Hd (P_x.out.below hb)
  have PR := Hd (PR.out.below hb)
  have HB := Hd (belowTo HB.out hb)
  have P_x := Hd (P_x.out.below ha)
  have PR := Hd (PR.out.below ha)
  have HB := Hd (belowTo HB.out ha)
  go_upto_region 4 with fail
  obtain ⟨wy2, E⟩ : ∃ W, W = wx2.alloc (.cells #[.bool (decide (N < 0)), .slice Ann1 (natL N.natAbs).length cnn1, .bool (decide (D < 0)), .slice Ann2 (natL D.natAbs).length cnn2] 26) := ⟨_, rfl⟩
  obtain ⟨b_nn, hbq⟩ : ∃ q, q = wx2.heap.size := ⟨_, rfl⟩
  rw [← E] at hi ho P_x PR HB
  rw [← E, ← hbq] at hq ⊢
  have P_nn := Hd hq
  have O_nn := Hd hi
  have Q_nn := Hd ho
  clear ho
  clear hI hi hb ha hq hbq E
  have l1 : (natL N.natAbs).length ≤ 9223372036854775807 := by have := O_nn.out.at_.raws.1.cap; have := O_nn.out.at_.raws.1.most; omega
  have l2 : (natL D.natAbs).length ≤ 9223372036854775807 := by have := O_nn.out.at_.raws.2.cap; have := O_nn.out.at_.raws.2.most; omega
  obtain ⟨-, a_nn0, a_nn1, a_nn2, a_nn3, -, -, -, -⟩ := P_nn.out.facts
  go_wp2_with fail
  refine (ratio_Answer_false _ _ _ _ _ _ _ _ wy2.heap.size l1 l2 HLB.out (wy2.alloc (.cells #[.bool (decide (N < 0)), .slice Ann1 (natL N.natAbs).length cnn1, .bool (decide (D < 0)), .slice Ann2 (natL D.natAbs).length cnn2] 26)) (Quad.new wy2 _ _ _ _)).mono ?_
  rintro e wx9 ⟨rfl, hb⟩
  have hb := ((Below.refl wy2.heap.size wy2).alloc (Nat.le_refl _) (.cells #[.bool (decide (N < 0)), .slice Ann1 (natL N.natAbs).length cnn1, .bool (decide (D < 0)), .slice Ann2 (natL D.natAbs).length cnn2] 26)).trans (hb.mono (by simp))
  clear a_nn0 a_nn1 a_nn2 a_nn3
  have P_x := Hd (P_x.out.below hb)
  have P_nn := Hd (P_nn.out.below hb)
  have O_nn := Hd (O_nn.out.below hb)
  have PR := Hd (PR.out.below hb)
  have Q_nn := Hd (Q_nn.out.below hb)
  have HB := Hd (belowTo HB.out hb)
  clear hb l1 l2
  obtain ⟨-, a_nn0, a_nn1, a_nn2, a_nn3, -, -, -, -⟩ := P_nn.out.facts
  obtain ⟨l_r, r0, r1, r2, r3, f0, f1, f2, f3⟩ := PR.out.facts
  have HQ := Hd (PR.out.store (.bool (decide (N < 0))) (.slice Ann1 (natL N.natAbs).length cnn1) (.bool (decide (D < 0))) (.slice Ann2 (natL D.natAbs).length cnn2))
  have HB9 := Hd (below4 HB.out (show w.heap.size ≤ w.heap.size + 1 by omega) (.bool (decide (N < 0))) (.slice Ann1 (natL N.natAbs).length cnn1) (.bool (decide (D < 0))) (.slice Ann2 (natL D.natAbs).length cnn2))
  have HF := Hd (Q_nn.out.quad PR.out (.bool (decide (N < 0))) (.slice Ann1 (natL N.natAbs).length cnn1) (.bool (decide (D < 0))) (.slice Ann2 (natL D.natAbs).length cnn2))
  go_wp2_with fail
  obtain ⟨_, k0, k1, k2, k3, _, _, _, _⟩ := HQ.out.facts
  exact bodyPost_ret (by simp [results, Tryz.results33, go_sem, k0, k1, k2, k3]) rfl ⟨_, rfl, HF.out.base HS_nn.out, HB9.out⟩

/- GaussField, GaussNorms, GaussCircle as laws of rational numbers: nothing is refused. -/

theorem norm_mul (a b c e : Rat) : (a * c - b * e) * (a * c - b * e) + (a * e + b * c) * (a * e + b * c) = (a * a + b * b) * (c * c + e * e) := by grind
theorem norm_conj (a b : Rat) : a * a - b * -b = a * a + b * b ∧ a * -b + b * a = 0 := by constructor <;> grind
/- The calls of package frac, and Norm and Conj of gauss, over numbers that may be, where nothing is refused. -/

theorem ans_fits2 {n d : Int} (l1 : lz n ≤ 2048) (l2 : lz d ≤ 2048) : ansN n d = n ∧ ansD n d = d ∧ ansK n d = 0 := by
  unfold ansN ansD ansK
  simp only [if_pos (And.intro l1 l2)]
  exact ⟨trivial, trivial, trivial⟩
section
variable {a b : Rat} {n d m f N D : Int}
theorem fmul_c (x : Is a n d) (f1 : Fine n d) (y : Is b m f) (f2 : Fine m f) (z : Is (a * b) N D) (l1 : lz N ≤ 2048) (l2 : lz D ≤ 2048) : OpR2 41 n d m f N D := by
  intro V v1 v2 g1 g2
  obtain ⟨A, c, B, e0, rfl, h1, h2⟩ := g1.form
  obtain ⟨A2, c2, B2, e2, rfl, h3, h4⟩ := g2.form
  obtain ⟨e3, e4⟩ := z.uniq (is_mul x y)
  have k := frac_Mul_good n d m f A B A2 B2 c e0 c2 e2 V h1 h2 h3 h4 f1 f2
  rw [← e3, ← e4, (ans_fits2 l1 l2).1, (ans_fits2 l1 l2).2.1, (ans_fits2 l1 l2).2.2] at k
  exact k
theorem fsign_c (f1 : Fine n d) : SgnF 42 n d n.sign := by
  intro V v1 g1
  obtain ⟨A, c, B, e0, rfl, h1, h2⟩ := g1.form
  exact frac_Sign_good n d n.sign A B c e0 V h1 h2 f1.chk rfl
end
theorem gconj_c {a b : Rat} {n d m f : Int} (x : GIs a b n d m f) (V : World) (v : Value) (g : GaussAt V v n d m f) : Calls Tryz.prog 32 #[v] V (RetGaussOwn2 V.heap.size V n d (-m) f 0) := by
  have up : ∀ {q : Rat} {l : Nat}, Sz q 2048 → 2048 ≤ l → Sz q l := fun h k => h.mono k
  have y : GIs a (-b) n d (-m) f := GIs.mk_ x.re (is_neg x.im) x.f1.num x.f1.den (by rw [lz_neg]; exact x.f2.num) x.f2.den
  exact gauss_Conj (fun V v1 v2 g1 g2 => both_Conj x.may x.may (conj_clos (conj_g x.re x.im (up x.sz.1 (by omega)) (up x.sz.2 (by omega)))) y.fits V v1 v2 ⟨g1.form⟩ ⟨g2.form⟩) V v g.raw
theorem gnorm_c {a b : Rat} {n d m f N D : Int} (x : GIs a b n d m f) (z : Is (a * a + b * b) N D) (l1 : lz N ≤ 2048) (l2 : lz D ≤ 2048) (V : World) (v : Value) (g : GaussAt V v n d m f) : Calls Tryz.prog 33 #[v] V (RetFracOwn2 V.heap.size V N D 0) := by
  have up : ∀ {q : Rat} {l : Nat}, Sz q 2048 → 2048 ≤ l → Sz q l := fun h k => h.mono k
  have hb : (decide (2048 < (natL N.natAbs).length) || decide (2048 < (natL D.natAbs).length)) = false := by
    unfold lz at l1 l2
    rw [decide_eq_false (by omega), decide_eq_false (by omega)]
    rfl
  exact gauss_Norm_fits x.may (norm_g x.re x.im (up x.sz.1 (by omega)) (up x.sz.2 (by omega)) z) hb V v g
end Go.Proofs.YthlehkjcfhnplaaGreatDoor
