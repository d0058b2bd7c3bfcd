/- Several texts in one: GText, GAlive, GLaw, GBig, TwinOwn. -/
import Derived.Test.YtdonecnhdkjniaaGreatDoorGy27
set_option maxRecDepth 100000
set_option maxHeartbeats 8000000
namespace Go.Proofs.YtdonecnhdkjniaaGreatDoor
open Go.RowKit

abbrev X1 (F : FuncId) (n d : Int) (t : ByteArray) : Prop := ∀ (V : World) (v : Value), ZB V -> ZV V v n d -> Calls Tryz.prog F #[v] V fun e w' => e = .returned (.string t) /\ Below V.heap.size V w'

theorem gauss_second_one {n d : Int} (C1 : X1 22 n d ⟨#[49]⟩) (w : World) (v_y : Value) (g_y : ZV w v_y n d) (htab : ZB w) :
  Calls Tryz.prog 23 #[v_y] w (fun e w' => e = .returned (.string ⟨#[105]⟩) /\ Below w.heap.size w w') := by
 obtain ⟨Ay1, cy1, Ay2, cy2, rfl, -⟩ := g_y.form
 have HT := Hd htab
 clear htab
 have H1 := Hd C1
 clear C1
 have G_y := Hd g_y
 clear g_y
 go_enter Tryz.func23, Tryz.ntmps23
 go_upto_region 1 with fail
 refine Zy (P := fun W => Code.wp _ _ _ _ W) fun W p0 b0 => ?_
 have P_y := Hd (Zw.mk p0)
 have HB := Hd b0
 clear b0 p0
 obtain ⟨-, y0, y1, y2, y3, -, -, -, -⟩ := P_y.out.facts
 go_wp2_with fail
 refine (H1.out W _ (HT.out.below2 HB.out) (G_y.out.below HB.out)).mono ?_
 rintro e wx1 ⟨rfl, hb⟩
 clear y0 y1 y2 y3
 have P_y := Hd (P_y.out.below hb)
 have HB := Hd (Zb HB.out hb)
 clear hb
 go_wp2_with fail
 go_ret
 exact ⟨rfl, HB.out⟩

theorem gauss_second_minus {n d : Int} (C1 : X1 22 n d ⟨#[45, 49]⟩) (w : World) (v_y : Value) (g_y : ZV w v_y n d) (htab : ZB w) :
  Calls Tryz.prog 23 #[v_y] w (fun e w' => e = .returned (.string ⟨#[45, 105]⟩) /\ Below w.heap.size w w') := by
 obtain ⟨Ay1, cy1, Ay2, cy2, rfl, -⟩ := g_y.form
 have HT := Hd htab
 clear htab
 have H1 := Hd C1
 clear C1
 have G_y := Hd g_y
 clear g_y
 go_enter Tryz.func23, Tryz.ntmps23
 go_upto_region 1 with fail
 refine Zy (P := fun W => Code.wp _ _ _ _ W) fun W p0 b0 => ?_
 have P_y := Hd (Zw.mk p0)
 have HB := Hd b0
 clear b0 p0
 obtain ⟨-, y0, y1, y2, y3, -, -, -, -⟩ := P_y.out.facts
 go_wp2_with fail
 refine (H1.out W _ (HT.out.below2 HB.out) (G_y.out.below HB.out)).mono ?_
 rintro e wx1 ⟨rfl, hb⟩
 clear y0 y1 y2 y3
 have P_y := Hd (P_y.out.below hb)
 have HB := Hd (Zb HB.out hb)
 clear hb
 go_wp2_with fail
 go_ret
 exact ⟨rfl, HB.out⟩

theorem X6 {n d : Int} (t u : ByteArray) (C1 : X1 22 n d t) (h1 : ¬ t.data.toList = [49]) (h2 : ¬ t.data.toList = [45, 49]) (hs : t.size < 9223372036854775807) (hu : u = t ++ ⟨#[105]⟩) (w : World) (v_y : Value) (g_y : ZV w v_y n d) (htab : ZB w) :
  Calls Tryz.prog 23 #[v_y] w (fun e w' => e = .returned (.string u) /\ Below w.heap.size w w') := by
 obtain ⟨Ay1, cy1, Ay2, cy2, rfl, -⟩ := g_y.form
 have HT := Hd htab
 clear htab
 have H1 := Hd C1
 clear C1
 have hb : (t.toList == [49]) = false := by rw [ByteArray.toList_eq, beq_eq_false_iff_ne]; exact h1
 have hd : (t.toList == [45, 49]) = false := by rw [ByteArray.toList_eq, beq_eq_false_iff_ne]; exact h2
 have he : ¬ 9223372036854775807 < t.size + 1 := by omega
 have HU := Hd hu
 clear h1 h2 hs hu
 have G_y := Hd g_y
 clear g_y
 go_enter Tryz.func23, Tryz.ntmps23
 go_upto_region 1 with fail
 refine Zy (P := fun W => Code.wp _ _ _ _ W) fun W p0 b0 => ?_
 have P_y := Hd (Zw.mk p0)
 have HB := Hd b0
 clear b0 p0
 obtain ⟨-, y0, y1, y2, y3, -, -, -, -⟩ := P_y.out.facts
 go_wp2_with fail
 refine (H1.out W _ (HT.out.below2 HB.out) (G_y.out.below HB.out)).mono ?_
 rintro e wx1 ⟨rfl, hb⟩
 clear y0 y1 y2 y3
 have P_y := Hd (P_y.out.below hb)
 have HB := Hd (Zb HB.out hb)
 clear hb
 go_wp2_with fail
 go_ret
 exact ⟨by rw [HU.out]; rfl, HB.out⟩

theorem gauss_Text_A {n d m f s0 s1 : Int} {t1 t2 u : ByteArray} (C1 : Jt 20 (decide (n < 0)) (decide (d < 0)) (decide (m < 0)) (decide (f < 0)) (Za n.natAbs) (Za d.natAbs) (Za m.natAbs) (Za f.natAbs) true) (C2 : Yg 21 n d s0) (C3 : Yg 21 m f s1) (z0 : (s0 == 0) = false) (z1 : (s1 == 0) = true) (z2 : s1 <= 0) (C4 : X1 22 n d t1) (hu : u = t1) (q1 : t1.size <= 1000000) (q2 : t2.size <= 1000000) (q3 : True) (hl : u.size <= 65536) (w : World) (v_x : Value) (g_x : Zi w v_x n d m f) (htab : ZB w) :
  Calls Tryz.prog 8 #[v_x] w (fun e w' => e = .returned (.tuple #[.string u, .int .i64 0]) /\ Below w.heap.size w w') := by
 obtain ⟨Ax1, cx1, Ax2, cx2, Ax3, cx3, Ax4, cx4, rfl, -⟩ := g_x.form
 have HT := Hd htab
 clear htab
 have _ := q1
 have _ := q2
 have _ := q3
 have HU := Hd hu
 rw [hu] at hl
 have z3 : (s0 != 0) = true := by rw [bne, z0]; rfl
 have z4 : (s1 != 0) = false := by rw [bne, z1]; rfl
 have hl2 : (t1.size : Int) <= 65536 := by omega
 clear hu hl q1 q2 q3
 have H1 := Hd C1
 have H2 := Hd C2
 have H3 := Hd C3
 have H4 := Hd C4
 clear C1 C2 C3 C4
 have G_x := Hd g_x
 clear g_x
 go_enter Tryz.func8, Tryz.ntmps8
 go_upto_region 1 with fail
 refine Zy (P := fun W => Code.wp _ _ _ _ W) fun W p0 b0 => ?_
 have P_x := Hd (ZX.mk p0)
 have HB := Hd b0
 clear b0 p0
 obtain ⟨-, x0, x1, x2, x3, x4, x5, x6, x7⟩ := P_x.out.facts
 go_wp2_with fail
 refine (H1.out W _ (G_x.out.below HB.out).raw).mono ?_
 rintro e wx1 ⟨rfl, hb⟩
 clear x0 x1 x2 x3 x4 x5 x6 x7
 have P_x := Hd (P_x.out.below hb)
 have HB := Hd (Zb HB.out hb)
 clear hb
 obtain ⟨-, x0, x1, x2, x3, x4, x5, x6, x7⟩ := P_x.out.facts
 go_wp2_with fail
 refine (H2.out wx1 _ (G_x.out.below HB.out).re).mono ?_
 rintro e wx2 ⟨rfl, hb⟩
 clear x0 x1 x2 x3 x4 x5 x6 x7
 have P_x := Hd (P_x.out.below hb)
 have HB := Hd (Zb HB.out hb)
 clear hb
 obtain ⟨-, x0, x1, x2, x3, x4, x5, x6, x7⟩ := P_x.out.facts
 go_wp2_with fail
 refine (H4.out wx2 _ (HT.out.below2 HB.out) (G_x.out.below HB.out).re).mono ?_
 rintro e wx3 ⟨rfl, hb⟩
 clear x0 x1 x2 x3 x4 x5 x6 x7
 have P_x := Hd (P_x.out.below hb)
 have HB := Hd (Zb HB.out hb)
 clear hb
 obtain ⟨-, x0, x1, x2, x3, x4, x5, x6, x7⟩ := P_x.out.facts
 go_wp2_with fail
 refine (H3.out wx3 _ (G_x.out.below HB.out).im).mono ?_
 rintro e wx4 ⟨rfl, hb⟩
 clear x0 x1 x2 x3 x4 x5 x6 x7
 have P_x := Hd (P_x.out.below hb)
 have HB := Hd (Zb HB.out hb)
 clear hb
 obtain ⟨-, x0, x1, x2, x3, x4, x5, x6, x7⟩ := P_x.out.facts
 go_wp2_with fail
 refine (H3.out wx4 _ (G_x.out.below HB.out).im).mono ?_
 rintro e wx5 ⟨rfl, hb⟩
 clear x0 x1 x2 x3 x4 x5 x6 x7
 have P_x := Hd (P_x.out.below hb)
 have HB := Hd (Zb HB.out hb)
 clear hb
 go_wp2_with fail
 go_ret2
 exact ⟨by rw [HU.out]; rfl, HB.out⟩

theorem gauss_Text_A_long {n d m f s0 s1 : Int} {t1 t2 u : ByteArray} (C1 : Jt 20 (decide (n < 0)) (decide (d < 0)) (decide (m < 0)) (decide (f < 0)) (Za n.natAbs) (Za d.natAbs) (Za m.natAbs) (Za f.natAbs) true) (C2 : Yg 21 n d s0) (C3 : Yg 21 m f s1) (z0 : (s0 == 0) = false) (z1 : (s1 == 0) = true) (z2 : s1 <= 0) (C4 : X1 22 n d t1) (hu : u = t1) (q1 : t1.size <= 1000000) (q2 : t2.size <= 1000000) (q3 : True) (hl : 65536 < u.size) (w : World) (v_x : Value) (g_x : Zi w v_x n d m f) (htab : ZB w) :
  Calls Tryz.prog 8 #[v_x] w (fun e w' => e = .returned (.tuple #[.string ⟨#[]⟩, .int .i64 4]) /\ Below w.heap.size w w') := by
 obtain ⟨Ax1, cx1, Ax2, cx2, Ax3, cx3, Ax4, cx4, rfl, -⟩ := g_x.form
 have HT := Hd htab
 clear htab
 have _ := q1
 have _ := q2
 have _ := q3
 have HU := Hd hu
 rw [hu] at hl
 have z3 : (s0 != 0) = true := by rw [bne, z0]; rfl
 have z4 : (s1 != 0) = false := by rw [bne, z1]; rfl
 have hl2 : 65536 < (t1.size : Int) := by omega
 clear hu hl q1 q2 q3
 have H1 := Hd C1
 have H2 := Hd C2
 have H3 := Hd C3
 have H4 := Hd C4
 clear C1 C2 C3 C4
 have G_x := Hd g_x
 clear g_x
 go_enter Tryz.func8, Tryz.ntmps8
 go_upto_region 1 with fail
 refine Zy (P := fun W => Code.wp _ _ _ _ W) fun W p0 b0 => ?_
 have P_x := Hd (ZX.mk p0)
 have HB := Hd b0
 clear b0 p0
 obtain ⟨-, x0, x1, x2, x3, x4, x5, x6, x7⟩ := P_x.out.facts
 go_wp2_with fail
 refine (H1.out W _ (G_x.out.below HB.out).raw).mono ?_
 rintro e wx1 ⟨rfl, hb⟩
 clear x0 x1 x2 x3 x4 x5 x6 x7
 have P_x := Hd (P_x.out.below hb)
 have HB := Hd (Zb HB.out hb)
 clear hb
 obtain ⟨-, x0, x1, x2, x3, x4, x5, x6, x7⟩ := P_x.out.facts
 go_wp2_with fail
 refine (H2.out wx1 _ (G_x.out.below HB.out).re).mono ?_
 rintro e wx2 ⟨rfl, hb⟩
 clear x0 x1 x2 x3 x4 x5 x6 x7
 have P_x := Hd (P_x.out.below hb)
 have HB := Hd (Zb HB.out hb)
 clear hb
 obtain ⟨-, x0, x1, x2, x3, x4, x5, x6, x7⟩ := P_x.out.facts
 go_wp2_with fail
 refine (H4.out wx2 _ (HT.out.below2 HB.out) (G_x.out.below HB.out).re).mono ?_
 rintro e wx3 ⟨rfl, hb⟩
 clear x0 x1 x2 x3 x4 x5 x6 x7
 have P_x := Hd (P_x.out.below hb)
 have HB := Hd (Zb HB.out hb)
 clear hb
 obtain ⟨-, x0, x1, x2, x3, x4, x5, x6, x7⟩ := P_x.out.facts
 go_wp2_with fail
 refine (H3.out wx3 _ (G_x.out.below HB.out).im).mono ?_
 rintro e wx4 ⟨rfl, hb⟩
 clear x0 x1 x2 x3 x4 x5 x6 x7
 have P_x := Hd (P_x.out.below hb)
 have HB := Hd (Zb HB.out hb)
 clear hb
 obtain ⟨-, x0, x1, x2, x3, x4, x5, x6, x7⟩ := P_x.out.facts
 go_wp2_with fail
 refine (H3.out wx4 _ (G_x.out.below HB.out).im).mono ?_
 rintro e wx5 ⟨rfl, hb⟩
 clear x0 x1 x2 x3 x4 x5 x6 x7
 have P_x := Hd (P_x.out.below hb)
 have HB := Hd (Zb HB.out hb)
 clear hb
 go_wp2_with fail
 go_ret2
 exact ⟨rfl, HB.out⟩

theorem gauss_Text_A0 {n d m f s0 s1 : Int} {t1 t2 u : ByteArray} (C1 : Jt 20 (decide (n < 0)) (decide (d < 0)) (decide (m < 0)) (decide (f < 0)) (Za n.natAbs) (Za d.natAbs) (Za m.natAbs) (Za f.natAbs) true) (C2 : Yg 21 n d s0) (C3 : Yg 21 m f s1) (z0 : (s0 == 0) = true) (z1 : (s1 == 0) = true) (z2 : s1 <= 0) (C4 : X1 22 n d t1) (hu : u = t1) (q1 : t1.size <= 1000000) (q2 : t2.size <= 1000000) (q3 : True) (hl : u.size <= 65536) (w : World) (v_x : Value) (g_x : Zi w v_x n d m f) (htab : ZB w) :
  Calls Tryz.prog 8 #[v_x] w (fun e w' => e = .returned (.tuple #[.string u, .int .i64 0]) /\ Below w.heap.size w w') := by
 obtain ⟨Ax1, cx1, Ax2, cx2, Ax3, cx3, Ax4, cx4, rfl, -⟩ := g_x.form
 have HT := Hd htab
 clear htab
 have _ := q1
 have _ := q2
 have _ := q3
 have HU := Hd hu
 rw [hu] at hl
 have z3 : (s0 != 0) = false := by rw [bne, z0]; rfl
 have z4 : (s1 != 0) = false := by rw [bne, z1]; rfl
 have hl2 : (t1.size : Int) <= 65536 := by omega
 clear hu hl q1 q2 q3
 have H1 := Hd C1
 have H2 := Hd C2
 have H3 := Hd C3
 have H4 := Hd C4
 clear C1 C2 C3 C4
 have G_x := Hd g_x
 clear g_x
 go_enter Tryz.func8, Tryz.ntmps8
 go_upto_region 1 with fail
 refine Zy (P := fun W => Code.wp _ _ _ _ W) fun W p0 b0 => ?_
 have P_x := Hd (ZX.mk p0)
 have HB := Hd b0
 clear b0 p0
 obtain ⟨-, x0, x1, x2, x3, x4, x5, x6, x7⟩ := P_x.out.facts
 go_wp2_with fail
 refine (H1.out W _ (G_x.out.below HB.out).raw).mono ?_
 rintro e wx1 ⟨rfl, hb⟩
 clear x0 x1 x2 x3 x4 x5 x6 x7
 have P_x := Hd (P_x.out.below hb)
 have HB := Hd (Zb HB.out hb)
 clear hb
 obtain ⟨-, x0, x1, x2, x3, x4, x5, x6, x7⟩ := P_x.out.facts
 go_wp2_with fail
 refine (H2.out wx1 _ (G_x.out.below HB.out).re).mono ?_
 rintro e wx2 ⟨rfl, hb⟩
 clear x0 x1 x2 x3 x4 x5 x6 x7
 have P_x := Hd (P_x.out.below hb)
 have HB := Hd (Zb HB.out hb)
 clear hb
 obtain ⟨-, x0, x1, x2, x3, x4, x5, x6, x7⟩ := P_x.out.facts
 go_wp2_with fail
 refine (H3.out wx2 _ (G_x.out.below HB.out).im).mono ?_
 rintro e wx3 ⟨rfl, hb⟩
 clear x0 x1 x2 x3 x4 x5 x6 x7
 have P_x := Hd (P_x.out.below hb)
 have HB := Hd (Zb HB.out hb)
 clear hb
 obtain ⟨-, x0, x1, x2, x3, x4, x5, x6, x7⟩ := P_x.out.facts
 go_wp2_with fail
 refine (H4.out wx3 _ (HT.out.below2 HB.out) (G_x.out.below HB.out).re).mono ?_
 rintro e wx4 ⟨rfl, hb⟩
 clear x0 x1 x2 x3 x4 x5 x6 x7
 have P_x := Hd (P_x.out.below hb)
 have HB := Hd (Zb HB.out hb)
 clear hb
 obtain ⟨-, x0, x1, x2, x3, x4, x5, x6, x7⟩ := P_x.out.facts
 go_wp2_with fail
 refine (H3.out wx4 _ (G_x.out.below HB.out).im).mono ?_
 rintro e wx5 ⟨rfl, hb⟩
 clear x0 x1 x2 x3 x4 x5 x6 x7
 have P_x := Hd (P_x.out.below hb)
 have HB := Hd (Zb HB.out hb)
 clear hb
 obtain ⟨-, x0, x1, x2, x3, x4, x5, x6, x7⟩ := P_x.out.facts
 go_wp2_with fail
 refine (H3.out wx5 _ (G_x.out.below HB.out).im).mono ?_
 rintro e wx6 ⟨rfl, hb⟩
 clear x0 x1 x2 x3 x4 x5 x6 x7
 have P_x := Hd (P_x.out.below hb)
 have HB := Hd (Zb HB.out hb)
 clear hb
 go_wp2_with fail
 go_ret2
 exact ⟨by rw [HU.out]; rfl, HB.out⟩

theorem gauss_Text_A0_long {n d m f s0 s1 : Int} {t1 t2 u : ByteArray} (C1 : Jt 20 (decide (n < 0)) (decide (d < 0)) (decide (m < 0)) (decide (f < 0)) (Za n.natAbs) (Za d.natAbs) (Za m.natAbs) (Za f.natAbs) true) (C2 : Yg 21 n d s0) (C3 : Yg 21 m f s1) (z0 : (s0 == 0) = true) (z1 : (s1 == 0) = true) (z2 : s1 <= 0) (C4 : X1 22 n d t1) (hu : u = t1) (q1 : t1.size <= 1000000) (q2 : t2.size <= 1000000) (q3 : True) (hl : 65536 < u.size) (w : World) (v_x : Value) (g_x : Zi w v_x n d m f) (htab : ZB w) :
  Calls Tryz.prog 8 #[v_x] w (fun e w' => e = .returned (.tuple #[.string ⟨#[]⟩, .int .i64 4]) /\ Below w.heap.size w w') := by
 obtain ⟨Ax1, cx1, Ax2, cx2, Ax3, cx3, Ax4, cx4, rfl, -⟩ := g_x.form
 have HT := Hd htab
 clear htab
 have _ := q1
 have _ := q2
 have _ := q3
 have HU := Hd hu
 rw [hu] at hl
 have z3 : (s0 != 0) = false := by rw [bne, z0]; rfl
 have z4 : (s1 != 0) = false := by rw [bne, z1]; rfl
 have hl2 : 65536 < (t1.size : Int) := by omega
 clear hu hl q1 q2 q3
 have H1 := Hd C1
 have H2 := Hd C2
 have H3 := Hd C3
 have H4 := Hd C4
 clear C1 C2 C3 C4
 have G_x := Hd g_x
 clear g_x
 go_enter Tryz.func8, Tryz.ntmps8
 go_upto_region 1 with fail
 refine Zy (P := fun W => Code.wp _ _ _ _ W) fun W p0 b0 => ?_
 have P_x := Hd (ZX.mk p0)
 have HB := Hd b0
 clear b0 p0
 obtain ⟨-, x0, x1, x2, x3, x4, x5, x6, x7⟩ := P_x.out.facts
 go_wp2_with fail
 refine (H1.out W _ (G_x.out.below HB.out).raw).mono ?_
 rintro e wx1 ⟨rfl, hb⟩
 clear x0 x1 x2 x3 x4 x5 x6 x7
 have P_x := Hd (P_x.out.below hb)
 have HB := Hd (Zb HB.out hb)
 clear hb
 obtain ⟨-, x0, x1, x2, x3, x4, x5, x6, x7⟩ := P_x.out.facts
 go_wp2_with fail
 refine (H2.out wx1 _ (G_x.out.below HB.out).re).mono ?_
 rintro e wx2 ⟨rfl, hb⟩
 clear x0 x1 x2 x3 x4 x5 x6 x7
 have P_x := Hd (P_x.out.below hb)
 have HB := Hd (Zb HB.out hb)
 clear hb
 obtain ⟨-, x0, x1, x2, x3, x4, x5, x6, x7⟩ := P_x.out.facts
 go_wp2_with fail
 refine (H3.out wx2 _ (G_x.out.below HB.out).im).mono ?_
 rintro e wx3 ⟨rfl, hb⟩
 clear x0 x1 x2 x3 x4 x5 x6 x7
 have P_x := Hd (P_x.out.below hb)
 have HB := Hd (Zb HB.out hb)
 clear hb
 obtain ⟨-, x0, x1, x2, x3, x4, x5, x6, x7⟩ := P_x.out.facts
 go_wp2_with fail
 refine (H4.out wx3 _ (HT.out.below2 HB.out) (G_x.out.below HB.out).re).mono ?_
 rintro e wx4 ⟨rfl, hb⟩
 clear x0 x1 x2 x3 x4 x5 x6 x7
 have P_x := Hd (P_x.out.below hb)
 have HB := Hd (Zb HB.out hb)
 clear hb
 obtain ⟨-, x0, x1, x2, x3, x4, x5, x6, x7⟩ := P_x.out.facts
 go_wp2_with fail
 refine (H3.out wx4 _ (G_x.out.below HB.out).im).mono ?_
 rintro e wx5 ⟨rfl, hb⟩
 clear x0 x1 x2 x3 x4 x5 x6 x7
 have P_x := Hd (P_x.out.below hb)
 have HB := Hd (Zb HB.out hb)
 clear hb
 obtain ⟨-, x0, x1, x2, x3, x4, x5, x6, x7⟩ := P_x.out.facts
 go_wp2_with fail
 refine (H3.out wx5 _ (G_x.out.below HB.out).im).mono ?_
 rintro e wx6 ⟨rfl, hb⟩
 clear x0 x1 x2 x3 x4 x5 x6 x7
 have P_x := Hd (P_x.out.below hb)
 have HB := Hd (Zb HB.out hb)
 clear hb
 go_wp2_with fail
 go_ret2
 exact ⟨rfl, HB.out⟩

theorem gauss_Text_Bp {n d m f s0 s1 : Int} {t1 t2 u : ByteArray} (C1 : Jt 20 (decide (n < 0)) (decide (d < 0)) (decide (m < 0)) (decide (f < 0)) (Za n.natAbs) (Za d.natAbs) (Za m.natAbs) (Za f.natAbs) true) (C2 : Yg 21 n d s0) (C3 : Yg 21 m f s1) (z0 : (s0 == 0) = false) (z1 : (s1 == 0) = false) (z2 : 0 < s1) (C4 : X1 22 n d t1) (C5 : X1 23 m f t2) (hu : u = t1 ++ ⟨#[43]⟩ ++ t2) (q1 : t1.size <= 1000000) (q2 : t2.size <= 1000000) (q3 : ¬ t1.data.toList = []) (hl : u.size <= 65536) (w : World) (v_x : Value) (g_x : Zi w v_x n d m f) (htab : ZB w) :
  Calls Tryz.prog 8 #[v_x] w (fun e w' => e = .returned (.tuple #[.string u, .int .i64 0]) /\ Below w.heap.size w w') := by
 obtain ⟨Ax1, cx1, Ax2, cx2, Ax3, cx3, Ax4, cx4, rfl, -⟩ := g_x.form
 have HT := Hd htab
 clear htab
 have _ := q1
 have _ := q2
 have _ := q3
 have HU := Hd hu
 rw [hu] at hl
 have e1 : (⟨#[43]⟩ : ByteArray).size = 1 := rfl
 rw [ByteArray.size_append, ByteArray.size_append, e1] at hl
 have w1 : ¬ 9223372036854775807 < t1.size + 1 := by omega
 have w2 : ¬ 9223372036854775807 < t1.size + 1 + t2.size := by omega
 have hne : ¬ t1.toList = [] := by rw [ByteArray.toList_eq]; exact q3
 have hne2 : t1.toList.isEmpty = false := by rw [ByteArray.toList_eq]; exact List.isEmpty_eq_false_iff.2 q3
 have hne3 : (t1.toList == []) = false := by rw [beq_eq_false_iff_ne]; exact hne
 have hne4 : (t1.toList != []) = true := by rw [bne, hne3]; rfl
 have z3 : (s0 != 0) = true := by rw [bne, z0]; rfl
 have z4 : (s1 != 0) = true := by rw [bne, z1]; rfl
 have hl2 : (t1.size : Int) + 1 + (t2.size : Int) <= 65536 := by omega
 clear hu hl q1 q2 q3 e1
 have H1 := Hd C1
 have H2 := Hd C2
 have H3 := Hd C3
 have H4 := Hd C4
 have H5 := Hd C5
 clear C1 C2 C3 C4 C5
 have G_x := Hd g_x
 clear g_x
 go_enter Tryz.func8, Tryz.ntmps8
 go_upto_region 1 with fail
 refine Zy (P := fun W => Code.wp _ _ _ _ W) fun W p0 b0 => ?_
 have P_x := Hd (ZX.mk p0)
 have HB := Hd b0
 clear b0 p0
 obtain ⟨-, x0, x1, x2, x3, x4, x5, x6, x7⟩ := P_x.out.facts
 go_wp2_with fail
 refine (H1.out W _ (G_x.out.below HB.out).raw).mono ?_
 rintro e wx1 ⟨rfl, hb⟩
 clear x0 x1 x2 x3 x4 x5 x6 x7
 have P_x := Hd (P_x.out.below hb)
 have HB := Hd (Zb HB.out hb)
 clear hb
 obtain ⟨-, x0, x1, x2, x3, x4, x5, x6, x7⟩ := P_x.out.facts
 go_wp2_with fail
 refine (H2.out wx1 _ (G_x.out.below HB.out).re).mono ?_
 rintro e wx2 ⟨rfl, hb⟩
 clear x0 x1 x2 x3 x4 x5 x6 x7
 have P_x := Hd (P_x.out.below hb)
 have HB := Hd (Zb HB.out hb)
 clear hb
 obtain ⟨-, x0, x1, x2, x3, x4, x5, x6, x7⟩ := P_x.out.facts
 go_wp2_with fail
 refine (H4.out wx2 _ (HT.out.below2 HB.out) (G_x.out.below HB.out).re).mono ?_
 rintro e wx3 ⟨rfl, hb⟩
 clear x0 x1 x2 x3 x4 x5 x6 x7
 have P_x := Hd (P_x.out.below hb)
 have HB := Hd (Zb HB.out hb)
 clear hb
 obtain ⟨-, x0, x1, x2, x3, x4, x5, x6, x7⟩ := P_x.out.facts
 go_wp2_with fail
 refine (H3.out wx3 _ (G_x.out.below HB.out).im).mono ?_
 rintro e wx4 ⟨rfl, hb⟩
 clear x0 x1 x2 x3 x4 x5 x6 x7
 have P_x := Hd (P_x.out.below hb)
 have HB := Hd (Zb HB.out hb)
 clear hb
 obtain ⟨-, x0, x1, x2, x3, x4, x5, x6, x7⟩ := P_x.out.facts
 go_wp2_with fail
 refine (H3.out wx4 _ (G_x.out.below HB.out).im).mono ?_
 rintro e wx5 ⟨rfl, hb⟩
 clear x0 x1 x2 x3 x4 x5 x6 x7
 have P_x := Hd (P_x.out.below hb)
 have HB := Hd (Zb HB.out hb)
 clear hb
 obtain ⟨-, x0, x1, x2, x3, x4, x5, x6, x7⟩ := P_x.out.facts
 go_wp2_with fail
 refine (H5.out wx5 _ (HT.out.below2 HB.out) (G_x.out.below HB.out).im).mono ?_
 rintro e wx6 ⟨rfl, hb⟩
 clear x0 x1 x2 x3 x4 x5 x6 x7
 have P_x := Hd (P_x.out.below hb)
 have HB := Hd (Zb HB.out hb)
 clear hb
 go_wp2_with fail
 go_ret2
 exact ⟨by rw [HU.out]; rfl, HB.out⟩

theorem gauss_Text_Bp_long {n d m f s0 s1 : Int} {t1 t2 u : ByteArray} (C1 : Jt 20 (decide (n < 0)) (decide (d < 0)) (decide (m < 0)) (decide (f < 0)) (Za n.natAbs) (Za d.natAbs) (Za m.natAbs) (Za f.natAbs) true) (C2 : Yg 21 n d s0) (C3 : Yg 21 m f s1) (z0 : (s0 == 0) = false) (z1 : (s1 == 0) = false) (z2 : 0 < s1) (C4 : X1 22 n d t1) (C5 : X1 23 m f t2) (hu : u = t1 ++ ⟨#[43]⟩ ++ t2) (q1 : t1.size <= 1000000) (q2 : t2.size <= 1000000) (q3 : ¬ t1.data.toList = []) (hl : 65536 < u.size) (w : World) (v_x : Value) (g_x : Zi w v_x n d m f) (htab : ZB w) :
  Calls Tryz.prog 8 #[v_x] w (fun e w' => e = .returned (.tuple #[.string ⟨#[]⟩, .int .i64 4]) /\ Below w.heap.size w w') := by
 obtain ⟨Ax1, cx1, Ax2, cx2, Ax3, cx3, Ax4, cx4, rfl, -⟩ := g_x.form
 have HT := Hd htab
 clear htab
 have _ := q1
 have _ := q2
 have _ := q3
 have HU := Hd hu
 rw [hu] at hl
 have e1 : (⟨#[43]⟩ : ByteArray).size = 1 := rfl
 rw [ByteArray.size_append, ByteArray.size_append, e1] at hl
 have w1 : ¬ 9223372036854775807 < t1.size + 1 := by omega
 have w2 : ¬ 9223372036854775807 < t1.size + 1 + t2.size := by omega
 have hne : ¬ t1.toList = [] := by rw [ByteArray.toList_eq]; exact q3
 have hne2 : t1.toList.isEmpty = false := by rw [ByteArray.toList_eq]; exact List.isEmpty_eq_false_iff.2 q3
 have hne3 : (t1.toList == []) = false := by rw [beq_eq_false_iff_ne]; exact hne
 have hne4 : (t1.toList != []) = true := by rw [bne, hne3]; rfl
 have z3 : (s0 != 0) = true := by rw [bne, z0]; rfl
 have z4 : (s1 != 0) = true := by rw [bne, z1]; rfl
 have hl2 : 65536 < (t1.size : Int) + 1 + (t2.size : Int) := by omega
 clear hu hl q1 q2 q3 e1
 have H1 := Hd C1
 have H2 := Hd C2
 have H3 := Hd C3
 have H4 := Hd C4
 have H5 := Hd C5
 clear C1 C2 C3 C4 C5
 have G_x := Hd g_x
 clear g_x
 go_enter Tryz.func8, Tryz.ntmps8
 go_upto_region 1 with fail
 refine Zy (P := fun W => Code.wp _ _ _ _ W) fun W p0 b0 => ?_
 have P_x := Hd (ZX.mk p0)
 have HB := Hd b0
 clear b0 p0
 obtain ⟨-, x0, x1, x2, x3, x4, x5, x6, x7⟩ := P_x.out.facts
 go_wp2_with fail
 refine (H1.out W _ (G_x.out.below HB.out).raw).mono ?_
 rintro e wx1 ⟨rfl, hb⟩
 clear x0 x1 x2 x3 x4 x5 x6 x7
 have P_x := Hd (P_x.out.below hb)
 have HB := Hd (Zb HB.out hb)
 clear hb
 obtain ⟨-, x0, x1, x2, x3, x4, x5, x6, x7⟩ := P_x.out.facts
 go_wp2_with fail
 refine (H2.out wx1 _ (G_x.out.below HB.out).re).mono ?_
 rintro e wx2 ⟨rfl, hb⟩
 clear x0 x1 x2 x3 x4 x5 x6 x7
 have P_x := Hd (P_x.out.below hb)
 have HB := Hd (Zb HB.out hb)
 clear hb
 obtain ⟨-, x0, x1, x2, x3, x4, x5, x6, x7⟩ := P_x.out.facts
 go_wp2_with fail
 refine (H4.out wx2 _ (HT.out.below2 HB.out) (G_x.out.below HB.out).re).mono ?_
 rintro e wx3 ⟨rfl, hb⟩
 clear x0 x1 x2 x3 x4 x5 x6 x7
 have P_x := Hd (P_x.out.below hb)
 have HB := Hd (Zb HB.out hb)
 clear hb
 obtain ⟨-, x0, x1, x2, x3, x4, x5, x6, x7⟩ := P_x.out.facts
 go_wp2_with fail
 refine (H3.out wx3 _ (G_x.out.below HB.out).im).mono ?_
 rintro e wx4 ⟨rfl, hb⟩
 clear x0 x1 x2 x3 x4 x5 x6 x7
 have P_x := Hd (P_x.out.below hb)
 have HB := Hd (Zb HB.out hb)
 clear hb
 obtain ⟨-, x0, x1, x2, x3, x4, x5, x6, x7⟩ := P_x.out.facts
 go_wp2_with fail
 refine (H3.out wx4 _ (G_x.out.below HB.out).im).mono ?_
 rintro e wx5 ⟨rfl, hb⟩
 clear x0 x1 x2 x3 x4 x5 x6 x7
 have P_x := Hd (P_x.out.below hb)
 have HB := Hd (Zb HB.out hb)
 clear hb
 obtain ⟨-, x0, x1, x2, x3, x4, x5, x6, x7⟩ := P_x.out.facts
 go_wp2_with fail
 refine (H5.out wx5 _ (HT.out.below2 HB.out) (G_x.out.below HB.out).im).mono ?_
 rintro e wx6 ⟨rfl, hb⟩
 clear x0 x1 x2 x3 x4 x5 x6 x7
 have P_x := Hd (P_x.out.below hb)
 have HB := Hd (Zb HB.out hb)
 clear hb
 go_wp2_with fail
 go_ret2
 exact ⟨rfl, HB.out⟩

theorem gauss_Text_Bm {n d m f s0 s1 : Int} {t1 t2 u : ByteArray} (C1 : Jt 20 (decide (n < 0)) (decide (d < 0)) (decide (m < 0)) (decide (f < 0)) (Za n.natAbs) (Za d.natAbs) (Za m.natAbs) (Za f.natAbs) true) (C2 : Yg 21 n d s0) (C3 : Yg 21 m f s1) (z0 : (s0 == 0) = false) (z1 : (s1 == 0) = false) (z2 : s1 <= 0) (C4 : X1 22 n d t1) (C5 : X1 23 m f t2) (hu : u = t1 ++ t2) (q1 : t1.size <= 1000000) (q2 : t2.size <= 1000000) (q3 : ¬ t1.data.toList = []) (hl : u.size <= 65536) (w : World) (v_x : Value) (g_x : Zi w v_x n d m f) (htab : ZB w) :
  Calls Tryz.prog 8 #[v_x] w (fun e w' => e = .returned (.tuple #[.string u, .int .i64 0]) /\ Below w.heap.size w w') := by
 obtain ⟨Ax1, cx1, Ax2, cx2, Ax3, cx3, Ax4, cx4, rfl, -⟩ := g_x.form
 have HT := Hd htab
 clear htab
 have _ := q1
 have _ := q2
 have _ := q3
 have HU := Hd hu
 rw [hu] at hl
 rw [ByteArray.size_append] at hl
 have w1 : ¬ 9223372036854775807 < t1.size + t2.size := by omega
 have hne : ¬ t1.toList = [] := by rw [ByteArray.toList_eq]; exact q3
 have hne2 : t1.toList.isEmpty = false := by rw [ByteArray.toList_eq]; exact List.isEmpty_eq_false_iff.2 q3
 have hne3 : (t1.toList == []) = false := by rw [beq_eq_false_iff_ne]; exact hne
 have hne4 : (t1.toList != []) = true := by rw [bne, hne3]; rfl
 have z3 : (s0 != 0) = true := by rw [bne, z0]; rfl
 have z4 : (s1 != 0) = true := by rw [bne, z1]; rfl
 have hl2 : (t1.size : Int) + (t2.size : Int) <= 65536 := by omega
 clear hu hl q1 q2 q3
 have H1 := Hd C1
 have H2 := Hd C2
 have H3 := Hd C3
 have H4 := Hd C4
 have H5 := Hd C5
 clear C1 C2 C3 C4 C5
 have G_x := Hd g_x
 clear g_x
 go_enter Tryz.func8, Tryz.ntmps8
 go_upto_region 1 with fail
 refine Zy (P := fun W => Code.wp _ _ _ _ W) fun W p0 b0 => ?_
 have P_x := Hd (ZX.mk p0)
 have HB := Hd b0
 clear b0 p0
 obtain ⟨-, x0, x1, x2, x3, x4, x5, x6, x7⟩ := P_x.out.facts
 go_wp2_with fail
 refine (H1.out W _ (G_x.out.below HB.out).raw).mono ?_
 rintro e wx1 ⟨rfl, hb⟩
 clear x0 x1 x2 x3 x4 x5 x6 x7
 have P_x := Hd (P_x.out.below hb)
 have HB := Hd (Zb HB.out hb)
 clear hb
 obtain ⟨-, x0, x1, x2, x3, x4, x5, x6, x7⟩ := P_x.out.facts
 go_wp2_with fail
 refine (H2.out wx1 _ (G_x.out.below HB.out).re).mono ?_
 rintro e wx2 ⟨rfl, hb⟩
 clear x0 x1 x2 x3 x4 x5 x6 x7
 have P_x := Hd (P_x.out.below hb)
 have HB := Hd (Zb HB.out hb)
 clear hb
 obtain ⟨-, x0, x1, x2, x3, x4, x5, x6, x7⟩ := P_x.out.facts
 go_wp2_with fail
 refine (H4.out wx2 _ (HT.out.below2 HB.out) (G_x.out.below HB.out).re).mono ?_
 rintro e wx3 ⟨rfl, hb⟩
 clear x0 x1 x2 x3 x4 x5 x6 x7
 have P_x := Hd (P_x.out.below hb)
 have HB := Hd (Zb HB.out hb)
 clear hb
 obtain ⟨-, x0, x1, x2, x3, x4, x5, x6, x7⟩ := P_x.out.facts
 go_wp2_with fail
 refine (H3.out wx3 _ (G_x.out.below HB.out).im).mono ?_
 rintro e wx4 ⟨rfl, hb⟩
 clear x0 x1 x2 x3 x4 x5 x6 x7
 have P_x := Hd (P_x.out.below hb)
 have HB := Hd (Zb HB.out hb)
 clear hb
 obtain ⟨-, x0, x1, x2, x3, x4, x5, x6, x7⟩ := P_x.out.facts
 go_wp2_with fail
 refine (H3.out wx4 _ (G_x.out.below HB.out).im).mono ?_
 rintro e wx5 ⟨rfl, hb⟩
 clear x0 x1 x2 x3 x4 x5 x6 x7
 have P_x := Hd (P_x.out.below hb)
 have HB := Hd (Zb HB.out hb)
 clear hb
 obtain ⟨-, x0, x1, x2, x3, x4, x5, x6, x7⟩ := P_x.out.facts
 go_wp2_with fail
 refine (H5.out wx5 _ (HT.out.below2 HB.out) (G_x.out.below HB.out).im).mono ?_
 rintro e wx6 ⟨rfl, hb⟩
 clear x0 x1 x2 x3 x4 x5 x6 x7
 have P_x := Hd (P_x.out.below hb)
 have HB := Hd (Zb HB.out hb)
 clear hb
 go_wp2_with fail
 go_ret2
 exact ⟨by rw [HU.out]; rfl, HB.out⟩

theorem gauss_Text_Bm_long {n d m f s0 s1 : Int} {t1 t2 u : ByteArray} (C1 : Jt 20 (decide (n < 0)) (decide (d < 0)) (decide (m < 0)) (decide (f < 0)) (Za n.natAbs) (Za d.natAbs) (Za m.natAbs) (Za f.natAbs) true) (C2 : Yg 21 n d s0) (C3 : Yg 21 m f s1) (z0 : (s0 == 0) = false) (z1 : (s1 == 0) = false) (z2 : s1 <= 0) (C4 : X1 22 n d t1) (C5 : X1 23 m f t2) (hu : u = t1 ++ t2) (q1 : t1.size <= 1000000) (q2 : t2.size <= 1000000) (q3 : ¬ t1.data.toList = []) (hl : 65536 < u.size) (w : World) (v_x : Value) (g_x : Zi w v_x n d m f) (htab : ZB w) :
  Calls Tryz.prog 8 #[v_x] w (fun e w' => e = .returned (.tuple #[.string ⟨#[]⟩, .int .i64 4]) /\ Below w.heap.size w w') := by
 obtain ⟨Ax1, cx1, Ax2, cx2, Ax3, cx3, Ax4, cx4, rfl, -⟩ := g_x.form
 have HT := Hd htab
 clear htab
 have _ := q1
 have _ := q2
 have _ := q3
 have HU := Hd hu
 rw [hu] at hl
 rw [ByteArray.size_append] at hl
 have w1 : ¬ 9223372036854775807 < t1.size + t2.size := by omega
 have hne : ¬ t1.toList = [] := by rw [ByteArray.toList_eq]; exact q3
 have hne2 : t1.toList.isEmpty = false := by rw [ByteArray.toList_eq]; exact List.isEmpty_eq_false_iff.2 q3
 have hne3 : (t1.toList == []) = false := by rw [beq_eq_false_iff_ne]; exact hne
 have hne4 : (t1.toList != []) = true := by rw [bne, hne3]; rfl
 have z3 : (s0 != 0) = true := by rw [bne, z0]; rfl
 have z4 : (s1 != 0) = true := by rw [bne, z1]; rfl
 have hl2 : 65536 < (t1.size : Int) + (t2.size : Int) := by omega
 clear hu hl q1 q2 q3
 have H1 := Hd C1
 have H2 := Hd C2
 have H3 := Hd C3
 have H4 := Hd C4
 have H5 := Hd C5
 clear C1 C2 C3 C4 C5
 have G_x := Hd g_x
 clear g_x
 go_enter Tryz.func8, Tryz.ntmps8
 go_upto_region 1 with fail
 refine Zy (P := fun W => Code.wp _ _ _ _ W) fun W p0 b0 => ?_
 have P_x := Hd (ZX.mk p0)
 have HB := Hd b0
 clear b0 p0
 obtain ⟨-, x0, x1, x2, x3, x4, x5, x6, x7⟩ := P_x.out.facts
 go_wp2_with fail
 refine (H1.out W _ (G_x.out.below HB.out).raw).mono ?_
 rintro e wx1 ⟨rfl, hb⟩
 clear x0 x1 x2 x3 x4 x5 x6 x7
 have P_x := Hd (P_x.out.below hb)
 have HB := Hd (Zb HB.out hb)
 clear hb
 obtain ⟨-, x0, x1, x2, x3, x4, x5, x6, x7⟩ := P_x.out.facts
 go_wp2_with fail
 refine (H2.out wx1 _ (G_x.out.below HB.out).re).mono ?_
 rintro e wx2 ⟨rfl, hb⟩
 clear x0 x1 x2 x3 x4 x5 x6 x7
 have P_x := Hd (P_x.out.below hb)
 have HB := Hd (Zb HB.out hb)
 clear hb
 obtain ⟨-, x0, x1, x2, x3, x4, x5, x6, x7⟩ := P_x.out.facts
 go_wp2_with fail
 refine (H4.out wx2 _ (HT.out.below2 HB.out) (G_x.out.below HB.out).re).mono ?_
 rintro e wx3 ⟨rfl, hb⟩
 clear x0 x1 x2 x3 x4 x5 x6 x7
 have P_x := Hd (P_x.out.below hb)
 have HB := Hd (Zb HB.out hb)
 clear hb
 obtain ⟨-, x0, x1, x2, x3, x4, x5, x6, x7⟩ := P_x.out.facts
 go_wp2_with fail
 refine (H3.out wx3 _ (G_x.out.below HB.out).im).mono ?_
 rintro e wx4 ⟨rfl, hb⟩
 clear x0 x1 x2 x3 x4 x5 x6 x7
 have P_x := Hd (P_x.out.below hb)
 have HB := Hd (Zb HB.out hb)
 clear hb
 obtain ⟨-, x0, x1, x2, x3, x4, x5, x6, x7⟩ := P_x.out.facts
 go_wp2_with fail
 refine (H3.out wx4 _ (G_x.out.below HB.out).im).mono ?_
 rintro e wx5 ⟨rfl, hb⟩
 clear x0 x1 x2 x3 x4 x5 x6 x7
 have P_x := Hd (P_x.out.below hb)
 have HB := Hd (Zb HB.out hb)
 clear hb
 obtain ⟨-, x0, x1, x2, x3, x4, x5, x6, x7⟩ := P_x.out.facts
 go_wp2_with fail
 refine (H5.out wx5 _ (HT.out.below2 HB.out) (G_x.out.below HB.out).im).mono ?_
 rintro e wx6 ⟨rfl, hb⟩
 clear x0 x1 x2 x3 x4 x5 x6 x7
 have P_x := Hd (P_x.out.below hb)
 have HB := Hd (Zb HB.out hb)
 clear hb
 go_wp2_with fail
 go_ret2
 exact ⟨rfl, HB.out⟩

theorem gauss_Text_Cp {n d m f s0 s1 : Int} {t1 t2 u : ByteArray} (C1 : Jt 20 (decide (n < 0)) (decide (d < 0)) (decide (m < 0)) (decide (f < 0)) (Za n.natAbs) (Za d.natAbs) (Za m.natAbs) (Za f.natAbs) true) (C2 : Yg 21 n d s0) (C3 : Yg 21 m f s1) (z0 : (s0 == 0) = true) (z1 : (s1 == 0) = false) (z2 : 0 < s1) (C5 : X1 23 m f t2) (hu : u = ⟨#[]⟩ ++ t2) (q1 : t1.size <= 1000000) (q2 : t2.size <= 1000000) (q3 : True) (hl : u.size <= 65536) (w : World) (v_x : Value) (g_x : Zi w v_x n d m f) (htab : ZB w) :
  Calls Tryz.prog 8 #[v_x] w (fun e w' => e = .returned (.tuple #[.string u, .int .i64 0]) /\ Below w.heap.size w w') := by
 obtain ⟨Ax1, cx1, Ax2, cx2, Ax3, cx3, Ax4, cx4, rfl, -⟩ := g_x.form
 have HT := Hd htab
 clear htab
 have _ := q1
 have _ := q2
 have _ := q3
 have HU := Hd hu
 rw [hu] at hl
 have e1 : (⟨#[]⟩ : ByteArray).size = 0 := rfl
 rw [ByteArray.size_append, e1, Nat.zero_add] at hl
 have w1 : ¬ 9223372036854775807 < t2.size := by omega
 have z3 : (s0 != 0) = false := by rw [bne, z0]; rfl
 have z4 : (s1 != 0) = true := by rw [bne, z1]; rfl
 have hl2 : (t2.size : Int) <= 65536 := by omega
 clear hu hl q1 q2 q3 e1
 have H1 := Hd C1
 have H2 := Hd C2
 have H3 := Hd C3
 have H5 := Hd C5
 clear C1 C2 C3 C5
 have G_x := Hd g_x
 clear g_x
 go_enter Tryz.func8, Tryz.ntmps8
 go_upto_region 1 with fail
 refine Zy (P := fun W => Code.wp _ _ _ _ W) fun W p0 b0 => ?_
 have P_x := Hd (ZX.mk p0)
 have HB := Hd b0
 clear b0 p0
 obtain ⟨-, x0, x1, x2, x3, x4, x5, x6, x7⟩ := P_x.out.facts
 go_wp2_with fail
 refine (H1.out W _ (G_x.out.below HB.out).raw).mono ?_
 rintro e wx1 ⟨rfl, hb⟩
 clear x0 x1 x2 x3 x4 x5 x6 x7
 have P_x := Hd (P_x.out.below hb)
 have HB := Hd (Zb HB.out hb)
 clear hb
 obtain ⟨-, x0, x1, x2, x3, x4, x5, x6, x7⟩ := P_x.out.facts
 go_wp2_with fail
 refine (H2.out wx1 _ (G_x.out.below HB.out).re).mono ?_
 rintro e wx2 ⟨rfl, hb⟩
 clear x0 x1 x2 x3 x4 x5 x6 x7
 have P_x := Hd (P_x.out.below hb)
 have HB := Hd (Zb HB.out hb)
 clear hb
 obtain ⟨-, x0, x1, x2, x3, x4, x5, x6, x7⟩ := P_x.out.facts
 go_wp2_with fail
 refine (H3.out wx2 _ (G_x.out.below HB.out).im).mono ?_
 rintro e wx3 ⟨rfl, hb⟩
 clear x0 x1 x2 x3 x4 x5 x6 x7
 have P_x := Hd (P_x.out.below hb)
 have HB := Hd (Zb HB.out hb)
 clear hb
 obtain ⟨-, x0, x1, x2, x3, x4, x5, x6, x7⟩ := P_x.out.facts
 go_wp2_with fail
 refine (H3.out wx3 _ (G_x.out.below HB.out).im).mono ?_
 rintro e wx4 ⟨rfl, hb⟩
 clear x0 x1 x2 x3 x4 x5 x6 x7
 have P_x := Hd (P_x.out.below hb)
 have HB := Hd (Zb HB.out hb)
 clear hb
 obtain ⟨-, x0, x1, x2, x3, x4, x5, x6, x7⟩ := P_x.out.facts
 go_wp2_with fail
 refine (H3.out wx4 _ (G_x.out.below HB.out).im).mono ?_
 rintro e wx5 ⟨rfl, hb⟩
 clear x0 x1 x2 x3 x4 x5 x6 x7
 have P_x := Hd (P_x.out.below hb)
 have HB := Hd (Zb HB.out hb)
 clear hb
 obtain ⟨-, x0, x1, x2, x3, x4, x5, x6, x7⟩ := P_x.out.facts
 go_wp2_with fail
 refine (H5.out wx5 _ (HT.out.below2 HB.out) (G_x.out.below HB.out).im).mono ?_
 rintro e wx6 ⟨rfl, hb⟩
 clear x0 x1 x2 x3 x4 x5 x6 x7
 have P_x := Hd (P_x.out.below hb)
 have HB := Hd (Zb HB.out hb)
 clear hb
 go_wp2_with fail
 go_ret2
 exact ⟨by rw [HU.out]; rfl, HB.out⟩

theorem gauss_Text_Cp_long {n d m f s0 s1 : Int} {t1 t2 u : ByteArray} (C1 : Jt 20 (decide (n < 0)) (decide (d < 0)) (decide (m < 0)) (decide (f < 0)) (Za n.natAbs) (Za d.natAbs) (Za m.natAbs) (Za f.natAbs) true) (C2 : Yg 21 n d s0) (C3 : Yg 21 m f s1) (z0 : (s0 == 0) = true) (z1 : (s1 == 0) = false) (z2 : 0 < s1) (C5 : X1 23 m f t2) (hu : u = ⟨#[]⟩ ++ t2) (q1 : t1.size <= 1000000) (q2 : t2.size <= 1000000) (q3 : True) (hl : 65536 < u.size) (w : World) (v_x : Value) (g_x : Zi w v_x n d m f) (htab : ZB w) :
  Calls Tryz.prog 8 #[v_x] w (fun e w' => e = .returned (.tuple #[.string ⟨#[]⟩, .int .i64 4]) /\ Below w.heap.size w w') := by
 obtain ⟨Ax1, cx1, Ax2, cx2, Ax3, cx3, Ax4, cx4, rfl, -⟩ := g_x.form
 have HT := Hd htab
 clear htab
 have _ := q1
 have _ := q2
 have _ := q3
 have HU := Hd hu
 rw [hu] at hl
 have e1 : (⟨#[]⟩ : ByteArray).size = 0 := rfl
 rw [ByteArray.size_append, e1, Nat.zero_add] at hl
 have w1 : ¬ 9223372036854775807 < t2.size := by omega
 have z3 : (s0 != 0) = false := by rw [bne, z0]; rfl
 have z4 : (s1 != 0) = true := by rw [bne, z1]; rfl
 have hl2 : 65536 < (t2.size : Int) := by omega
 clear hu hl q1 q2 q3 e1
 have H1 := Hd C1
 have H2 := Hd C2
 have H3 := Hd C3
 have H5 := Hd C5
 clear C1 C2 C3 C5
 have G_x := Hd g_x
 clear g_x
 go_enter Tryz.func8, Tryz.ntmps8
 go_upto_region 1 with fail
 refine Zy (P := fun W => Code.wp _ _ _ _ W) fun W p0 b0 => ?_
 have P_x := Hd (ZX.mk p0)
 have HB := Hd b0
 clear b0 p0
 obtain ⟨-, x0, x1, x2, x3, x4, x5, x6, x7⟩ := P_x.out.facts
 go_wp2_with fail
 refine (H1.out W _ (G_x.out.below HB.out).raw).mono ?_
 rintro e wx1 ⟨rfl, hb⟩
 clear x0 x1 x2 x3 x4 x5 x6 x7
 have P_x := Hd (P_x.out.below hb)
 have HB := Hd (Zb HB.out hb)
 clear hb
 obtain ⟨-, x0, x1, x2, x3, x4, x5, x6, x7⟩ := P_x.out.facts
 go_wp2_with fail
 refine (H2.out wx1 _ (G_x.out.below HB.out).re).mono ?_
 rintro e wx2 ⟨rfl, hb⟩
 clear x0 x1 x2 x3 x4 x5 x6 x7
 have P_x := Hd (P_x.out.below hb)
 have HB := Hd (Zb HB.out hb)
 clear hb
 obtain ⟨-, x0, x1, x2, x3, x4, x5, x6, x7⟩ := P_x.out.facts
 go_wp2_with fail
 refine (H3.out wx2 _ (G_x.out.below HB.out).im).mono ?_
 rintro e wx3 ⟨rfl, hb⟩
 clear x0 x1 x2 x3 x4 x5 x6 x7
 have P_x := Hd (P_x.out.below hb)
 have HB := Hd (Zb HB.out hb)
 clear hb
 obtain ⟨-, x0, x1, x2, x3, x4, x5, x6, x7⟩ := P_x.out.facts
 go_wp2_with fail
 refine (H3.out wx3 _ (G_x.out.below HB.out).im).mono ?_
 rintro e wx4 ⟨rfl, hb⟩
 clear x0 x1 x2 x3 x4 x5 x6 x7
 have P_x := Hd (P_x.out.below hb)
 have HB := Hd (Zb HB.out hb)
 clear hb
 obtain ⟨-, x0, x1, x2, x3, x4, x5, x6, x7⟩ := P_x.out.facts
 go_wp2_with fail
 refine (H3.out wx4 _ (G_x.out.below HB.out).im).mono ?_
 rintro e wx5 ⟨rfl, hb⟩
 clear x0 x1 x2 x3 x4 x5 x6 x7
 have P_x := Hd (P_x.out.below hb)
 have HB := Hd (Zb HB.out hb)
 clear hb
 obtain ⟨-, x0, x1, x2, x3, x4, x5, x6, x7⟩ := P_x.out.facts
 go_wp2_with fail
 refine (H5.out wx5 _ (HT.out.below2 HB.out) (G_x.out.below HB.out).im).mono ?_
 rintro e wx6 ⟨rfl, hb⟩
 clear x0 x1 x2 x3 x4 x5 x6 x7
 have P_x := Hd (P_x.out.below hb)
 have HB := Hd (Zb HB.out hb)
 clear hb
 go_wp2_with fail
 go_ret2
 exact ⟨rfl, HB.out⟩

theorem gauss_Text_Cm {n d m f s0 s1 : Int} {t1 t2 u : ByteArray} (C1 : Jt 20 (decide (n < 0)) (decide (d < 0)) (decide (m < 0)) (decide (f < 0)) (Za n.natAbs) (Za d.natAbs) (Za m.natAbs) (Za f.natAbs) true) (C2 : Yg 21 n d s0) (C3 : Yg 21 m f s1) (z0 : (s0 == 0) = true) (z1 : (s1 == 0) = false) (z2 : s1 <= 0) (C5 : X1 23 m f t2) (hu : u = ⟨#[]⟩ ++ t2) (q1 : t1.size <= 1000000) (q2 : t2.size <= 1000000) (q3 : True) (hl : u.size <= 65536) (w : World) (v_x : Value) (g_x : Zi w v_x n d m f) (htab : ZB w) :
  Calls Tryz.prog 8 #[v_x] w (fun e w' => e = .returned (.tuple #[.string u, .int .i64 0]) /\ Below w.heap.size w w') := by
 obtain ⟨Ax1, cx1, Ax2, cx2, Ax3, cx3, Ax4, cx4, rfl, -⟩ := g_x.form
 have HT := Hd htab
 clear htab
 have _ := q1
 have _ := q2
 have _ := q3
 have HU := Hd hu
 rw [hu] at hl
 have e1 : (⟨#[]⟩ : ByteArray).size = 0 := rfl
 rw [ByteArray.size_append, e1, Nat.zero_add] at hl
 have w1 : ¬ 9223372036854775807 < t2.size := by omega
 have z3 : (s0 != 0) = false := by rw [bne, z0]; rfl
 have z4 : (s1 != 0) = true := by rw [bne, z1]; rfl
 have hl2 : (t2.size : Int) <= 65536 := by omega
 clear hu hl q1 q2 q3 e1
 have H1 := Hd C1
 have H2 := Hd C2
 have H3 := Hd C3
 have H5 := Hd C5
 clear C1 C2 C3 C5
 have G_x := Hd g_x
 clear g_x
 go_enter Tryz.func8, Tryz.ntmps8
 go_upto_region 1 with fail
 refine Zy (P := fun W => Code.wp _ _ _ _ W) fun W p0 b0 => ?_
 have P_x := Hd (ZX.mk p0)
 have HB := Hd b0
 clear b0 p0
 obtain ⟨-, x0, x1, x2, x3, x4, x5, x6, x7⟩ := P_x.out.facts
 go_wp2_with fail
 refine (H1.out W _ (G_x.out.below HB.out).raw).mono ?_
 rintro e wx1 ⟨rfl, hb⟩
 clear x0 x1 x2 x3 x4 x5 x6 x7
 have P_x := Hd (P_x.out.below hb)
 have HB := Hd (Zb HB.out hb)
 clear hb
 obtain ⟨-, x0, x1, x2, x3, x4, x5, x6, x7⟩ := P_x.out.facts
 go_wp2_with fail
 refine (H2.out wx1 _ (G_x.out.below HB.out).re).mono ?_
 rintro e wx2 ⟨rfl, hb⟩
 clear x0 x1 x2 x3 x4 x5 x6 x7
 have P_x := Hd (P_x.out.below hb)
 have HB := Hd (Zb HB.out hb)
 clear hb
 obtain ⟨-, x0, x1, x2, x3, x4, x5, x6, x7⟩ := P_x.out.facts
 go_wp2_with fail
 refine (H3.out wx2 _ (G_x.out.below HB.out).im).mono ?_
 rintro e wx3 ⟨rfl, hb⟩
 clear x0 x1 x2 x3 x4 x5 x6 x7
 have P_x := Hd (P_x.out.below hb)
 have HB := Hd (Zb HB.out hb)
 clear hb
 obtain ⟨-, x0, x1, x2, x3, x4, x5, x6, x7⟩ := P_x.out.facts
 go_wp2_with fail
 refine (H3.out wx3 _ (G_x.out.below HB.out).im).mono ?_
 rintro e wx4 ⟨rfl, hb⟩
 clear x0 x1 x2 x3 x4 x5 x6 x7
 have P_x := Hd (P_x.out.below hb)
 have HB := Hd (Zb HB.out hb)
 clear hb
 obtain ⟨-, x0, x1, x2, x3, x4, x5, x6, x7⟩ := P_x.out.facts
 go_wp2_with fail
 refine (H3.out wx4 _ (G_x.out.below HB.out).im).mono ?_
 rintro e wx5 ⟨rfl, hb⟩
 clear x0 x1 x2 x3 x4 x5 x6 x7
 have P_x := Hd (P_x.out.below hb)
 have HB := Hd (Zb HB.out hb)
 clear hb
 obtain ⟨-, x0, x1, x2, x3, x4, x5, x6, x7⟩ := P_x.out.facts
 go_wp2_with fail
 refine (H5.out wx5 _ (HT.out.below2 HB.out) (G_x.out.below HB.out).im).mono ?_
 rintro e wx6 ⟨rfl, hb⟩
 clear x0 x1 x2 x3 x4 x5 x6 x7
 have P_x := Hd (P_x.out.below hb)
 have HB := Hd (Zb HB.out hb)
 clear hb
 go_wp2_with fail
 go_ret2
 exact ⟨by rw [HU.out]; rfl, HB.out⟩

theorem gauss_Text_Cm_long {n d m f s0 s1 : Int} {t1 t2 u : ByteArray} (C1 : Jt 20 (decide (n < 0)) (decide (d < 0)) (decide (m < 0)) (decide (f < 0)) (Za n.natAbs) (Za d.natAbs) (Za m.natAbs) (Za f.natAbs) true) (C2 : Yg 21 n d s0) (C3 : Yg 21 m f s1) (z0 : (s0 == 0) = true) (z1 : (s1 == 0) = false) (z2 : s1 <= 0) (C5 : X1 23 m f t2) (hu : u = ⟨#[]⟩ ++ t2) (q1 : t1.size <= 1000000) (q2 : t2.size <= 1000000) (q3 : True) (hl : 65536 < u.size) (w : World) (v_x : Value) (g_x : Zi w v_x n d m f) (htab : ZB w) :
  Calls Tryz.prog 8 #[v_x] w (fun e w' => e = .returned (.tuple #[.string ⟨#[]⟩, .int .i64 4]) /\ Below w.heap.size w w') := by
 obtain ⟨Ax1, cx1, Ax2, cx2, Ax3, cx3, Ax4, cx4, rfl, -⟩ := g_x.form
 have HT := Hd htab
 clear htab
 have _ := q1
 have _ := q2
 have _ := q3
 have HU := Hd hu
 rw [hu] at hl
 have e1 : (⟨#[]⟩ : ByteArray).size = 0 := rfl
 rw [ByteArray.size_append, e1, Nat.zero_add] at hl
 have w1 : ¬ 9223372036854775807 < t2.size := by omega
 have z3 : (s0 != 0) = false := by rw [bne, z0]; rfl
 have z4 : (s1 != 0) = true := by rw [bne, z1]; rfl
 have hl2 : 65536 < (t2.size : Int) := by omega
 clear hu hl q1 q2 q3 e1
 have H1 := Hd C1
 have H2 := Hd C2
 have H3 := Hd C3
 have H5 := Hd C5
 clear C1 C2 C3 C5
 have G_x := Hd g_x
 clear g_x
 go_enter Tryz.func8, Tryz.ntmps8
 go_upto_region 1 with fail
 refine Zy (P := fun W => Code.wp _ _ _ _ W) fun W p0 b0 => ?_
 have P_x := Hd (ZX.mk p0)
 have HB := Hd b0
 clear b0 p0
 obtain ⟨-, x0, x1, x2, x3, x4, x5, x6, x7⟩ := P_x.out.facts
 go_wp2_with fail
 refine (H1.out W _ (G_x.out.below HB.out).raw).mono ?_
 rintro e wx1 ⟨rfl, hb⟩
 clear x0 x1 x2 x3 x4 x5 x6 x7
 have P_x := Hd (P_x.out.below hb)
 have HB := Hd (Zb HB.out hb)
 clear hb
 obtain ⟨-, x0, x1, x2, x3, x4, x5, x6, x7⟩ := P_x.out.facts
 go_wp2_with fail
 refine (H2.out wx1 _ (G_x.out.below HB.out).re).mono ?_
 rintro e wx2 ⟨rfl, hb⟩
 clear x0 x1 x2 x3 x4 x5 x6 x7
 have P_x := Hd (P_x.out.below hb)
 have HB := Hd (Zb HB.out hb)
 clear hb
 obtain ⟨-, x0, x1, x2, x3, x4, x5, x6, x7⟩ := P_x.out.facts
 go_wp2_with fail
 refine (H3.out wx2 _ (G_x.out.below HB.out).im).mono ?_
 rintro e wx3 ⟨rfl, hb⟩
 clear x0 x1 x2 x3 x4 x5 x6 x7
 have P_x := Hd (P_x.out.below hb)
 have HB := Hd (Zb HB.out hb)
 clear hb
 obtain ⟨-, x0, x1, x2, x3, x4, x5, x6, x7⟩ := P_x.out.facts
 go_wp2_with fail
 refine (H3.out wx3 _ (G_x.out.below HB.out).im).mono ?_
 rintro e wx4 ⟨rfl, hb⟩
 clear x0 x1 x2 x3 x4 x5 x6 x7
 have P_x := Hd (P_x.out.below hb)
 have HB := Hd (Zb HB.out hb)
 clear hb
 obtain ⟨-, x0, x1, x2, x3, x4, x5, x6, x7⟩ := P_x.out.facts
 go_wp2_with fail
 refine (H3.out wx4 _ (G_x.out.below HB.out).im).mono ?_
 rintro e wx5 ⟨rfl, hb⟩
 clear x0 x1 x2 x3 x4 x5 x6 x7
 have P_x := Hd (P_x.out.below hb)
 have HB := Hd (Zb HB.out hb)
 clear hb
 obtain ⟨-, x0, x1, x2, x3, x4, x5, x6, x7⟩ := P_x.out.facts
 go_wp2_with fail
 refine (H5.out wx5 _ (HT.out.below2 HB.out) (G_x.out.below HB.out).im).mono ?_
 rintro e wx6 ⟨rfl, hb⟩
 clear x0 x1 x2 x3 x4 x5 x6 x7
 have P_x := Hd (P_x.out.below hb)
 have HB := Hd (Zb HB.out hb)
 clear hb
 go_wp2_with fail
 go_ret2
 exact ⟨rfl, HB.out⟩

theorem dig_r {n d : Int} (hn : Fit n) (hd : Fit d) : X1 22 n d ⟨(Zm n d).toArray⟩ := by
 intro V v ht g
 obtain ⟨A, c, B, e0, rfl, h1, h2⟩ := g.form
 exact ratio_Digits n d A B c e0 V h1 h2 ht hn hd

theorem alive_walk {a1 a2 b1 b2 c1 c2 z0 k0 o : Int} (C1 : ∀ V : World, Calls Tryz.prog 87 #[.int .i64 3, .int .i64 (-4)] V (Zo V.heap.size V a1 o a2 o)) (C2 : ∀ V : World, Calls Tryz.prog 87 #[.int .i64 1, .int .i64 2] V (Zo V.heap.size V b1 o b2 o))
   (C3 : OpG2 86 a1 o a2 o b1 o b2 o c1 o c2 o 0) (C4 : ∀ (V : World) (v : Value), ZB V -> Zi V v c1 o c2 o -> Calls Tryz.prog 8 #[v] V fun e w' => e = .returned (.tuple #[.string ⟨#[49, 49, 43, 50, 105]⟩, .int .i64 0]) /\ Below V.heap.size V w')
   (C5 : ∀ V : World, Calls Tryz.prog 87 #[.int .i64 0, .int .i64 0] V (Zo V.heap.size V z0 o z0 o)) (C6 : OpG2 88 c1 o c2 o z0 o z0 o k0 k0 k0 k0 3) (w : World)  (htab : ZB w) :
   Calls Tryz.prog 16 #[] w fun e w' => e = .returned (.bool true) /\ Below w.heap.size w w' := by
 have HT := Hd htab
 clear htab
 have H1 := Hd C1
 have H2 := Hd C2
 have H3 := Hd C3
 have H4 := Hd C4
 have H5 := Hd C5
 have H6 := Hd C6
 clear C1 C2 C3 C4 C5 C6
 go_enter Tryz.func16, Tryz.ntmps16
 have HB := Hd (Below.refl w.heap.size w)
 go_wp2_with fail
 refine (H1.out w).mono ?_
 rintro e wx1 ⟨v1, rfl, hI, hb⟩
 have G1 := Hd hI.in_.at_
 clear hI
 have HB := Hd (Zb HB.out hb)
 clear hb
 go_wp2_with fail
 refine (H2.out wx1).mono ?_
 rintro e wx2 ⟨v2, rfl, hI, hb⟩
 have G2 := Hd hI.in_.at_
 clear hI
 have G1 := Hd (G1.out.below hb)
 have HB := Hd (Zb HB.out hb)
 clear hb
 go_wp2_with fail
 refine (H3.out wx2 _ _ G1.out G2.out).mono ?_
 rintro e wx3 ⟨v, rfl, hI, hb⟩
 have hi := hI.in_
 obtain ⟨Azz1, czz1, Azz2, czz2, Azz3, czz3, Azz4, czz4, rfl, -⟩ := hI.form
 have ha := (Below.refl wx3.heap.size wx3).alloc (Nat.le_refl _) (.cells #[.bool (decide (c1 < 0)), .slice Azz1 (Za c1.natAbs).length czz1, .bool (decide (o < 0)), .slice Azz2 (Za o.natAbs).length czz2, .bool (decide (c2 < 0)), .slice Azz3 (Za c2.natAbs).length czz3, .bool (decide (o < 0)), .slice Azz4 (Za o.natAbs).length czz4] 28)
 have hq := ZX.new wx3 28 (.bool (decide (c1 < 0))) (.slice Azz1 (Za c1.natAbs).length czz1) (.bool (decide (o < 0))) (.slice Azz2 (Za o.natAbs).length czz2) (.bool (decide (c2 < 0))) (.slice Azz3 (Za c2.natAbs).length czz3) (.bool (decide (o < 0))) (.slice Azz4 (Za o.natAbs).length czz4)
 have hi := hi.below ha
 have HB := Hd (Zb HB.out hb)
 have HB := Hd (Zb HB.out ha)
 go_upto_region 2 with fail
 obtain ⟨wy3, E⟩ : ∃ W, W = wx3.alloc (.cells #[.bool (decide (c1 < 0)), .slice Azz1 (Za c1.natAbs).length czz1, .bool (decide (o < 0)), .slice Azz2 (Za o.natAbs).length czz2, .bool (decide (c2 < 0)), .slice Azz3 (Za c2.natAbs).length czz3, .bool (decide (o < 0)), .slice Azz4 (Za o.natAbs).length czz4] 28) := ⟨_, rfl⟩
 obtain ⟨b_zz, hbq⟩ : ∃ q, q = wx3.heap.size := ⟨_, rfl⟩
 rw [<- E] at hi HB
 rw [<- E, <- hbq] at hq ⊢
 have P_zz := Hd hq
 have O_zz := Hd hi
 clear hI hi hb ha hq hbq E
 clear G1 G2 H1 H2 H3
 obtain ⟨-, a_zz0, a_zz1, a_zz2, a_zz3, a_zz4, a_zz5, a_zz6, a_zz7⟩ := P_zz.out.facts
 go_wp2_with fail
 refine (H4.out wy3 _ (HT.out.below2 HB.out) O_zz.out.at_).mono ?_
 rintro e wx4 ⟨rfl, hb⟩
 clear a_zz0 a_zz1 a_zz2 a_zz3 a_zz4 a_zz5 a_zz6 a_zz7
 have P_zz := Hd (P_zz.out.below hb)
 have O_zz := Hd (O_zz.out.below hb)
 have HB := Hd (Zb HB.out hb)
 clear hb
 go_wp2_with fail
 refine Zf [.val (.agg #[.bool (decide (c1 < 0)), .slice Azz1 (Za c1.natAbs).length czz1, .bool (decide (o < 0)), .slice Azz2 (Za o.natAbs).length czz2, .bool (decide (c2 < 0)), .slice Azz3 (Za c2.natAbs).length czz3, .bool (decide (o < 0)), .slice Azz4 (Za o.natAbs).length czz4]) [], .any false (fun u V => Zk V w.heap.size u z0 o z0 o) [], .any false (fun u V => TupG V w.heap.size u k0 k0 k0 k0 3) [1], .any false (fun u V => TupG V w.heap.size u k0 k0 k0 k0 3) [2], .any false (fun u V => Zk V w.heap.size u k0 k0 k0 k0) [3], .val (.int .i64 3) [3], .new 28 8, .put 28 8 6 4 [], .val (.int .i64 3) []] wx4.heap.size wx4 [28] Yp _ Zg (Nat.le_refl _) (Below.refl _ _) (Zq.refl _ _ _) rfl ?_ ?_ ?_ ?_ ?_ ?_ ?_ ?_ rfl (by simp [ZH]) ?_ ?_ ?_ ?_
 iterate 8 kernel_rfl
 . simp only [Zu, and_true]
   exact ⟨fun u V V' h k => h.kept k (by decide), fun u V V' h k => h.kept k (by decide), fun u V V' h k => h.kept k (by decide), fun u V V' h k => h.kept k (by decide)⟩
 . simp only [ZR]
 . simp (maxSteps := 4000000) [Zz, Yj, Zh, ZA, Zl]
   repeat' (first | apply And.intro | (intro (u : Value)) | (intro (u : Nat)))
   all_goals try exact ⟨_, _, _, rfl, rfl, rfl, rfl, gaussInfo⟩
   all_goals try exact allocGauss rfl
   all_goals first
   | (intro V hV hK
      have hs_0 := HB.out.size
      have qzz := P_zz.out.below hV
      obtain ⟨-, a_zz0, a_zz1, a_zz2, a_zz3, a_zz4, a_zz5, a_zz6, a_zz7⟩ := qzz.facts
      have o_zz := Hd (O_zz.out.below hV)
      have hvb := HB.out.trans (hV.mono (by omega))
      have hvs := hvb.size
      clear hV hK qzz
      go_simp
      first
      | exact Below.refl _ _
      | ((with_reducible refine (H5.out V).mono ?_); rintro _ _ ⟨_, rfl, x, y⟩; exact ⟨x.base hvs, y⟩))
   | (intro V hV hK h1
      have hs_0 := HB.out.size
      have qzz := P_zz.out.below hV
      obtain ⟨-, a_zz0, a_zz1, a_zz2, a_zz3, a_zz4, a_zz5, a_zz6, a_zz7⟩ := qzz.facts
      have o_zz := Hd (O_zz.out.below hV)
      have hvb := HB.out.trans (hV.mono (by omega))
      have hvs := hvb.size
      clear hV hK qzz
      go_simp
      ((with_reducible refine (H6.out V _ _ o_zz.out.at_ h1.in_.at_).mono ?_); rintro e w' ⟨v, rfl, hv, hb⟩; exact ⟨⟨v, rfl, hv.base hvs⟩, hb⟩))
   | (intro V hV hK h1
      obtain ⟨v, rfl, hv⟩ := h1.form
      clear hV hK
      go_simp
      first
      | exact ⟨hv, Below.refl _ _⟩
      | exact ⟨⟨_, rfl, hv⟩, Below.refl _ _⟩
      | exact Below.refl _ _)
   | exact fun _ _ _ (h : Zk _ _ _ _ _ _ _) => h.cells
   | exact fun _ _ _ (h : Zk _ _ _ _ _ _ _) _ => h.cells
 . simp [Yn, ZD, Zh, ZA, Zl]
   intro u1 u2 u3 u4 b_qq hb_qq V5 hV hK h1 h2 h3 h4 p_qq _ _ _
   have O_qq := Hd h4.in_
   obtain ⟨Aqq1, cqq1, Aqq2, cqq2, Aqq3, cqq3, Aqq4, cqq4, rfl, -⟩ := h4.form
   have P_qq := Hd (show ZX V5 b_qq 28 _ _ _ _ _ _ _ _ from ⟨p_qq⟩)
   have P_zz := Hd (P_zz.out.below hV)
   have O_zz := Hd (O_zz.out.below hV)
   have HB := Hd (Zb HB.out hV)
   clear hV hK h1 h2 h3 h4 p_qq hb_qq
   go_wp2_with fail
   go_ret
   exact ⟨rfl, HB.out⟩

theorem GIs.re_same {a b a' b' : Rat} {n d m f : Int} (x : GIs a b n d m f) (h1 : a' = a) (h2 : b' = b) : GIs a' b' n d m f := by rw [h1, h2]; exact x
theorem itoa_eleven : Lib.itoa 11 = [49, 49] := by
 rw [show (11 : Int) = ((11 : Nat) : Int) from rfl, Lib.itoa_nonneg, Lib.decDigits_two (by omega) (by omega)]; rfl
theorem itoa_two : Lib.itoa 2 = [50] := by
 rw [show (2 : Int) = ((2 : Nat) : Int) from rfl, Lib.itoa_nonneg, Lib.decDigits_one (by omega)]; rfl
theorem alive_true (w : World) (htab : ZB w) : Calls Tryz.prog 16 #[] w fun e w' => e = .returned (.bool true) /\ Below w.heap.size w w' := by
 have x1 := gis_int 3 (-4) (by decide) (by decide) (by decide) (by decide)
 have x2 := gis_int 1 2 (by decide) (by decide) (by decide) (by decide)
 have x3 := gis_int 11 2 (by decide) (by decide) (by decide) (by decide)
 have x0 := gis_int 0 0 (by decide) (by decide) (by decide) (by decide)
 have x3' : GIs (((3 : Int) : Rat) * ((1 : Int) : Rat) - ((-4 : Int) : Rat) * ((2 : Int) : Rat)) (((3 : Int) : Rat) * ((2 : Int) : Rat) + ((-4 : Int) : Rat) * ((1 : Int) : Rat)) 11 1 2 1 := x3.re_same (by grind) (by grind)
 refine alive_walk (a1 := 3) (a2 := -4) (b1 := 1) (b2 := 2) (c1 := 11) (c2 := 2) (z0 := 0) (k0 := 0) (o := 1) (of_g 1 rfl (by decide) (by decide) (by decide) (by decide)) (of_g 1 rfl (by decide) (by decide) (by decide) (by decide)) (gmul_c x1 x2 x3') ?_ (of_g 1 rfl (by decide) (by decide) (by decide) (by decide)) (gquo_zero x3 x0 ⟨rfl, rfl⟩) w htab
 intro V v ht g
 have e1 : Zm 11 1 = [49, 49] := by unfold Zm; rw [if_pos rfl, itoa_eleven]
 have e2 : Zm 2 1 = [50] := by unfold Zm; rw [if_pos rfl, itoa_two]
 have d1 := dig_r (n := 11) (d := 1) (by decide +kernel) (by decide +kernel)
 have d2 := dig_r (n := 2) (d := 1) (by decide +kernel) (by decide +kernel)
 rw [e1] at d1
 rw [e2] at d2
 have d3 : X1 23 2 1 ⟨#[50, 105]⟩ := fun V v ht g => X6 (t := ⟨#[50]⟩) (u := ⟨#[50, 105]⟩) d2 (by decide) (by decide) (by decide) rfl V v g ht
 exact gauss_Text_Bp (t1 := ⟨#[49, 49]⟩) (t2 := ⟨#[50, 105]⟩) (s0 := 1) (s1 := 1) x3.may (sgn_r x3.re) (sgn_r x3.im) (by decide) (by decide) (by decide) d1 d3 rfl (by decide) (by decide) (by decide) (by decide) V v g ht

theorem gauss_cost {n1 n2 n3 n4 : Bool} {xs ys us vs : List Nat} (hl1 : xs.length <= 1152921504606846975) (hl2 : ys.length <= 1152921504606846975) (hl3 : us.length <= 1152921504606846975) (hl4 : vs.length <= 1152921504606846975) (w : World) (v_x : Value) (g_x : ZC w v_x n1 n2 n3 n4 xs ys us vs)  :
   Calls Tryz.prog 6 #[v_x] w fun e w' => e = .returned (.int .i64 (fcost xs.length ys.length + fcost us.length vs.length : Nat)) /\ Below w.heap.size w w' := by
 obtain ⟨Ax1, cx1, Ax2, cx2, Ax3, cx3, Ax4, cx4, rfl, -⟩ := g_x.form
 have D1 := fun (V : World) (h : Zr V Ax1 cx1 xs) (g : Zr V Ax2 cx2 ys) => frac_cost n1 n2 Ax1 Ax2 cx1 cx2 xs ys hl1 hl2 V h g
 have D2 := fun (V : World) (h : Zr V Ax3 cx3 us) (g : Zr V Ax4 cx4 vs) => frac_cost n3 n4 Ax3 Ax4 cx3 cx4 us vs hl3 hl4 V h g
 have b1 := fcost_le hl1 hl2
 have b2 := fcost_le hl3 hl4
 obtain ⟨s1, e1⟩ : ∃ k : Nat, k = fcost xs.length ys.length := ⟨_, rfl⟩
 obtain ⟨s2, e2⟩ : ∃ k : Nat, k = fcost us.length vs.length := ⟨_, rfl⟩
 rw [<- e1] at D1 b1 ⊢
 rw [<- e2] at D2 b2 ⊢
 obtain ⟨s3, e3⟩ : ∃ k : Nat, k = s1 + s2 := ⟨_, rfl⟩
 rw [<- e3]
 have HW := Hd (show IntKind.i64.wrap ((s1 : Int) + (s2 : Int)) = (s3 : Int) from by rw [IntKind.wrap_i64]; omega)
 have H1 := Hd D1
 have H2 := Hd D2
 clear D1 D2 b1 b2 e1 e2 e3 hl1 hl2 hl3 hl4
 have G_x := Hd g_x
 clear g_x
 go_enter Tryz.func6, Tryz.ntmps6
 go_upto_region 1 with fail
 refine Zy (P := fun W => Code.wp _ _ _ _ W) fun W p0 b0 => ?_
 have P_x := Hd (ZX.mk p0)
 have HB := Hd b0
 clear b0 p0
 go_wp2_with fail
 refine Zf [.val (.pointer (some ⟨w.heap.size, 0, none⟩)) [], .val (.agg #[.bool n1, .slice Ax1 xs.length cx1, .bool n2, .slice Ax2 ys.length cx2]) [], .val (.int .i64 s1) [], .val (.pointer (some ⟨w.heap.size, 4, none⟩)) [], .val (.agg #[.bool n3, .slice Ax3 us.length cx3, .bool n4, .slice Ax4 vs.length cx4]) [], .val (.int .i64 s2) [], .val (.int .i64 s3) [], .val (.int .i64 s3) []] W.heap.size W [] Yp _ Zg (Nat.le_refl _) (Below.refl _ _) (Zq.refl _ _ _) rfl ?_ ?_ ?_ ?_ ?_ ?_ ?_ ?_ rfl (by simp [ZH]) ?_ ?_ ?_ ?_
 iterate 8 kernel_rfl
 . simp only [Zu]
 . simp only [ZR]
 . simp (maxSteps := 4000000) [Zz, Yj, Zh, ZA, Zl]
   repeat' (first | apply And.intro | (intro (u : Value)) | (intro (u : Nat)))
   all_goals first
   | (intro V hV hK
      have hs_x := P_x.out.blk.lt
      have qx : ZX V (w.heap.size) _ _ _ _ _ _ _ _ _ := ⟨P_x.out.blk.below hV (by omega)⟩
      obtain ⟨-, x0, x1, x2, x3, x4, x5, x6, x7⟩ := qx.facts
      have hvb := HB.out.trans (hV.mono (by omega))
      have hvs := hvb.size
      have g_x := Hd (G_x.out.below hvb)
      clear hV hK qx
      go_simp
      first
      | exact Below.refl _ _
      | exact ⟨HW.out, Below.refl _ _⟩
      | ((with_reducible refine (H1.out V g_x.out.raws.1 g_x.out.raws.2.1).mono ?_); rintro e w' ⟨rfl, hb⟩; exact ⟨rfl, hb⟩)
      | ((with_reducible refine (H2.out V g_x.out.raws.2.2.1 g_x.out.raws.2.2.2).mono ?_); rintro e w' ⟨rfl, hb⟩; exact ⟨rfl, hb⟩))
 . simp [Yn, ZD, Zh, ZA, Zl]
   intro V1 hV hK  _ _ _
   have P_x := Hd (P_x.out.below hV)
   have HB := Hd (Zb HB.out hV)
   clear hV hK 
   go_wp2_with fail
   go_ret
   exact ⟨rfl, HB.out⟩

theorem sameGauss_true {n d m f : Int}  (w : World) (v_x v_y : Value) (g_x : Zi w v_x n d m f) (g_y : Zi w v_y n d m f)  :
  Calls Tryz.prog 12 #[v_x, v_y] w fun e w' => e = .returned (.bool true) /\ Below w.heap.size w w' := by
 obtain ⟨Ax1, cx1, Ax2, cx2, Ax3, cx3, Ax4, cx4, rfl, -⟩ := g_x.form
 obtain ⟨Ay1, cy1, Ay2, cy2, Ay3, cy3, Ay4, cy4, rfl, -⟩ := g_y.form
 have G_x := Hd g_x
 have G_y := Hd g_y
 clear g_x g_y
 go_enter Tryz.func12, Tryz.ntmps12
 go_upto_region 1 with fail
 refine boxes2 (P := fun W => Code.wp _ _ _ _ W) fun W p0 p1 b0 => ?_
 have P_x := Hd (ZX.mk p0)
 have P_y := Hd (ZX.mk p1)
 have HB := Hd b0
 clear b0 p0 p1
 obtain ⟨-, x0, x1, x2, x3, x4, x5, x6, x7⟩ := P_x.out.facts
 obtain ⟨-, y0, y1, y2, y3, y4, y5, y6, y7⟩ := P_y.out.facts
 go_wp2_with fail
 refine (sameFrac_true _ _ n d W (G_x.out.below HB.out).re (G_y.out.below HB.out).re).mono ?_
 rintro e wx1 ⟨rfl, hb⟩
 clear x0 x1 x2 x3 x4 x5 x6 x7 y0 y1 y2 y3 y4 y5 y6 y7
 have P_x := Hd (P_x.out.below hb)
 have P_y := Hd (P_y.out.below hb)
 have HB := Hd (Zb HB.out hb)
 clear hb
 obtain ⟨-, x0, x1, x2, x3, x4, x5, x6, x7⟩ := P_x.out.facts
 obtain ⟨-, y0, y1, y2, y3, y4, y5, y6, y7⟩ := P_y.out.facts
 go_wp2_with fail
 refine (sameFrac_true _ _ m f wx1 (G_x.out.below HB.out).im (G_y.out.below HB.out).im).mono ?_
 rintro e wx2 ⟨rfl, hb⟩
 clear x0 x1 x2 x3 x4 x5 x6 x7 y0 y1 y2 y3 y4 y5 y6 y7
 have P_x := Hd (P_x.out.below hb)
 have P_y := Hd (P_y.out.below hb)
 have HB := Hd (Zb HB.out hb)
 clear hb
 go_wp2_with fail
 go_ret
 exact ⟨rfl, HB.out⟩

structure GLoc where
 re : X0
 im : X0
def GLoc.cells (q : GLoc) : List Value := q.re.cells ++ q.im.cells
def GLoc.size (q : GLoc) : Nat := 1 + q.re.n + (1 + q.re.m) + (1 + q.im.n + (1 + q.im.m))
def cellsGL (l : List GLoc) : List Value := l.flatMap GLoc.cells
def lens4 (xs ys us vs : List Nat) : Prop := (xs.length <= 1152921504606846975 /\ ys.length <= 1152921504606846975) /\ us.length <= 1152921504606846975 /\ vs.length <= 1152921504606846975

theorem gauss_Check_true {n1 n2 n3 n4 : Bool} {xs ys us vs : List Nat} (C1 : Jt 20 n1 n2 n3 n4 xs ys us vs true) (w : World) (v_x : Value) (g_x : ZC w v_x n1 n2 n3 n4 xs ys us vs)  :
  Calls Tryz.prog 17 #[v_x] w fun e w' => e = .returned (.int .i64 0) /\ Below w.heap.size w w' := by
 obtain ⟨Ax1, cx1, Ax2, cx2, Ax3, cx3, Ax4, cx4, rfl, -⟩ := g_x.form
 have H1 := Hd C1
 clear C1
 have G_x := Hd g_x
 clear g_x
 go_enter Tryz.func17, Tryz.ntmps17
 go_upto_region 1 with fail
 refine Zy (P := fun W => Code.wp _ _ _ _ W) fun W p0 b0 => ?_
 have P_x := Hd (ZX.mk p0)
 have HB := Hd b0
 clear b0 p0
 obtain ⟨-, x0, x1, x2, x3, x4, x5, x6, x7⟩ := P_x.out.facts
 go_wp2_with fail
 refine (H1.out W _ (G_x.out.below HB.out)).mono ?_
 rintro e wx1 ⟨rfl, hb⟩
 clear x0 x1 x2 x3 x4 x5 x6 x7
 have P_x := Hd (P_x.out.below hb)
 have HB := Hd (Zb HB.out hb)
 clear hb
 go_wp2_with fail
 go_ret
 exact ⟨rfl, HB.out⟩


structure TwinJ (b : Nat) (neg : Bool) (xs : List Nat) (v : Value) (V : World) : Prop where
 form : ∃ g, v = .agg #[.bool neg, .slice (some ⟨g, 0, none⟩) xs.length (xs.length + 1)] /\ Jg V g xs /\ b <= g
structure TwinG (b : Nat) (n1 n2 : Bool) (xs ys : List Nat) (v : Value) (V : World) : Prop where
 form : ∃ g1 g2, v = .agg #[.bool n1, .slice (some ⟨g1, 0, none⟩) xs.length (xs.length + 1), .bool n2, .slice (some ⟨g2, 0, none⟩) ys.length (ys.length + 1)] /\ Jg V g1 xs /\ Jg V g2 ys /\ b <= g1 /\ b <= g2 /\ g1 ≠ g2
structure TwinGG (b : Nat) (n1 n2 n3 n4 : Bool) (xs ys us vs : List Nat) (v : Value) (V : World) : Prop where
 form : ∃ g1 g2 g3 g4, v = .agg #[.bool n1, .slice (some ⟨g1, 0, none⟩) xs.length (xs.length + 1), .bool n2, .slice (some ⟨g2, 0, none⟩) ys.length (ys.length + 1), .bool n3, .slice (some ⟨g3, 0, none⟩) us.length (us.length + 1), .bool n4, .slice (some ⟨g4, 0, none⟩) vs.length (vs.length + 1)] /\
  Jg V g1 xs /\ Jg V g2 ys /\ Jg V g3 us /\ Jg V g4 vs /\ (b <= g1 /\ b <= g2 /\ b <= g3 /\ b <= g4) /\ g1 ≠ g2 /\ g3 ≠ g4 /\ g1 ≠ g3 /\ g1 ≠ g4 /\ g2 ≠ g3 /\ g2 ≠ g4
end Go.Proofs.YtdonecnhdkjniaaGreatDoor
