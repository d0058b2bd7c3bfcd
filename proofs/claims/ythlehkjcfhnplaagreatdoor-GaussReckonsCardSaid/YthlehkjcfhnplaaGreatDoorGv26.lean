/- Several texts in one: Gauss, Ref03, Ref03Law, ArgandAns, Ref03b. -/
import Derived.Test.YthlehkjcfhnplaaGreatDoorGv25
set_option maxRecDepth 100000
set_option maxHeartbeats 8000000
namespace Go.Proofs.YthlehkjcfhnplaaGreatDoor
open Go.RowKit

def zeroG : Value := .agg #[.bool false, .slice none 0 0, .bool false, .slice none 0 0, .bool false, .slice none 0 0, .bool false, .slice none 0 0]
abbrev Xa (F : FuncId) (n1 n2 n3 n4 : Bool) (xs ys us vs : List Nat) (b : Bool) : Prop := ∀ (V : World) (v : Value), Zn V v n1 n2 n3 n4 xs ys us vs -> Calls Tryz.prog F #[v] V fun e w' => e = .returned (.bool b) /\ Below V.heap.size V w'
abbrev AnsG (F : FuncId) (n d m f k : Int) : Prop := ∀ (V : World) (g : Nat) (v : Value) (A1 A2 A3 A4 : Option Addr) (c1 c2 c3 c4 : Nat), V.heap.size = g -> v = .agg #[.bool (decide (n < 0)), .slice A1 (Za n.natAbs).length c1, .bool (decide (d < 0)), .slice A2 (Za d.natAbs).length c2, .bool (decide (m < 0)), .slice A3 (Za m.natAbs).length c3, .bool (decide (f < 0)), .slice A4 (Za f.natAbs).length c4] ->
 (Za n.natAbs).length <= 9223372036854775807 -> (Za d.natAbs).length <= 9223372036854775807 -> (Za m.natAbs).length <= 9223372036854775807 -> (Za f.natAbs).length <= 9223372036854775807 ->
 Calls Tryz.prog F #[.slice (some ⟨g, 0, none⟩) 1 1] (V.alloc (.cells #[.bool (decide (n < 0)), .slice A1 (Za n.natAbs).length c1, .bool (decide (d < 0)), .slice A2 (Za d.natAbs).length c2, .bool (decide (m < 0)), .slice A3 (Za m.natAbs).length c3, .bool (decide (f < 0)), .slice A4 (Za f.natAbs).length c4] 28)) fun e w' => e = .returned (.int .i64 k) /\ Below (V.heap.size + 1) (V.alloc (.cells #[.bool (decide (n < 0)), .slice A1 (Za n.natAbs).length c1, .bool (decide (d < 0)), .slice A2 (Za d.natAbs).length c2, .bool (decide (m < 0)), .slice A3 (Za m.natAbs).length c3, .bool (decide (f < 0)), .slice A4 (Za f.natAbs).length c4] 28)) w'
abbrev Jf (n d m f N D M E k : Int) : Prop := ∀ (V : World) (base : Nat) (v : Value), base <= V.heap.size -> Zt V base v n d m f -> Calls Tryz.prog 125 #[v] V (ZC base V N D M E k)
abbrev NoughtG (F : FuncId) (n d m f : Int) (b : Bool) : Prop := ∀ (V : World) (v : Value), Zh V v n d m f -> Calls Tryz.prog F #[v] V fun e w' => e = .returned (.bool b) /\ Below V.heap.size V w'
abbrev OpGR2 (F : FuncId) (n1 n2 n3 n4 : Bool) (xs ys us vs : List Nat) (m1 m2 m3 m4 : Bool) (ps qs rs ts : List Nat) (N D M E k : Int) : Prop := ∀ (V : World) (v1 v2 : Value), Zn V v1 n1 n2 n3 n4 xs ys us vs -> Zn V v2 m1 m2 m3 m4 ps qs rs ts -> Calls Tryz.prog F #[v1, v2] V (ZC V.heap.size V N D M E k)
abbrev OpG2 (F : FuncId) (n d m f p q r s N D M E k : Int) : Prop := ∀ (V : World) (v1 v2 : Value), Zh V v1 n d m f -> Zh V v2 p q r s -> Calls Tryz.prog F #[v1, v2] V (ZC V.heap.size V N D M E k)

theorem may_g {n1 n2 n3 n4 : Bool} {xs ys us vs : List Nat} {b : Bool} (hc : (YV n1 n2 xs ys == 0 && YV n3 n4 us vs == 0) = b) (w : World) (v_x : Value) (g_x : Zn w v_x n1 n2 n3 n4 xs ys us vs)  :
  Calls Tryz.prog 55 #[v_x] w fun e w' => e = .returned (.bool b) /\ Below w.heap.size w w' := by
 obtain ⟨Ax1, cx1, Ax2, cx2, Ax3, cx3, Ax4, cx4, rfl, -⟩ := g_x.form
 have D1 := fun (V : World) (g' : Nat) (a1 : Zj V Ax1 cx1 xs) (a2 : Zj V Ax2 cx2 ys) (a3 : Zj V Ax3 cx3 us) (a4 : Zj V Ax4 cx4 vs) (hg : V.heap.size = g') => checks_two n1 n2 n3 n4 Ax1 Ax2 Ax3 Ax4 cx1 cx2 cx3 cx4 xs ys us vs V g' a1 a2 a3 a4 hg
 rw [hc] at D1
 have H1 := Hd D1
 clear D1 hc
 have G_x := Hd g_x
 clear g_x
 go_enter Tryz.func55, Tryz.ntmps55
 go_upto_region 1 with fail
 refine Y7 (P := fun W => Code.wp _ _ _ _ W) fun W p0 b0 => ?_
 have P_x := Hd (ZF.mk p0)
 have HB := Hd b0
 clear b0 p0
 obtain ⟨-, x0, x1, x2, x3, x4, x5, x6, x7⟩ := P_x.out.facts
 go_wp2_with fail
 obtain ⟨s1, s2, s3, s4⟩ := (G_x.out.below HB.out).raws
 refine (H1.out W _ s1 s2 s3 s4 rfl).mono ?_
 rintro e w9 ⟨rfl, hb⟩
 have HB9 := Hd (Zb (HB.out.alloc HB.out.size (.cells #[.bool n1, .slice Ax1 xs.length cx1, .bool n2, .slice Ax2 ys.length cx2, .bool n3, .slice Ax3 us.length cx3, .bool n4, .slice Ax4 vs.length cx4] 26)) hb)
 clear x0 x1 x2 x3 x4 x5 x6 x7
 clear hb s1 s2 s3 s4
 go_wp2_with fail
 go_ret
 exact ⟨rfl, HB9.out⟩

theorem Xx (n1 n2 n3 n4 : Bool) (xs ys us vs : List Nat) : Xa 55 n1 n2 n3 n4 xs ys us vs (YV n1 n2 xs ys == 0 && YV n3 n4 us vs == 0) := by
 intro V v g1
 exact may_g rfl V v g1

theorem both_bad_x {fv : Value} {n1 n2 n3 n4 : Bool} {xs ys us vs : List Nat} {m1 m2 m3 m4 : Bool} {ps qs rs ts : List Nat} (C1 : Xa 55 n1 n2 n3 n4 xs ys us vs false) (w : World) (v_x v_y : Value) (g_x : Zn w v_x n1 n2 n3 n4 xs ys us vs) (g_y : Zn w v_y m1 m2 m3 m4 ps qs rs ts)  :
  Calls Tryz.prog 114 #[v_x, v_y, fv] w (ZC w.heap.size w 0 0 0 0 1) := by
 obtain ⟨Ax1, cx1, Ax2, cx2, Ax3, cx3, Ax4, cx4, rfl, -⟩ := g_x.form
 obtain ⟨Ay1, cy1, Ay2, cy2, Ay3, cy3, Ay4, cy4, rfl, -⟩ := g_y.form
 have H1 := Hd C1
 clear C1
 have G_x := Hd g_x
 have G_y := Hd g_y
 clear g_x g_y
 go_enter Tryz.func114, Tryz.ntmps114
 go_upto_region 1 with fail
 refine Z0 (P := fun W => Code.wp _ _ _ _ W) fun W p0 p1 p2 b0 => ?_
 have P_x := Hd (ZF.mk p0)
 have P_y := Hd (ZF.mk p1)
 have PR := Hd (ZF.mk p2)
 have HB := Hd b0
 clear b0 p0 p1 p2
 obtain ⟨-, x0, x1, x2, x3, x4, x5, x6, x7⟩ := P_x.out.facts
 go_wp2_with fail
 refine (H1.out W _ (G_x.out.below HB.out)).mono ?_
 rintro e wx1 ⟨rfl, hb⟩
 clear x0 x1 x2 x3 x4 x5 x6 x7
 have P_x := Hd (P_x.out.below hb)
 have P_y := Hd (P_y.out.below hb)
 have PR := Hd (PR.out.below hb)
 have HB := Hd (Zb HB.out hb)
 clear hb
 obtain ⟨l_r, r0, r1, r2, r3, r4, r5, r6, r7⟩ := PR.out.facts
 obtain ⟨f0, f1, f2, f3, f4, f5, f6, f7⟩ := PR.out.free
 have HQ := Hd (gzero PR.out HB.out (show w.heap.size <= w.heap.size + 1 + 1 by omega))
 go_wp2_with fail
 obtain ⟨_, k0, k1, k2, k3, k4, k5, k6, k7⟩ := HQ.out.1.facts
 exact bodyPost_ret (by simp [results, Tryz.results114, go_sem, k0, k1, k2, k3, k4, k5, k6, k7]) rfl ⟨_, rfl, Zt.nought _ _, HQ.out.2⟩

theorem both_bad_y {fv : Value} {n1 n2 n3 n4 : Bool} {xs ys us vs : List Nat} {m1 m2 m3 m4 : Bool} {ps qs rs ts : List Nat} (C1 : Xa 55 n1 n2 n3 n4 xs ys us vs true) (C2 : Xa 55 m1 m2 m3 m4 ps qs rs ts false) (w : World) (v_x v_y : Value) (g_x : Zn w v_x n1 n2 n3 n4 xs ys us vs) (g_y : Zn w v_y m1 m2 m3 m4 ps qs rs ts)  :
  Calls Tryz.prog 114 #[v_x, v_y, fv] w (ZC w.heap.size w 0 0 0 0 1) := by
 obtain ⟨Ax1, cx1, Ax2, cx2, Ax3, cx3, Ax4, cx4, rfl, -⟩ := g_x.form
 obtain ⟨Ay1, cy1, Ay2, cy2, Ay3, cy3, Ay4, cy4, rfl, -⟩ := g_y.form
 have H1 := Hd C1
 have H2 := Hd C2
 clear C1 C2
 have G_x := Hd g_x
 have G_y := Hd g_y
 clear g_x g_y
 go_enter Tryz.func114, Tryz.ntmps114
 go_upto_region 1 with fail
 refine Z0 (P := fun W => Code.wp _ _ _ _ W) fun W p0 p1 p2 b0 => ?_
 have P_x := Hd (ZF.mk p0)
 have P_y := Hd (ZF.mk p1)
 have PR := Hd (ZF.mk p2)
 have HB := Hd b0
 clear b0 p0 p1 p2
 obtain ⟨-, x0, x1, x2, x3, x4, x5, x6, x7⟩ := P_x.out.facts
 go_wp2_with fail
 refine (H1.out W _ (G_x.out.below HB.out)).mono ?_
 rintro e wx1 ⟨rfl, hb⟩
 clear x0 x1 x2 x3 x4 x5 x6 x7
 have P_x := Hd (P_x.out.below hb)
 have P_y := Hd (P_y.out.below hb)
 have PR := Hd (PR.out.below hb)
 have HB := Hd (Zb HB.out hb)
 clear hb
 obtain ⟨-, y0, y1, y2, y3, y4, y5, y6, y7⟩ := P_y.out.facts
 go_wp2_with fail
 refine (H2.out wx1 _ (G_y.out.below HB.out)).mono ?_
 rintro e wx2 ⟨rfl, hb⟩
 clear y0 y1 y2 y3 y4 y5 y6 y7
 have P_x := Hd (P_x.out.below hb)
 have P_y := Hd (P_y.out.below hb)
 have PR := Hd (PR.out.below hb)
 have HB := Hd (Zb HB.out hb)
 clear hb
 obtain ⟨l_r, r0, r1, r2, r3, r4, r5, r6, r7⟩ := PR.out.facts
 obtain ⟨f0, f1, f2, f3, f4, f5, f6, f7⟩ := PR.out.free
 have HQ := Hd (gzero PR.out HB.out (show w.heap.size <= w.heap.size + 1 + 1 by omega))
 go_wp2_with fail
 obtain ⟨_, k0, k1, k2, k3, k4, k5, k6, k7⟩ := HQ.out.1.facts
 exact bodyPost_ret (by simp [results, Tryz.results114, go_sem, k0, k1, k2, k3, k4, k5, k6, k7]) rfl ⟨_, rfl, Zt.nought _ _, HQ.out.2⟩

theorem both_Plus {n d m f p q r s T1 T2 T3 T4 N D M E k : Int} (C1 : Xa 55 (decide (n < 0)) (decide (d < 0)) (decide (m < 0)) (decide (f < 0)) (Za n.natAbs) (Za d.natAbs) (Za m.natAbs) (Za f.natAbs) true) (C2 : Xa 55 (decide (p < 0)) (decide (q < 0)) (decide (r < 0)) (decide (s < 0)) (Za p.natAbs) (Za q.natAbs) (Za r.natAbs) (Za s.natAbs) true) (C3 : OpG 192 n d m f p q r s T1 T2 T3 T4) (C4 : Jf T1 T2 T3 T4 N D M E k) (w : World) (v_x v_y : Value) (g_x : Zh w v_x n d m f) (g_y : Zh w v_y p q r s)  :
  Calls Tryz.prog 114 #[v_x, v_y, .func (.func 192) #[] #[]] w (ZC w.heap.size w N D M E k) := by
 obtain ⟨Ax1, cx1, Ax2, cx2, Ax3, cx3, Ax4, cx4, rfl, -⟩ := g_x.form
 obtain ⟨Ay1, cy1, Ay2, cy2, Ay3, cy3, Ay4, cy4, rfl, -⟩ := g_y.form
 have H1 := Hd C1
 have H2 := Hd C2
 have H3 := Hd C3
 have H4 := Hd C4
 clear C1 C2 C3 C4
 have G_x := Hd g_x
 have G_y := Hd g_y
 clear g_x g_y
 go_enter Tryz.func114, Tryz.ntmps114
 go_upto_region 1 with fail
 refine Z0 (P := fun W => Code.wp _ _ _ _ W) fun W p0 p1 p2 b0 => ?_
 have P_x := Hd (ZF.mk p0)
 have P_y := Hd (ZF.mk p1)
 have PR := Hd (ZF.mk p2)
 have HB := Hd b0
 clear b0 p0 p1 p2
 obtain ⟨-, x0, x1, x2, x3, x4, x5, x6, x7⟩ := P_x.out.facts
 go_wp2_with fail
 refine (H1.out W _ (G_x.out.below HB.out).raw).mono ?_
 rintro e wx1 ⟨rfl, hb⟩
 clear x0 x1 x2 x3 x4 x5 x6 x7
 have P_x := Hd (P_x.out.below hb)
 have P_y := Hd (P_y.out.below hb)
 have PR := Hd (PR.out.below hb)
 have HB := Hd (Zb HB.out hb)
 clear hb
 obtain ⟨-, y0, y1, y2, y3, y4, y5, y6, y7⟩ := P_y.out.facts
 go_wp2_with fail
 refine (H2.out wx1 _ (G_y.out.below HB.out).raw).mono ?_
 rintro e wx2 ⟨rfl, hb⟩
 clear y0 y1 y2 y3 y4 y5 y6 y7
 have P_x := Hd (P_x.out.below hb)
 have P_y := Hd (P_y.out.below hb)
 have PR := Hd (PR.out.below hb)
 have HB := Hd (Zb HB.out hb)
 clear hb
 obtain ⟨-, x0, x1, x2, x3, x4, x5, x6, x7⟩ := P_x.out.facts
 obtain ⟨-, y0, y1, y2, y3, y4, y5, y6, y7⟩ := P_y.out.facts
 go_wp2_with fail
 refine (H3.out wx2 _ _ (G_x.out.below HB.out) (G_y.out.below HB.out)).mono ?_
 rintro e wt ⟨v, rfl, hI, hb⟩
 clear x0 x1 x2 x3 x4 x5 x6 x7 y0 y1 y2 y3 y4 y5 y6 y7
 have HI0 := Hd (hI.base HB.out.size)
 have P_x := Hd (P_x.out.below hb)
 have P_y := Hd (P_y.out.below hb)
 have PR := Hd (PR.out.below hb)
 have HB := Hd (Zb HB.out hb)
 clear hI hb
 go_wp2_with fail
 refine (H4.out wt w.heap.size _ HB.out.size HI0.out).mono ?_
 rintro e w9 ⟨v, rfl, hI, hb⟩
 obtain ⟨A6, c6, A7, c7, A8, c8, A9, c9, rfl, -⟩ := hI.form
 have pr := PR.out.below hb
 have hb9 := Zb HB.out hb
 obtain ⟨l_r, r0, r1, r2, r3, r4, r5, r6, r7⟩ := pr.facts
 obtain ⟨f0, f1, f2, f3, f4, f5, f6, f7⟩ := pr.free
 have H9 := Hd (Y0 hI pr hb9 (show w.heap.size <= w.heap.size + 1 + 1 by omega) (by decide))
 clear hb hb9 pr hI
 go_wp2_with fail
 obtain ⟨_, k0, k1, k2, k3, k4, k5, k6, k7⟩ := H9.out.1.facts
 exact bodyPost_ret (by simp [results, Tryz.results114, go_sem, k0, k1, k2, k3, k4, k5, k6, k7]) rfl ⟨_, rfl, H9.out.2.2, H9.out.2.1⟩

theorem both_Minus {n d m f p q r s T1 T2 T3 T4 N D M E k : Int} (C1 : Xa 55 (decide (n < 0)) (decide (d < 0)) (decide (m < 0)) (decide (f < 0)) (Za n.natAbs) (Za d.natAbs) (Za m.natAbs) (Za f.natAbs) true) (C2 : Xa 55 (decide (p < 0)) (decide (q < 0)) (decide (r < 0)) (decide (s < 0)) (Za p.natAbs) (Za q.natAbs) (Za r.natAbs) (Za s.natAbs) true) (C3 : OpG 115 n d m f p q r s T1 T2 T3 T4) (C4 : Jf T1 T2 T3 T4 N D M E k) (w : World) (v_x v_y : Value) (g_x : Zh w v_x n d m f) (g_y : Zh w v_y p q r s)  :
  Calls Tryz.prog 114 #[v_x, v_y, .func (.func 115) #[] #[]] w (ZC w.heap.size w N D M E k) := by
 obtain ⟨Ax1, cx1, Ax2, cx2, Ax3, cx3, Ax4, cx4, rfl, -⟩ := g_x.form
 obtain ⟨Ay1, cy1, Ay2, cy2, Ay3, cy3, Ay4, cy4, rfl, -⟩ := g_y.form
 have H1 := Hd C1
 have H2 := Hd C2
 have H3 := Hd C3
 have H4 := Hd C4
 clear C1 C2 C3 C4
 have G_x := Hd g_x
 have G_y := Hd g_y
 clear g_x g_y
 go_enter Tryz.func114, Tryz.ntmps114
 go_upto_region 1 with fail
 refine Z0 (P := fun W => Code.wp _ _ _ _ W) fun W p0 p1 p2 b0 => ?_
 have P_x := Hd (ZF.mk p0)
 have P_y := Hd (ZF.mk p1)
 have PR := Hd (ZF.mk p2)
 have HB := Hd b0
 clear b0 p0 p1 p2
 obtain ⟨-, x0, x1, x2, x3, x4, x5, x6, x7⟩ := P_x.out.facts
 go_wp2_with fail
 refine (H1.out W _ (G_x.out.below HB.out).raw).mono ?_
 rintro e wx1 ⟨rfl, hb⟩
 clear x0 x1 x2 x3 x4 x5 x6 x7
 have P_x := Hd (P_x.out.below hb)
 have P_y := Hd (P_y.out.below hb)
 have PR := Hd (PR.out.below hb)
 have HB := Hd (Zb HB.out hb)
 clear hb
 obtain ⟨-, y0, y1, y2, y3, y4, y5, y6, y7⟩ := P_y.out.facts
 go_wp2_with fail
 refine (H2.out wx1 _ (G_y.out.below HB.out).raw).mono ?_
 rintro e wx2 ⟨rfl, hb⟩
 clear y0 y1 y2 y3 y4 y5 y6 y7
 have P_x := Hd (P_x.out.below hb)
 have P_y := Hd (P_y.out.below hb)
 have PR := Hd (PR.out.below hb)
 have HB := Hd (Zb HB.out hb)
 clear hb
 obtain ⟨-, x0, x1, x2, x3, x4, x5, x6, x7⟩ := P_x.out.facts
 obtain ⟨-, y0, y1, y2, y3, y4, y5, y6, y7⟩ := P_y.out.facts
 go_wp2_with fail
 refine (H3.out wx2 _ _ (G_x.out.below HB.out) (G_y.out.below HB.out)).mono ?_
 rintro e wt ⟨v, rfl, hI, hb⟩
 clear x0 x1 x2 x3 x4 x5 x6 x7 y0 y1 y2 y3 y4 y5 y6 y7
 have HI0 := Hd (hI.base HB.out.size)
 have P_x := Hd (P_x.out.below hb)
 have P_y := Hd (P_y.out.below hb)
 have PR := Hd (PR.out.below hb)
 have HB := Hd (Zb HB.out hb)
 clear hI hb
 go_wp2_with fail
 refine (H4.out wt w.heap.size _ HB.out.size HI0.out).mono ?_
 rintro e w9 ⟨v, rfl, hI, hb⟩
 obtain ⟨A6, c6, A7, c7, A8, c8, A9, c9, rfl, -⟩ := hI.form
 have pr := PR.out.below hb
 have hb9 := Zb HB.out hb
 obtain ⟨l_r, r0, r1, r2, r3, r4, r5, r6, r7⟩ := pr.facts
 obtain ⟨f0, f1, f2, f3, f4, f5, f6, f7⟩ := pr.free
 have H9 := Hd (Y0 hI pr hb9 (show w.heap.size <= w.heap.size + 1 + 1 by omega) (by decide))
 clear hb hb9 pr hI
 go_wp2_with fail
 obtain ⟨_, k0, k1, k2, k3, k4, k5, k6, k7⟩ := H9.out.1.facts
 exact bodyPost_ret (by simp [results, Tryz.results114, go_sem, k0, k1, k2, k3, k4, k5, k6, k7]) rfl ⟨_, rfl, H9.out.2.2, H9.out.2.1⟩

theorem both_Times {n d m f p q r s T1 T2 T3 T4 N D M E k : Int} (C1 : Xa 55 (decide (n < 0)) (decide (d < 0)) (decide (m < 0)) (decide (f < 0)) (Za n.natAbs) (Za d.natAbs) (Za m.natAbs) (Za f.natAbs) true) (C2 : Xa 55 (decide (p < 0)) (decide (q < 0)) (decide (r < 0)) (decide (s < 0)) (Za p.natAbs) (Za q.natAbs) (Za r.natAbs) (Za s.natAbs) true) (C3 : OpG 191 n d m f p q r s T1 T2 T3 T4) (C4 : Jf T1 T2 T3 T4 N D M E k) (w : World) (v_x v_y : Value) (g_x : Zh w v_x n d m f) (g_y : Zh w v_y p q r s)  :
  Calls Tryz.prog 114 #[v_x, v_y, .func (.func 191) #[] #[]] w (ZC w.heap.size w N D M E k) := by
 obtain ⟨Ax1, cx1, Ax2, cx2, Ax3, cx3, Ax4, cx4, rfl, -⟩ := g_x.form
 obtain ⟨Ay1, cy1, Ay2, cy2, Ay3, cy3, Ay4, cy4, rfl, -⟩ := g_y.form
 have H1 := Hd C1
 have H2 := Hd C2
 have H3 := Hd C3
 have H4 := Hd C4
 clear C1 C2 C3 C4
 have G_x := Hd g_x
 have G_y := Hd g_y
 clear g_x g_y
 go_enter Tryz.func114, Tryz.ntmps114
 go_upto_region 1 with fail
 refine Z0 (P := fun W => Code.wp _ _ _ _ W) fun W p0 p1 p2 b0 => ?_
 have P_x := Hd (ZF.mk p0)
 have P_y := Hd (ZF.mk p1)
 have PR := Hd (ZF.mk p2)
 have HB := Hd b0
 clear b0 p0 p1 p2
 obtain ⟨-, x0, x1, x2, x3, x4, x5, x6, x7⟩ := P_x.out.facts
 go_wp2_with fail
 refine (H1.out W _ (G_x.out.below HB.out).raw).mono ?_
 rintro e wx1 ⟨rfl, hb⟩
 clear x0 x1 x2 x3 x4 x5 x6 x7
 have P_x := Hd (P_x.out.below hb)
 have P_y := Hd (P_y.out.below hb)
 have PR := Hd (PR.out.below hb)
 have HB := Hd (Zb HB.out hb)
 clear hb
 obtain ⟨-, y0, y1, y2, y3, y4, y5, y6, y7⟩ := P_y.out.facts
 go_wp2_with fail
 refine (H2.out wx1 _ (G_y.out.below HB.out).raw).mono ?_
 rintro e wx2 ⟨rfl, hb⟩
 clear y0 y1 y2 y3 y4 y5 y6 y7
 have P_x := Hd (P_x.out.below hb)
 have P_y := Hd (P_y.out.below hb)
 have PR := Hd (PR.out.below hb)
 have HB := Hd (Zb HB.out hb)
 clear hb
 obtain ⟨-, x0, x1, x2, x3, x4, x5, x6, x7⟩ := P_x.out.facts
 obtain ⟨-, y0, y1, y2, y3, y4, y5, y6, y7⟩ := P_y.out.facts
 go_wp2_with fail
 refine (H3.out wx2 _ _ (G_x.out.below HB.out) (G_y.out.below HB.out)).mono ?_
 rintro e wt ⟨v, rfl, hI, hb⟩
 clear x0 x1 x2 x3 x4 x5 x6 x7 y0 y1 y2 y3 y4 y5 y6 y7
 have HI0 := Hd (hI.base HB.out.size)
 have P_x := Hd (P_x.out.below hb)
 have P_y := Hd (P_y.out.below hb)
 have PR := Hd (PR.out.below hb)
 have HB := Hd (Zb HB.out hb)
 clear hI hb
 go_wp2_with fail
 refine (H4.out wt w.heap.size _ HB.out.size HI0.out).mono ?_
 rintro e w9 ⟨v, rfl, hI, hb⟩
 obtain ⟨A6, c6, A7, c7, A8, c8, A9, c9, rfl, -⟩ := hI.form
 have pr := PR.out.below hb
 have hb9 := Zb HB.out hb
 obtain ⟨l_r, r0, r1, r2, r3, r4, r5, r6, r7⟩ := pr.facts
 obtain ⟨f0, f1, f2, f3, f4, f5, f6, f7⟩ := pr.free
 have H9 := Hd (Y0 hI pr hb9 (show w.heap.size <= w.heap.size + 1 + 1 by omega) (by decide))
 clear hb hb9 pr hI
 go_wp2_with fail
 obtain ⟨_, k0, k1, k2, k3, k4, k5, k6, k7⟩ := H9.out.1.facts
 exact bodyPost_ret (by simp [results, Tryz.results114, go_sem, k0, k1, k2, k3, k4, k5, k6, k7]) rfl ⟨_, rfl, H9.out.2.2, H9.out.2.1⟩

theorem both_Over {n d m f p q r s T1 T2 T3 T4 N D M E k : Int} (C1 : Xa 55 (decide (n < 0)) (decide (d < 0)) (decide (m < 0)) (decide (f < 0)) (Za n.natAbs) (Za d.natAbs) (Za m.natAbs) (Za f.natAbs) true) (C2 : Xa 55 (decide (p < 0)) (decide (q < 0)) (decide (r < 0)) (decide (s < 0)) (Za p.natAbs) (Za q.natAbs) (Za r.natAbs) (Za s.natAbs) true) (C3 : OpG 117 n d m f p q r s T1 T2 T3 T4) (C4 : Jf T1 T2 T3 T4 N D M E k) (w : World) (v_x v_y : Value) (g_x : Zh w v_x n d m f) (g_y : Zh w v_y p q r s)  :
  Calls Tryz.prog 114 #[v_x, v_y, .func (.func 117) #[] #[]] w (ZC w.heap.size w N D M E k) := by
 obtain ⟨Ax1, cx1, Ax2, cx2, Ax3, cx3, Ax4, cx4, rfl, -⟩ := g_x.form
 obtain ⟨Ay1, cy1, Ay2, cy2, Ay3, cy3, Ay4, cy4, rfl, -⟩ := g_y.form
 have H1 := Hd C1
 have H2 := Hd C2
 have H3 := Hd C3
 have H4 := Hd C4
 clear C1 C2 C3 C4
 have G_x := Hd g_x
 have G_y := Hd g_y
 clear g_x g_y
 go_enter Tryz.func114, Tryz.ntmps114
 go_upto_region 1 with fail
 refine Z0 (P := fun W => Code.wp _ _ _ _ W) fun W p0 p1 p2 b0 => ?_
 have P_x := Hd (ZF.mk p0)
 have P_y := Hd (ZF.mk p1)
 have PR := Hd (ZF.mk p2)
 have HB := Hd b0
 clear b0 p0 p1 p2
 obtain ⟨-, x0, x1, x2, x3, x4, x5, x6, x7⟩ := P_x.out.facts
 go_wp2_with fail
 refine (H1.out W _ (G_x.out.below HB.out).raw).mono ?_
 rintro e wx1 ⟨rfl, hb⟩
 clear x0 x1 x2 x3 x4 x5 x6 x7
 have P_x := Hd (P_x.out.below hb)
 have P_y := Hd (P_y.out.below hb)
 have PR := Hd (PR.out.below hb)
 have HB := Hd (Zb HB.out hb)
 clear hb
 obtain ⟨-, y0, y1, y2, y3, y4, y5, y6, y7⟩ := P_y.out.facts
 go_wp2_with fail
 refine (H2.out wx1 _ (G_y.out.below HB.out).raw).mono ?_
 rintro e wx2 ⟨rfl, hb⟩
 clear y0 y1 y2 y3 y4 y5 y6 y7
 have P_x := Hd (P_x.out.below hb)
 have P_y := Hd (P_y.out.below hb)
 have PR := Hd (PR.out.below hb)
 have HB := Hd (Zb HB.out hb)
 clear hb
 obtain ⟨-, x0, x1, x2, x3, x4, x5, x6, x7⟩ := P_x.out.facts
 obtain ⟨-, y0, y1, y2, y3, y4, y5, y6, y7⟩ := P_y.out.facts
 go_wp2_with fail
 refine (H3.out wx2 _ _ (G_x.out.below HB.out) (G_y.out.below HB.out)).mono ?_
 rintro e wt ⟨v, rfl, hI, hb⟩
 clear x0 x1 x2 x3 x4 x5 x6 x7 y0 y1 y2 y3 y4 y5 y6 y7
 have HI0 := Hd (hI.base HB.out.size)
 have P_x := Hd (P_x.out.below hb)
 have P_y := Hd (P_y.out.below hb)
 have PR := Hd (PR.out.below hb)
 have HB := Hd (Zb HB.out hb)
 clear hI hb
 go_wp2_with fail
 refine (H4.out wt w.heap.size _ HB.out.size HI0.out).mono ?_
 rintro e w9 ⟨v, rfl, hI, hb⟩
 obtain ⟨A6, c6, A7, c7, A8, c8, A9, c9, rfl, -⟩ := hI.form
 have pr := PR.out.below hb
 have hb9 := Zb HB.out hb
 obtain ⟨l_r, r0, r1, r2, r3, r4, r5, r6, r7⟩ := pr.facts
 obtain ⟨f0, f1, f2, f3, f4, f5, f6, f7⟩ := pr.free
 have H9 := Hd (Y0 hI pr hb9 (show w.heap.size <= w.heap.size + 1 + 1 by omega) (by decide))
 clear hb hb9 pr hI
 go_wp2_with fail
 obtain ⟨_, k0, k1, k2, k3, k4, k5, k6, k7⟩ := H9.out.1.facts
 exact bodyPost_ret (by simp [results, Tryz.results114, go_sem, k0, k1, k2, k3, k4, k5, k6, k7]) rfl ⟨_, rfl, H9.out.2.2, H9.out.2.1⟩

abbrev BothC (fv : Value) (n1 n2 n3 n4 : Bool) (xs ys us vs : List Nat) (m1 m2 m3 m4 : Bool) (ps qs rs ts : List Nat) (N D M E k : Int) : Prop := ∀ (V : World) (v1 v2 : Value), Zn V v1 n1 n2 n3 n4 xs ys us vs -> Zn V v2 m1 m2 m3 m4 ps qs rs ts -> Calls Tryz.prog 114 #[v1, v2, fv] V (ZC V.heap.size V N D M E k)

theorem gauss_Add {n1 n2 n3 n4 : Bool} {xs ys us vs : List Nat} {m1 m2 m3 m4 : Bool} {ps qs rs ts : List Nat} {N D M E k : Int} (C1 : BothC (.func (.func 192) #[] #[]) n1 n2 n3 n4 xs ys us vs m1 m2 m3 m4 ps qs rs ts N D M E k) (w : World) (v_x v_y : Value) (g_x : Zn w v_x n1 n2 n3 n4 xs ys us vs) (g_y : Zn w v_y m1 m2 m3 m4 ps qs rs ts)  :
  Calls Tryz.prog 106 #[v_x, v_y] w (ZC w.heap.size w N D M E k) := by
 obtain ⟨Ax1, cx1, Ax2, cx2, Ax3, cx3, Ax4, cx4, rfl, -⟩ := g_x.form
 obtain ⟨Ay1, cy1, Ay2, cy2, Ay3, cy3, Ay4, cy4, rfl, -⟩ := g_y.form
 have H1 := Hd C1
 clear C1
 have G_x := Hd g_x
 have G_y := Hd g_y
 clear g_x g_y
 go_enter Tryz.func106, Tryz.ntmps106
 go_upto_region 1 with fail
 refine Z0 (P := fun W => Code.wp _ _ _ _ W) fun W p0 p1 p2 b0 => ?_
 have P_x := Hd (ZF.mk p0)
 have P_y := Hd (ZF.mk p1)
 have PR := Hd (ZF.mk p2)
 have HB := Hd b0
 clear b0 p0 p1 p2
 obtain ⟨-, x0, x1, x2, x3, x4, x5, x6, x7⟩ := P_x.out.facts
 obtain ⟨-, y0, y1, y2, y3, y4, y5, y6, y7⟩ := P_y.out.facts
 go_wp2_with fail
 refine (H1.out W _ _ (G_x.out.below HB.out) (G_y.out.below HB.out)).mono ?_
 rintro e w9 ⟨v, rfl, hI, hb⟩
 clear x0 x1 x2 x3 x4 x5 x6 x7 y0 y1 y2 y3 y4 y5 y6 y7
 obtain ⟨A6, c6, A7, c7, A8, c8, A9, c9, rfl, -⟩ := hI.form
 have pr := PR.out.below hb
 have hb9 := Zb HB.out hb
 obtain ⟨l_r, r0, r1, r2, r3, r4, r5, r6, r7⟩ := pr.facts
 obtain ⟨f0, f1, f2, f3, f4, f5, f6, f7⟩ := pr.free
 have H9 := Hd (Y0 hI pr hb9 (show w.heap.size <= w.heap.size + 1 + 1 by omega) (by decide))
 clear hb hb9 pr hI
 go_wp2_with fail
 obtain ⟨_, k0, k1, k2, k3, k4, k5, k6, k7⟩ := H9.out.1.facts
 exact bodyPost_ret (by simp [results, Tryz.results106, go_sem, k0, k1, k2, k3, k4, k5, k6, k7]) rfl ⟨_, rfl, H9.out.2.2.base HB.out.size, H9.out.2.1⟩

theorem gauss_Sub {n1 n2 n3 n4 : Bool} {xs ys us vs : List Nat} {m1 m2 m3 m4 : Bool} {ps qs rs ts : List Nat} {N D M E k : Int} (C1 : BothC (.func (.func 115) #[] #[]) n1 n2 n3 n4 xs ys us vs m1 m2 m3 m4 ps qs rs ts N D M E k) (w : World) (v_x v_y : Value) (g_x : Zn w v_x n1 n2 n3 n4 xs ys us vs) (g_y : Zn w v_y m1 m2 m3 m4 ps qs rs ts)  :
  Calls Tryz.prog 28 #[v_x, v_y] w (ZC w.heap.size w N D M E k) := by
 obtain ⟨Ax1, cx1, Ax2, cx2, Ax3, cx3, Ax4, cx4, rfl, -⟩ := g_x.form
 obtain ⟨Ay1, cy1, Ay2, cy2, Ay3, cy3, Ay4, cy4, rfl, -⟩ := g_y.form
 have H1 := Hd C1
 clear C1
 have G_x := Hd g_x
 have G_y := Hd g_y
 clear g_x g_y
 go_enter Tryz.func28, Tryz.ntmps28
 go_upto_region 1 with fail
 refine Z0 (P := fun W => Code.wp _ _ _ _ W) fun W p0 p1 p2 b0 => ?_
 have P_x := Hd (ZF.mk p0)
 have P_y := Hd (ZF.mk p1)
 have PR := Hd (ZF.mk p2)
 have HB := Hd b0
 clear b0 p0 p1 p2
 obtain ⟨-, x0, x1, x2, x3, x4, x5, x6, x7⟩ := P_x.out.facts
 obtain ⟨-, y0, y1, y2, y3, y4, y5, y6, y7⟩ := P_y.out.facts
 go_wp2_with fail
 refine (H1.out W _ _ (G_x.out.below HB.out) (G_y.out.below HB.out)).mono ?_
 rintro e w9 ⟨v, rfl, hI, hb⟩
 clear x0 x1 x2 x3 x4 x5 x6 x7 y0 y1 y2 y3 y4 y5 y6 y7
 obtain ⟨A6, c6, A7, c7, A8, c8, A9, c9, rfl, -⟩ := hI.form
 have pr := PR.out.below hb
 have hb9 := Zb HB.out hb
 obtain ⟨l_r, r0, r1, r2, r3, r4, r5, r6, r7⟩ := pr.facts
 obtain ⟨f0, f1, f2, f3, f4, f5, f6, f7⟩ := pr.free
 have H9 := Hd (Y0 hI pr hb9 (show w.heap.size <= w.heap.size + 1 + 1 by omega) (by decide))
 clear hb hb9 pr hI
 go_wp2_with fail
 obtain ⟨_, k0, k1, k2, k3, k4, k5, k6, k7⟩ := H9.out.1.facts
 exact bodyPost_ret (by simp [results, Tryz.results28, go_sem, k0, k1, k2, k3, k4, k5, k6, k7]) rfl ⟨_, rfl, H9.out.2.2.base HB.out.size, H9.out.2.1⟩

theorem gauss_Mul {n1 n2 n3 n4 : Bool} {xs ys us vs : List Nat} {m1 m2 m3 m4 : Bool} {ps qs rs ts : List Nat} {N D M E k : Int} (C1 : BothC (.func (.func 191) #[] #[]) n1 n2 n3 n4 xs ys us vs m1 m2 m3 m4 ps qs rs ts N D M E k) (w : World) (v_x v_y : Value) (g_x : Zn w v_x n1 n2 n3 n4 xs ys us vs) (g_y : Zn w v_y m1 m2 m3 m4 ps qs rs ts)  :
  Calls Tryz.prog 104 #[v_x, v_y] w (ZC w.heap.size w N D M E k) := by
 obtain ⟨Ax1, cx1, Ax2, cx2, Ax3, cx3, Ax4, cx4, rfl, -⟩ := g_x.form
 obtain ⟨Ay1, cy1, Ay2, cy2, Ay3, cy3, Ay4, cy4, rfl, -⟩ := g_y.form
 have H1 := Hd C1
 clear C1
 have G_x := Hd g_x
 have G_y := Hd g_y
 clear g_x g_y
 go_enter Tryz.func104, Tryz.ntmps104
 go_upto_region 1 with fail
 refine Z0 (P := fun W => Code.wp _ _ _ _ W) fun W p0 p1 p2 b0 => ?_
 have P_x := Hd (ZF.mk p0)
 have P_y := Hd (ZF.mk p1)
 have PR := Hd (ZF.mk p2)
 have HB := Hd b0
 clear b0 p0 p1 p2
 obtain ⟨-, x0, x1, x2, x3, x4, x5, x6, x7⟩ := P_x.out.facts
 obtain ⟨-, y0, y1, y2, y3, y4, y5, y6, y7⟩ := P_y.out.facts
 go_wp2_with fail
 refine (H1.out W _ _ (G_x.out.below HB.out) (G_y.out.below HB.out)).mono ?_
 rintro e w9 ⟨v, rfl, hI, hb⟩
 clear x0 x1 x2 x3 x4 x5 x6 x7 y0 y1 y2 y3 y4 y5 y6 y7
 obtain ⟨A6, c6, A7, c7, A8, c8, A9, c9, rfl, -⟩ := hI.form
 have pr := PR.out.below hb
 have hb9 := Zb HB.out hb
 obtain ⟨l_r, r0, r1, r2, r3, r4, r5, r6, r7⟩ := pr.facts
 obtain ⟨f0, f1, f2, f3, f4, f5, f6, f7⟩ := pr.free
 have H9 := Hd (Y0 hI pr hb9 (show w.heap.size <= w.heap.size + 1 + 1 by omega) (by decide))
 clear hb hb9 pr hI
 go_wp2_with fail
 obtain ⟨_, k0, k1, k2, k3, k4, k5, k6, k7⟩ := H9.out.1.facts
 exact bodyPost_ret (by simp [results, Tryz.results104, go_sem, k0, k1, k2, k3, k4, k5, k6, k7]) rfl ⟨_, rfl, H9.out.2.2.base HB.out.size, H9.out.2.1⟩

theorem gauss_Quo_x {n1 n2 n3 n4 : Bool} {xs ys us vs : List Nat} {m1 m2 m3 m4 : Bool} {ps qs rs ts : List Nat} {N D M E k : Int} (C0 : Xa 55 n1 n2 n3 n4 xs ys us vs false) (C1 : BothC (.func (.func 117) #[] #[]) n1 n2 n3 n4 xs ys us vs m1 m2 m3 m4 ps qs rs ts N D M E k) (w : World) (v_x v_y : Value) (g_x : Zn w v_x n1 n2 n3 n4 xs ys us vs) (g_y : Zn w v_y m1 m2 m3 m4 ps qs rs ts)  :
  Calls Tryz.prog 29 #[v_x, v_y] w (ZC w.heap.size w N D M E k) := by
 obtain ⟨Ax1, cx1, Ax2, cx2, Ax3, cx3, Ax4, cx4, rfl, -⟩ := g_x.form
 obtain ⟨Ay1, cy1, Ay2, cy2, Ay3, cy3, Ay4, cy4, rfl, -⟩ := g_y.form
 have H0 := Hd C0
 have H1 := Hd C1
 clear C0 C1
 have G_x := Hd g_x
 have G_y := Hd g_y
 clear g_x g_y
 go_enter Tryz.func29, Tryz.ntmps29
 go_upto_region 1 with fail
 refine Z0 (P := fun W => Code.wp _ _ _ _ W) fun W p0 p1 p2 b0 => ?_
 have P_x := Hd (ZF.mk p0)
 have P_y := Hd (ZF.mk p1)
 have PR := Hd (ZF.mk p2)
 have HB := Hd b0
 clear b0 p0 p1 p2
 obtain ⟨-, x0, x1, x2, x3, x4, x5, x6, x7⟩ := P_x.out.facts
 go_wp2_with fail
 refine (H0.out W _ (G_x.out.below HB.out)).mono ?_
 rintro e wx1 ⟨rfl, hb⟩
 clear x0 x1 x2 x3 x4 x5 x6 x7
 have P_x := Hd (P_x.out.below hb)
 have P_y := Hd (P_y.out.below hb)
 have PR := Hd (PR.out.below hb)
 have HB := Hd (Zb HB.out hb)
 clear hb
 obtain ⟨-, x0, x1, x2, x3, x4, x5, x6, x7⟩ := P_x.out.facts
 obtain ⟨-, y0, y1, y2, y3, y4, y5, y6, y7⟩ := P_y.out.facts
 go_wp2_with fail
 refine (H1.out wx1 _ _ (G_x.out.below HB.out) (G_y.out.below HB.out)).mono ?_
 rintro e w9 ⟨v, rfl, hI, hb⟩
 clear x0 x1 x2 x3 x4 x5 x6 x7 y0 y1 y2 y3 y4 y5 y6 y7
 obtain ⟨A6, c6, A7, c7, A8, c8, A9, c9, rfl, -⟩ := hI.form
 have pr := PR.out.below hb
 have hb9 := Zb HB.out hb
 obtain ⟨l_r, r0, r1, r2, r3, r4, r5, r6, r7⟩ := pr.facts
 obtain ⟨f0, f1, f2, f3, f4, f5, f6, f7⟩ := pr.free
 have H9 := Hd (Y0 hI pr hb9 (show w.heap.size <= w.heap.size + 1 + 1 by omega) (by decide))
 clear hb hb9 pr hI
 go_wp2_with fail
 obtain ⟨_, k0, k1, k2, k3, k4, k5, k6, k7⟩ := H9.out.1.facts
 exact bodyPost_ret (by simp [results, Tryz.results29, go_sem, k0, k1, k2, k3, k4, k5, k6, k7]) rfl ⟨_, rfl, H9.out.2.2.base HB.out.size, H9.out.2.1⟩

theorem gauss_Quo_y {n1 n2 n3 n4 : Bool} {xs ys us vs : List Nat} {m1 m2 m3 m4 : Bool} {ps qs rs ts : List Nat} {N D M E k : Int} (C0 : Xa 55 n1 n2 n3 n4 xs ys us vs true) (C2 : Xa 55 m1 m2 m3 m4 ps qs rs ts false) (C1 : BothC (.func (.func 117) #[] #[]) n1 n2 n3 n4 xs ys us vs m1 m2 m3 m4 ps qs rs ts N D M E k) (w : World) (v_x v_y : Value) (g_x : Zn w v_x n1 n2 n3 n4 xs ys us vs) (g_y : Zn w v_y m1 m2 m3 m4 ps qs rs ts)  :
  Calls Tryz.prog 29 #[v_x, v_y] w (ZC w.heap.size w N D M E k) := by
 obtain ⟨Ax1, cx1, Ax2, cx2, Ax3, cx3, Ax4, cx4, rfl, -⟩ := g_x.form
 obtain ⟨Ay1, cy1, Ay2, cy2, Ay3, cy3, Ay4, cy4, rfl, -⟩ := g_y.form
 have H0 := Hd C0
 have H2 := Hd C2
 have H1 := Hd C1
 clear C0 C2 C1
 have G_x := Hd g_x
 have G_y := Hd g_y
 clear g_x g_y
 go_enter Tryz.func29, Tryz.ntmps29
 go_upto_region 1 with fail
 refine Z0 (P := fun W => Code.wp _ _ _ _ W) fun W p0 p1 p2 b0 => ?_
 have P_x := Hd (ZF.mk p0)
 have P_y := Hd (ZF.mk p1)
 have PR := Hd (ZF.mk p2)
 have HB := Hd b0
 clear b0 p0 p1 p2
 obtain ⟨-, x0, x1, x2, x3, x4, x5, x6, x7⟩ := P_x.out.facts
 go_wp2_with fail
 refine (H0.out W _ (G_x.out.below HB.out)).mono ?_
 rintro e wx1 ⟨rfl, hb⟩
 clear x0 x1 x2 x3 x4 x5 x6 x7
 have P_x := Hd (P_x.out.below hb)
 have P_y := Hd (P_y.out.below hb)
 have PR := Hd (PR.out.below hb)
 have HB := Hd (Zb HB.out hb)
 clear hb
 obtain ⟨-, y0, y1, y2, y3, y4, y5, y6, y7⟩ := P_y.out.facts
 go_wp2_with fail
 refine (H2.out wx1 _ (G_y.out.below HB.out)).mono ?_
 rintro e wx2 ⟨rfl, hb⟩
 clear y0 y1 y2 y3 y4 y5 y6 y7
 have P_x := Hd (P_x.out.below hb)
 have P_y := Hd (P_y.out.below hb)
 have PR := Hd (PR.out.below hb)
 have HB := Hd (Zb HB.out hb)
 clear hb
 obtain ⟨-, x0, x1, x2, x3, x4, x5, x6, x7⟩ := P_x.out.facts
 obtain ⟨-, y0, y1, y2, y3, y4, y5, y6, y7⟩ := P_y.out.facts
 go_wp2_with fail
 refine (H1.out wx2 _ _ (G_x.out.below HB.out) (G_y.out.below HB.out)).mono ?_
 rintro e w9 ⟨v, rfl, hI, hb⟩
 clear x0 x1 x2 x3 x4 x5 x6 x7 y0 y1 y2 y3 y4 y5 y6 y7
 obtain ⟨A6, c6, A7, c7, A8, c8, A9, c9, rfl, -⟩ := hI.form
 have pr := PR.out.below hb
 have hb9 := Zb HB.out hb
 obtain ⟨l_r, r0, r1, r2, r3, r4, r5, r6, r7⟩ := pr.facts
 obtain ⟨f0, f1, f2, f3, f4, f5, f6, f7⟩ := pr.free
 have H9 := Hd (Y0 hI pr hb9 (show w.heap.size <= w.heap.size + 1 + 1 by omega) (by decide))
 clear hb hb9 pr hI
 go_wp2_with fail
 obtain ⟨_, k0, k1, k2, k3, k4, k5, k6, k7⟩ := H9.out.1.facts
 exact bodyPost_ret (by simp [results, Tryz.results29, go_sem, k0, k1, k2, k3, k4, k5, k6, k7]) rfl ⟨_, rfl, H9.out.2.2.base HB.out.size, H9.out.2.1⟩

theorem gauss_Quo_ok {n d m f p q r s N D M E k : Int} (C0 : Xa 55 (decide (n < 0)) (decide (d < 0)) (decide (m < 0)) (decide (f < 0)) (Za n.natAbs) (Za d.natAbs) (Za m.natAbs) (Za f.natAbs) true) (C2 : Xa 55 (decide (p < 0)) (decide (q < 0)) (decide (r < 0)) (decide (s < 0)) (Za p.natAbs) (Za q.natAbs) (Za r.natAbs) (Za s.natAbs) true) (C3 : NoughtG 116 p q r s false) (C1 : BothC (.func (.func 117) #[] #[]) (decide (n < 0)) (decide (d < 0)) (decide (m < 0)) (decide (f < 0)) (Za n.natAbs) (Za d.natAbs) (Za m.natAbs) (Za f.natAbs) (decide (p < 0)) (decide (q < 0)) (decide (r < 0)) (decide (s < 0)) (Za p.natAbs) (Za q.natAbs) (Za r.natAbs) (Za s.natAbs) N D M E k) (w : World) (v_x v_y : Value) (g_x : Zh w v_x n d m f) (g_y : Zh w v_y p q r s)  :
  Calls Tryz.prog 29 #[v_x, v_y] w (ZC w.heap.size w N D M E k) := by
 obtain ⟨Ax1, cx1, Ax2, cx2, Ax3, cx3, Ax4, cx4, rfl, -⟩ := g_x.form
 obtain ⟨Ay1, cy1, Ay2, cy2, Ay3, cy3, Ay4, cy4, rfl, -⟩ := g_y.form
 have H0 := Hd C0
 have H2 := Hd C2
 have H3 := Hd C3
 have H1 := Hd C1
 clear C0 C2 C3 C1
 have G_x := Hd g_x
 have G_y := Hd g_y
 clear g_x g_y
 go_enter Tryz.func29, Tryz.ntmps29
 go_upto_region 1 with fail
 refine Z0 (P := fun W => Code.wp _ _ _ _ W) fun W p0 p1 p2 b0 => ?_
 have P_x := Hd (ZF.mk p0)
 have P_y := Hd (ZF.mk p1)
 have PR := Hd (ZF.mk p2)
 have HB := Hd b0
 clear b0 p0 p1 p2
 obtain ⟨-, x0, x1, x2, x3, x4, x5, x6, x7⟩ := P_x.out.facts
 go_wp2_with fail
 refine (H0.out W _ (G_x.out.below HB.out).raw).mono ?_
 rintro e wx1 ⟨rfl, hb⟩
 clear x0 x1 x2 x3 x4 x5 x6 x7
 have P_x := Hd (P_x.out.below hb)
 have P_y := Hd (P_y.out.below hb)
 have PR := Hd (PR.out.below hb)
 have HB := Hd (Zb HB.out hb)
 clear hb
 obtain ⟨-, y0, y1, y2, y3, y4, y5, y6, y7⟩ := P_y.out.facts
 go_wp2_with fail
 refine (H2.out wx1 _ (G_y.out.below HB.out).raw).mono ?_
 rintro e wx2 ⟨rfl, hb⟩
 clear y0 y1 y2 y3 y4 y5 y6 y7
 have P_x := Hd (P_x.out.below hb)
 have P_y := Hd (P_y.out.below hb)
 have PR := Hd (PR.out.below hb)
 have HB := Hd (Zb HB.out hb)
 clear hb
 obtain ⟨-, y0, y1, y2, y3, y4, y5, y6, y7⟩ := P_y.out.facts
 go_wp2_with fail
 refine (H3.out wx2 _ (G_y.out.below HB.out)).mono ?_
 rintro e wx3 ⟨rfl, hb⟩
 clear y0 y1 y2 y3 y4 y5 y6 y7
 have P_x := Hd (P_x.out.below hb)
 have P_y := Hd (P_y.out.below hb)
 have PR := Hd (PR.out.below hb)
 have HB := Hd (Zb HB.out hb)
 clear hb
 obtain ⟨-, x0, x1, x2, x3, x4, x5, x6, x7⟩ := P_x.out.facts
 obtain ⟨-, y0, y1, y2, y3, y4, y5, y6, y7⟩ := P_y.out.facts
 go_wp2_with fail
 refine (H1.out wx3 _ _ (G_x.out.below HB.out).raw (G_y.out.below HB.out).raw).mono ?_
 rintro e w9 ⟨v, rfl, hI, hb⟩
 clear x0 x1 x2 x3 x4 x5 x6 x7 y0 y1 y2 y3 y4 y5 y6 y7
 obtain ⟨A6, c6, A7, c7, A8, c8, A9, c9, rfl, -⟩ := hI.form
 have pr := PR.out.below hb
 have hb9 := Zb HB.out hb
 obtain ⟨l_r, r0, r1, r2, r3, r4, r5, r6, r7⟩ := pr.facts
 obtain ⟨f0, f1, f2, f3, f4, f5, f6, f7⟩ := pr.free
 have H9 := Hd (Y0 hI pr hb9 (show w.heap.size <= w.heap.size + 1 + 1 by omega) (by decide))
 clear hb hb9 pr hI
 go_wp2_with fail
 obtain ⟨_, k0, k1, k2, k3, k4, k5, k6, k7⟩ := H9.out.1.facts
 exact bodyPost_ret (by simp [results, Tryz.results29, go_sem, k0, k1, k2, k3, k4, k5, k6, k7]) rfl ⟨_, rfl, H9.out.2.2.base HB.out.size, H9.out.2.1⟩

theorem JL {n d m f p q r s : Int} (C0 : Xa 55 (decide (n < 0)) (decide (d < 0)) (decide (m < 0)) (decide (f < 0)) (Za n.natAbs) (Za d.natAbs) (Za m.natAbs) (Za f.natAbs) true) (C2 : Xa 55 (decide (p < 0)) (decide (q < 0)) (decide (r < 0)) (decide (s < 0)) (Za p.natAbs) (Za q.natAbs) (Za r.natAbs) (Za s.natAbs) true) (C3 : NoughtG 116 p q r s true) (w : World) (v_x v_y : Value) (g_x : Zh w v_x n d m f) (g_y : Zh w v_y p q r s)  :
  Calls Tryz.prog 29 #[v_x, v_y] w (ZC w.heap.size w 0 0 0 0 3) := by
 obtain ⟨Ax1, cx1, Ax2, cx2, Ax3, cx3, Ax4, cx4, rfl, -⟩ := g_x.form
 obtain ⟨Ay1, cy1, Ay2, cy2, Ay3, cy3, Ay4, cy4, rfl, -⟩ := g_y.form
 have H0 := Hd C0
 have H2 := Hd C2
 have H3 := Hd C3
 clear C0 C2 C3
 have G_x := Hd g_x
 have G_y := Hd g_y
 clear g_x g_y
 go_enter Tryz.func29, Tryz.ntmps29
 go_upto_region 1 with fail
 refine Z0 (P := fun W => Code.wp _ _ _ _ W) fun W p0 p1 p2 b0 => ?_
 have P_x := Hd (ZF.mk p0)
 have P_y := Hd (ZF.mk p1)
 have PR := Hd (ZF.mk p2)
 have HB := Hd b0
 clear b0 p0 p1 p2
 obtain ⟨-, x0, x1, x2, x3, x4, x5, x6, x7⟩ := P_x.out.facts
 go_wp2_with fail
 refine (H0.out W _ (G_x.out.below HB.out).raw).mono ?_
 rintro e wx1 ⟨rfl, hb⟩
 clear x0 x1 x2 x3 x4 x5 x6 x7
 have P_x := Hd (P_x.out.below hb)
 have P_y := Hd (P_y.out.below hb)
 have PR := Hd (PR.out.below hb)
 have HB := Hd (Zb HB.out hb)
 clear hb
 obtain ⟨-, y0, y1, y2, y3, y4, y5, y6, y7⟩ := P_y.out.facts
 go_wp2_with fail
 refine (H2.out wx1 _ (G_y.out.below HB.out).raw).mono ?_
 rintro e wx2 ⟨rfl, hb⟩
 clear y0 y1 y2 y3 y4 y5 y6 y7
 have P_x := Hd (P_x.out.below hb)
 have P_y := Hd (P_y.out.below hb)
 have PR := Hd (PR.out.below hb)
 have HB := Hd (Zb HB.out hb)
 clear hb
 obtain ⟨-, y0, y1, y2, y3, y4, y5, y6, y7⟩ := P_y.out.facts
 go_wp2_with fail
 refine (H3.out wx2 _ (G_y.out.below HB.out)).mono ?_
 rintro e wx3 ⟨rfl, hb⟩
 clear y0 y1 y2 y3 y4 y5 y6 y7
 have P_x := Hd (P_x.out.below hb)
 have P_y := Hd (P_y.out.below hb)
 have PR := Hd (PR.out.below hb)
 have HB := Hd (Zb HB.out hb)
 clear hb
 obtain ⟨l_r, r0, r1, r2, r3, r4, r5, r6, r7⟩ := PR.out.facts
 obtain ⟨f0, f1, f2, f3, f4, f5, f6, f7⟩ := PR.out.free
 have HQ := Hd (gzero PR.out HB.out (show w.heap.size <= w.heap.size + 1 + 1 by omega))
 go_wp2_with fail
 obtain ⟨_, k0, k1, k2, k3, k4, k5, k6, k7⟩ := HQ.out.1.facts
 exact bodyPost_ret (by simp [results, Tryz.results29, go_sem, k0, k1, k2, k3, k4, k5, k6, k7]) rfl ⟨_, rfl, Zt.nought _ _, HQ.out.2⟩

theorem argand_Nought_re {n d m f s0 : Int} (C1 : SgnF 138 n d s0) (g1 : (s0 == 0) = false) (w : World) (v_x : Value) (g_x : Zh w v_x n d m f)  :
  Calls Tryz.prog 116 #[v_x] w fun e w' => e = .returned (.bool false) /\ Below w.heap.size w w' := by
 obtain ⟨Ax1, cx1, Ax2, cx2, Ax3, cx3, Ax4, cx4, rfl, -⟩ := g_x.form
 have H1 := Hd C1
 clear C1
 have G_x := Hd g_x
 clear g_x
 go_enter Tryz.func116, Tryz.ntmps116
 go_upto_region 1 with fail
 refine Y7 (P := fun W => Code.wp _ _ _ _ W) fun W p0 b0 => ?_
 have P_x := Hd (ZF.mk p0)
 have HB := Hd b0
 clear b0 p0
 obtain ⟨-, x0, x1, x2, x3, x4, x5, x6, x7⟩ := P_x.out.facts
 go_wp2_with fail
 refine (H1.out W _ (G_x.out.below HB.out).re).mono ?_
 rintro e wx1 ⟨rfl, hb⟩
 clear x0 x1 x2 x3 x4 x5 x6 x7
 have P_x := Hd (P_x.out.below hb)
 have HB := Hd (Zb HB.out hb)
 clear hb
 go_wp2_with fail
 go_ret
 exact ⟨rfl, HB.out⟩

theorem argand_Nought_im {n d m f s0 s1 : Int} (C1 : SgnF 138 n d s0) (g1 : (s0 == 0) = true) (C2 : SgnF 138 m f s1) (g2 : (s1 == 0) = false) (w : World) (v_x : Value) (g_x : Zh w v_x n d m f)  :
  Calls Tryz.prog 116 #[v_x] w fun e w' => e = .returned (.bool false) /\ Below w.heap.size w w' := by
 obtain ⟨Ax1, cx1, Ax2, cx2, Ax3, cx3, Ax4, cx4, rfl, -⟩ := g_x.form
 have H1 := Hd C1
 have H2 := Hd C2
 clear C1 C2
 have G_x := Hd g_x
 clear g_x
 go_enter Tryz.func116, Tryz.ntmps116
 go_upto_region 1 with fail
 refine Y7 (P := fun W => Code.wp _ _ _ _ W) fun W p0 b0 => ?_
 have P_x := Hd (ZF.mk p0)
 have HB := Hd b0
 clear b0 p0
 obtain ⟨-, x0, x1, x2, x3, x4, x5, x6, x7⟩ := P_x.out.facts
 go_wp2_with fail
 refine (H1.out W _ (G_x.out.below HB.out).re).mono ?_
 rintro e wx1 ⟨rfl, hb⟩
 clear x0 x1 x2 x3 x4 x5 x6 x7
 have P_x := Hd (P_x.out.below hb)
 have HB := Hd (Zb HB.out hb)
 clear hb
 obtain ⟨-, x0, x1, x2, x3, x4, x5, x6, x7⟩ := P_x.out.facts
 go_wp2_with fail
 refine (H2.out wx1 _ (G_x.out.below HB.out).im).mono ?_
 rintro e wx2 ⟨rfl, hb⟩
 clear x0 x1 x2 x3 x4 x5 x6 x7
 have P_x := Hd (P_x.out.below hb)
 have HB := Hd (Zb HB.out hb)
 clear hb
 go_wp2_with fail
 go_ret
 exact ⟨rfl, HB.out⟩

theorem argand_Nought_yes {n d m f s0 s1 : Int} (C1 : SgnF 138 n d s0) (g1 : (s0 == 0) = true) (C2 : SgnF 138 m f s1) (g2 : (s1 == 0) = true) (w : World) (v_x : Value) (g_x : Zh w v_x n d m f)  :
  Calls Tryz.prog 116 #[v_x] w fun e w' => e = .returned (.bool true) /\ Below w.heap.size w w' := by
 obtain ⟨Ax1, cx1, Ax2, cx2, Ax3, cx3, Ax4, cx4, rfl, -⟩ := g_x.form
 have H1 := Hd C1
 have H2 := Hd C2
 clear C1 C2
 have G_x := Hd g_x
 clear g_x
 go_enter Tryz.func116, Tryz.ntmps116
 go_upto_region 1 with fail
 refine Y7 (P := fun W => Code.wp _ _ _ _ W) fun W p0 b0 => ?_
 have P_x := Hd (ZF.mk p0)
 have HB := Hd b0
 clear b0 p0
 obtain ⟨-, x0, x1, x2, x3, x4, x5, x6, x7⟩ := P_x.out.facts
 go_wp2_with fail
 refine (H1.out W _ (G_x.out.below HB.out).re).mono ?_
 rintro e wx1 ⟨rfl, hb⟩
 clear x0 x1 x2 x3 x4 x5 x6 x7
 have P_x := Hd (P_x.out.below hb)
 have HB := Hd (Zb HB.out hb)
 clear hb
 obtain ⟨-, x0, x1, x2, x3, x4, x5, x6, x7⟩ := P_x.out.facts
 go_wp2_with fail
 refine (H2.out wx1 _ (G_x.out.below HB.out).im).mono ?_
 rintro e wx2 ⟨rfl, hb⟩
 clear x0 x1 x2 x3 x4 x5 x6 x7
 have P_x := Hd (P_x.out.below hb)
 have HB := Hd (Zb HB.out hb)
 clear hb
 go_wp2_with fail
 go_ret
 exact ⟨rfl, HB.out⟩

theorem answered_fits {n d m f : Int} {base : Nat} (C1 : AnsG 204 n d m f 0) (w : World) (v_x : Value) (g_x : Zh w v_x n d m f) (hbw : base <= w.heap.size) (o_x : Zt w base v_x n d m f) :
  Calls Tryz.prog 125 #[v_x] w (ZC base w n d m f 0) := by
 obtain ⟨Ax1, cx1, Ax2, cx2, Ax3, cx3, Ax4, cx4, rfl, -⟩ := g_x.form
 have l1 : (Za n.natAbs).length <= 9223372036854775807 := by have := g_x.raws.1.cap; have := g_x.raws.1.most; omega
 have l2 : (Za d.natAbs).length <= 9223372036854775807 := by have := g_x.raws.2.1.cap; have := g_x.raws.2.1.most; omega
 have l3 : (Za m.natAbs).length <= 9223372036854775807 := by have := g_x.raws.2.2.1.cap; have := g_x.raws.2.2.1.most; omega
 have l4 : (Za f.natAbs).length <= 9223372036854775807 := by have := g_x.raws.2.2.2.cap; have := g_x.raws.2.2.2.most; omega
 have HL := Hd (And.intro l1 (And.intro l2 (And.intro l3 l4)))
 have OX := Hd o_x
 have _ := hbw
 clear l1 l2 l3 l4 o_x
 have H1 := Hd C1
 clear C1
 have G_x := Hd g_x
 clear g_x
 go_enter Tryz.func125, Tryz.ntmps125
 go_upto_region 1 with fail
 refine XG (P := fun W => Code.wp _ _ _ _ W) fun W p0 p1 b0 => ?_
 have P_x := Hd (ZF.mk p0)
 have PR := Hd (ZF.mk p1)
 have HB := Hd b0
 clear b0 p0 p1
 have OX := Hd (OX.out.below HB.out)
 obtain ⟨-, x0, x1, x2, x3, x4, x5, x6, x7⟩ := P_x.out.facts
 go_wp2_with fail
 refine (H1.out W _ _ Ax1 Ax2 Ax3 Ax4 cx1 cx2 cx3 cx4 rfl rfl HL.out.1 HL.out.2.1 HL.out.2.2.1 HL.out.2.2.2).mono ?_
 rintro e wx1 ⟨rfl, hb⟩
 have hb := ((Below.refl W.heap.size W).alloc (Nat.le_refl _) (.cells #[.bool (decide (n < 0)), .slice Ax1 (Za n.natAbs).length cx1, .bool (decide (d < 0)), .slice Ax2 (Za d.natAbs).length cx2, .bool (decide (m < 0)), .slice Ax3 (Za m.natAbs).length cx3, .bool (decide (f < 0)), .slice Ax4 (Za f.natAbs).length cx4] 28)).trans (hb.mono (by omega))
 clear x0 x1 x2 x3 x4 x5 x6 x7
 have P_x := Hd (P_x.out.below hb)
 have PR := Hd (PR.out.below hb)
 have OX := Hd (OX.out.below hb)
 have HB := Hd (Zb HB.out hb)
 clear hb
 obtain ⟨-, x0, x1, x2, x3, x4, x5, x6, x7⟩ := P_x.out.facts
 obtain ⟨l_r, r0, r1, r2, r3, r4, r5, r6, r7⟩ := PR.out.facts
 obtain ⟨f0, f1, f2, f3, f4, f5, f6, f7⟩ := PR.out.free
 have HQ := Hd (PR.out.store (.bool (decide (n < 0))) (.slice Ax1 (Za n.natAbs).length cx1) (.bool (decide (d < 0))) (.slice Ax2 (Za d.natAbs).length cx2) (.bool (decide (m < 0))) (.slice Ax3 (Za m.natAbs).length cx3) (.bool (decide (f < 0))) (.slice Ax4 (Za f.natAbs).length cx4))
 have HB9 := Hd (below8 HB.out (show w.heap.size <= w.heap.size + 1 by omega) (.bool (decide (n < 0))) (.slice Ax1 (Za n.natAbs).length cx1) (.bool (decide (d < 0))) (.slice Ax2 (Za d.natAbs).length cx2) (.bool (decide (m < 0))) (.slice Ax3 (Za m.natAbs).length cx3) (.bool (decide (f < 0))) (.slice Ax4 (Za f.natAbs).length cx4))
 have HF := Hd (OX.out.oct PR.out (by decide) (.bool (decide (n < 0))) (.slice Ax1 (Za n.natAbs).length cx1) (.bool (decide (d < 0))) (.slice Ax2 (Za d.natAbs).length cx2) (.bool (decide (m < 0))) (.slice Ax3 (Za m.natAbs).length cx3) (.bool (decide (f < 0))) (.slice Ax4 (Za f.natAbs).length cx4))
 go_wp2_with fail
 obtain ⟨_, k0, k1, k2, k3, k4, k5, k6, k7⟩ := HQ.out.facts
 exact bodyPost_ret (by simp [results, Tryz.results125, go_sem, k0, k1, k2, k3, k4, k5, k6, k7]) rfl ⟨_, rfl, HF.out, HB9.out⟩

theorem answered_long {n d m f : Int} {base : Nat} (C1 : AnsG 204 n d m f 4) (w : World) (v_x : Value) (g_x : Zh w v_x n d m f) (hbw : base <= w.heap.size) (o_x : Zt w base v_x n d m f) :
  Calls Tryz.prog 125 #[v_x] w (ZC base w 0 0 0 0 4) := by
 obtain ⟨Ax1, cx1, Ax2, cx2, Ax3, cx3, Ax4, cx4, rfl, -⟩ := g_x.form
 have l1 : (Za n.natAbs).length <= 9223372036854775807 := by have := g_x.raws.1.cap; have := g_x.raws.1.most; omega
 have l2 : (Za d.natAbs).length <= 9223372036854775807 := by have := g_x.raws.2.1.cap; have := g_x.raws.2.1.most; omega
 have l3 : (Za m.natAbs).length <= 9223372036854775807 := by have := g_x.raws.2.2.1.cap; have := g_x.raws.2.2.1.most; omega
 have l4 : (Za f.natAbs).length <= 9223372036854775807 := by have := g_x.raws.2.2.2.cap; have := g_x.raws.2.2.2.most; omega
 have HL := Hd (And.intro l1 (And.intro l2 (And.intro l3 l4)))
 have OX := Hd o_x
 have _ := hbw
 clear l1 l2 l3 l4 o_x
 have H1 := Hd C1
 clear C1
 have G_x := Hd g_x
 clear g_x
 go_enter Tryz.func125, Tryz.ntmps125
 go_upto_region 1 with fail
 refine XG (P := fun W => Code.wp _ _ _ _ W) fun W p0 p1 b0 => ?_
 have P_x := Hd (ZF.mk p0)
 have PR := Hd (ZF.mk p1)
 have HB := Hd b0
 clear b0 p0 p1
 have OX := Hd (OX.out.below HB.out)
 obtain ⟨-, x0, x1, x2, x3, x4, x5, x6, x7⟩ := P_x.out.facts
 go_wp2_with fail
 refine (H1.out W _ _ Ax1 Ax2 Ax3 Ax4 cx1 cx2 cx3 cx4 rfl rfl HL.out.1 HL.out.2.1 HL.out.2.2.1 HL.out.2.2.2).mono ?_
 rintro e wx1 ⟨rfl, hb⟩
 have hb := ((Below.refl W.heap.size W).alloc (Nat.le_refl _) (.cells #[.bool (decide (n < 0)), .slice Ax1 (Za n.natAbs).length cx1, .bool (decide (d < 0)), .slice Ax2 (Za d.natAbs).length cx2, .bool (decide (m < 0)), .slice Ax3 (Za m.natAbs).length cx3, .bool (decide (f < 0)), .slice Ax4 (Za f.natAbs).length cx4] 28)).trans (hb.mono (by omega))
 clear x0 x1 x2 x3 x4 x5 x6 x7
 have P_x := Hd (P_x.out.below hb)
 have PR := Hd (PR.out.below hb)
 have OX := Hd (OX.out.below hb)
 have HB := Hd (Zb HB.out hb)
 clear hb
 obtain ⟨l_r, r0, r1, r2, r3, r4, r5, r6, r7⟩ := PR.out.facts
 obtain ⟨f0, f1, f2, f3, f4, f5, f6, f7⟩ := PR.out.free
 have HQ := Hd (gzero PR.out HB.out (show w.heap.size <= w.heap.size + 1 by omega))
 go_wp2_with fail
 obtain ⟨_, k0, k1, k2, k3, k4, k5, k6, k7⟩ := HQ.out.1.facts
 exact bodyPost_ret (by simp [results, Tryz.results125, go_sem, k0, k1, k2, k3, k4, k5, k6, k7]) rfl ⟨_, rfl, Zt.nought _ _, HQ.out.2⟩

theorem allocGauss {o : Oper} (h : o.op = .alloc 28) : AllocF Tryz.prog o 28 8 := by
 refine ⟨#[.bool false, .slice none 0 0, .bool false, .slice none 0 0, .bool false, .slice none 0 0, .bool false, .slice none 0 0], rfl, fun ρ w => ?_⟩
 unfold execOp
 rw [h]
 kernel_rfl

theorem ref03_Plus {n d m f p q r s N D M E : Int} (C1 : OpI 193 n d p q N D) (C2 : OpI 193 m f r s M E) (w : World) (v_x v_y : Value) (g_x : Zh w v_x n d m f) (g_y : Zh w v_y p q r s)  :
   Calls Tryz.prog 108 #[v_x, v_y] w (Y9 w N D M E) := by
 obtain ⟨Ax1, cx1, Ax2, cx2, Ax3, cx3, Ax4, cx4, rfl, -⟩ := g_x.form
 obtain ⟨Ay1, cy1, Ay2, cy2, Ay3, cy3, Ay4, cy4, rfl, -⟩ := g_y.form
 have H1 := Hd C1
 have H2 := Hd C2
 clear C1 C2
 have G_x := Hd g_x
 have G_y := Hd g_y
 clear g_x g_y
 go_enter Tryz.func108, Tryz.ntmps108
 go_upto_region 1 with fail
 refine Z0 (P := fun W => Code.wp _ _ _ _ W) fun W p0 p1 p2 b0 => ?_
 have P_x := Hd (ZF.mk p0)
 have P_y := Hd (ZF.mk p1)
 have PR := Hd (ZF.mk p2)
 have HB := Hd b0
 clear b0 p0 p1 p2
 have hsz := PR.out.blk.lt
 go_wp2_with fail
 refine Zc [.val (.pointer (some ⟨w.heap.size, 0, none⟩)) [], .val (.agg #[.bool (decide (n < 0)), .slice Ax1 (Za n.natAbs).length cx1, .bool (decide (d < 0)), .slice Ax2 (Za d.natAbs).length cx2]) [], .val (.pointer (some ⟨w.heap.size + 1, 0, none⟩)) [], .val (.agg #[.bool (decide (p < 0)), .slice Ay1 (Za p.natAbs).length cy1, .bool (decide (q < 0)), .slice Ay2 (Za q.natAbs).length cy2]) [], .any false (fun u V => ZH V 0 u N D) [], .val (.pointer (some ⟨w.heap.size, 4, none⟩)) [], .val (.agg #[.bool (decide (m < 0)), .slice Ax3 (Za m.natAbs).length cx3, .bool (decide (f < 0)), .slice Ax4 (Za f.natAbs).length cx4]) [], .val (.pointer (some ⟨w.heap.size + 1, 4, none⟩)) [], .val (.agg #[.bool (decide (r < 0)), .slice Ay3 (Za r.natAbs).length cy3, .bool (decide (s < 0)), .slice Ay4 (Za s.natAbs).length cy4]) [], .any false (fun u V => ZH V 0 u M E) [], .any false (fun u V => ZU V u N D M E) [4, 9], .old (w.heap.size + 1 + 1) 28 #[.bool false, .slice none 0 0, .bool false, .slice none 0 0, .bool false, .slice none 0 0, .bool false, .slice none 0 0] 0 8 10 []] (w.heap.size + 1 + 1) W [28] (fun _ _ => False) _ Zd (by omega) (Below.refl _ _) (Zr.refl _ _ _) rfl ?_ ?_ ?_ ?_ ?_ ?_ ?_ ?_ rfl (by simp [ZI]) ?_ ?_ ?_ ?_
 iterate 8 kernel_rfl
 . simp only [Zq, and_true]
   exact ⟨fun u V V' h k => h.kept k (by decide), fun u V V' h k => h.kept k (by decide), fun u V V' h k => h.kept k (by decide)⟩
 . simp only [ZK, and_true]
   exact ⟨Nat.le_refl _, PR.out.blk.lt, PR.out.blk, by simp⟩
 . simp (maxSteps := 4000000) [Zv, Z6, Ze, Zs, Zg]
   repeat' (first | apply And.intro | (intro (u : Value)) | (intro (u : Nat)))
   all_goals try exact ⟨_, _, _, rfl, rfl, rfl, rfl, YD⟩
   all_goals first
   | (intro V hV hK
      have qx : ZF V (w.heap.size) _ _ _ _ _ _ _ _ _ := ⟨P_x.out.blk.below hV (by omega)⟩
      obtain ⟨-, x0, x1, x2, x3, x4, x5, x6, x7⟩ := qx.facts
      have qy : ZF V (w.heap.size + 1) _ _ _ _ _ _ _ _ _ := ⟨P_y.out.blk.below hV (by omega)⟩
      obtain ⟨-, y0, y1, y2, y3, y4, y5, y6, y7⟩ := qy.facts
      have hvb := HB.out.trans (hV.mono (by omega))
      have hvs := hvb.size
      have g_x := Hd (G_x.out.below hvb)
      have g_y := Hd (G_y.out.below hvb)
      clear hV hK qx qy
      go_simp
      first
      | exact Below.refl _ _
      | ((with_reducible refine (H1.out V _ _ g_x.out.re g_y.out.re).mono ?_); rintro _ _ ⟨_, rfl, x⟩; exact x)
      | ((with_reducible refine (H2.out V _ _ g_x.out.im g_y.out.im).mono ?_); rintro _ _ ⟨_, rfl, x⟩; exact x))
   | (intro V hV hK h1 h2
      obtain ⟨A1, c1, B1, e1, rfl, -, -⟩ := h1.form
      obtain ⟨A2, c2, B2, e2, rfl, -, -⟩ := h2.form
      clear hV hK
      go_simp
      exact ⟨⟨_, _, _, _, _, _, _, _, rfl, h1, h2⟩, Below.refl _ _⟩)
   | exact fun _ _ _ (h : ZU _ _ _ _ _ _) => h.cells
 . simp [Z8, Zx, Ze, Zs, Zg]
   intro u1 u2 u3 V hV hK h1 h2 h3 bq _ _ _
   have HF := Hd h3
   obtain ⟨A6, c6, A7, c7, A8, c8, A9, c9, rfl, -⟩ := h3.form
   simp [ZT, Value.cells] at bq
   have k0 := bq.cell 0
   have k1 := bq.cell 1
   have k2 := bq.cell 2
   have k3 := bq.cell 3
   have k4 := bq.cell 4
   have k5 := bq.cell 5
   have k6 := bq.cell 6
   have k7 := bq.cell 7
   simp at k0 k1 k2 k3 k4 k5 k6 k7
   have HB9 := Hd (HB.out.trans (hV.mono (by omega)))
   clear h1 h2 h3 hV hK bq
   go_wp2_with fail
   exact bodyPost_ret (by simp [results, Tryz.results108, go_sem, k0, k1, k2, k3, k4, k5, k6, k7]) rfl ⟨_, rfl, HF.out, HB9.out⟩

theorem ref03_Minus {n d m f p q r s N D M E : Int} (C1 : OpI 194 n d p q N D) (C2 : OpI 194 m f r s M E) (w : World) (v_x v_y : Value) (g_x : Zh w v_x n d m f) (g_y : Zh w v_y p q r s)  :
   Calls Tryz.prog 109 #[v_x, v_y] w (Y9 w N D M E) := by
 obtain ⟨Ax1, cx1, Ax2, cx2, Ax3, cx3, Ax4, cx4, rfl, -⟩ := g_x.form
 obtain ⟨Ay1, cy1, Ay2, cy2, Ay3, cy3, Ay4, cy4, rfl, -⟩ := g_y.form
 have H1 := Hd C1
 have H2 := Hd C2
 clear C1 C2
 have G_x := Hd g_x
 have G_y := Hd g_y
 clear g_x g_y
 go_enter Tryz.func109, Tryz.ntmps109
 go_upto_region 1 with fail
 refine Z0 (P := fun W => Code.wp _ _ _ _ W) fun W p0 p1 p2 b0 => ?_
 have P_x := Hd (ZF.mk p0)
 have P_y := Hd (ZF.mk p1)
 have PR := Hd (ZF.mk p2)
 have HB := Hd b0
 clear b0 p0 p1 p2
 have hsz := PR.out.blk.lt
 go_wp2_with fail
 refine Zc [.val (.pointer (some ⟨w.heap.size, 0, none⟩)) [], .val (.agg #[.bool (decide (n < 0)), .slice Ax1 (Za n.natAbs).length cx1, .bool (decide (d < 0)), .slice Ax2 (Za d.natAbs).length cx2]) [], .val (.pointer (some ⟨w.heap.size + 1, 0, none⟩)) [], .val (.agg #[.bool (decide (p < 0)), .slice Ay1 (Za p.natAbs).length cy1, .bool (decide (q < 0)), .slice Ay2 (Za q.natAbs).length cy2]) [], .any false (fun u V => ZH V 0 u N D) [], .val (.pointer (some ⟨w.heap.size, 4, none⟩)) [], .val (.agg #[.bool (decide (m < 0)), .slice Ax3 (Za m.natAbs).length cx3, .bool (decide (f < 0)), .slice Ax4 (Za f.natAbs).length cx4]) [], .val (.pointer (some ⟨w.heap.size + 1, 4, none⟩)) [], .val (.agg #[.bool (decide (r < 0)), .slice Ay3 (Za r.natAbs).length cy3, .bool (decide (s < 0)), .slice Ay4 (Za s.natAbs).length cy4]) [], .any false (fun u V => ZH V 0 u M E) [], .any false (fun u V => ZU V u N D M E) [4, 9], .old (w.heap.size + 1 + 1) 28 #[.bool false, .slice none 0 0, .bool false, .slice none 0 0, .bool false, .slice none 0 0, .bool false, .slice none 0 0] 0 8 10 []] (w.heap.size + 1 + 1) W [28] (fun _ _ => False) _ Zd (by omega) (Below.refl _ _) (Zr.refl _ _ _) rfl ?_ ?_ ?_ ?_ ?_ ?_ ?_ ?_ rfl (by simp [ZI]) ?_ ?_ ?_ ?_
 iterate 8 kernel_rfl
 . simp only [Zq, and_true]
   exact ⟨fun u V V' h k => h.kept k (by decide), fun u V V' h k => h.kept k (by decide), fun u V V' h k => h.kept k (by decide)⟩
 . simp only [ZK, and_true]
   exact ⟨Nat.le_refl _, PR.out.blk.lt, PR.out.blk, by simp⟩
 . simp (maxSteps := 4000000) [Zv, Z6, Ze, Zs, Zg]
   repeat' (first | apply And.intro | (intro (u : Value)) | (intro (u : Nat)))
   all_goals try exact ⟨_, _, _, rfl, rfl, rfl, rfl, YD⟩
   all_goals first
   | (intro V hV hK
      have qx : ZF V (w.heap.size) _ _ _ _ _ _ _ _ _ := ⟨P_x.out.blk.below hV (by omega)⟩
      obtain ⟨-, x0, x1, x2, x3, x4, x5, x6, x7⟩ := qx.facts
      have qy : ZF V (w.heap.size + 1) _ _ _ _ _ _ _ _ _ := ⟨P_y.out.blk.below hV (by omega)⟩
      obtain ⟨-, y0, y1, y2, y3, y4, y5, y6, y7⟩ := qy.facts
      have hvb := HB.out.trans (hV.mono (by omega))
      have hvs := hvb.size
      have g_x := Hd (G_x.out.below hvb)
      have g_y := Hd (G_y.out.below hvb)
      clear hV hK qx qy
      go_simp
      first
      | exact Below.refl _ _
      | ((with_reducible refine (H1.out V _ _ g_x.out.re g_y.out.re).mono ?_); rintro _ _ ⟨_, rfl, x⟩; exact x)
      | ((with_reducible refine (H2.out V _ _ g_x.out.im g_y.out.im).mono ?_); rintro _ _ ⟨_, rfl, x⟩; exact x))
   | (intro V hV hK h1 h2
      obtain ⟨A1, c1, B1, e1, rfl, -, -⟩ := h1.form
      obtain ⟨A2, c2, B2, e2, rfl, -, -⟩ := h2.form
      clear hV hK
      go_simp
      exact ⟨⟨_, _, _, _, _, _, _, _, rfl, h1, h2⟩, Below.refl _ _⟩)
   | exact fun _ _ _ (h : ZU _ _ _ _ _ _) => h.cells
 . simp [Z8, Zx, Ze, Zs, Zg]
   intro u1 u2 u3 V hV hK h1 h2 h3 bq _ _ _
   have HF := Hd h3
   obtain ⟨A6, c6, A7, c7, A8, c8, A9, c9, rfl, -⟩ := h3.form
   simp [ZT, Value.cells] at bq
   have k0 := bq.cell 0
   have k1 := bq.cell 1
   have k2 := bq.cell 2
   have k3 := bq.cell 3
   have k4 := bq.cell 4
   have k5 := bq.cell 5
   have k6 := bq.cell 6
   have k7 := bq.cell 7
   simp at k0 k1 k2 k3 k4 k5 k6 k7
   have HB9 := Hd (HB.out.trans (hV.mono (by omega)))
   clear h1 h2 h3 hV hK bq
   go_wp2_with fail
   exact bodyPost_ret (by simp [results, Tryz.results109, go_sem, k0, k1, k2, k3, k4, k5, k6, k7]) rfl ⟨_, rfl, HF.out, HB9.out⟩

theorem ref03_Norm {n d m f p1 p2 q1 q2 N D : Int} (C1 : OpI 195 n d n d p1 p2) (C2 : OpI 195 m f m f q1 q2) (C3 : OpI 193 p1 p2 q1 q2 N D) (w : World) (v_x : Value) (g_x : Zh w v_x n d m f)  :
   Calls Tryz.prog 128 #[v_x] w (YJ w N D) := by
 obtain ⟨Ax1, cx1, Ax2, cx2, Ax3, cx3, Ax4, cx4, rfl, -⟩ := g_x.form
 have H1 := Hd C1
 have H2 := Hd C2
 have H3 := Hd C3
 clear C1 C2 C3
 have G_x := Hd g_x
 clear g_x
 go_enter Tryz.func128, Tryz.ntmps128
 go_upto_region 1 with fail
 refine XG (P := fun W => Code.wp _ _ _ _ W) fun W p0 p1 b0 => ?_
 have P_x := Hd (ZF.mk p0)
 have PR := Hd (ZB.mk p1)
 have HB := Hd b0
 clear b0 p0 p1
 have hsz := PR.out.blk.lt
 go_wp2_with fail
 refine Zc [.val (.pointer (some ⟨w.heap.size, 0, none⟩)) [], .val (.agg #[.bool (decide (n < 0)), .slice Ax1 (Za n.natAbs).length cx1, .bool (decide (d < 0)), .slice Ax2 (Za d.natAbs).length cx2]) [], .val (.pointer (some ⟨w.heap.size, 0, none⟩)) [], .val (.agg #[.bool (decide (n < 0)), .slice Ax1 (Za n.natAbs).length cx1, .bool (decide (d < 0)), .slice Ax2 (Za d.natAbs).length cx2]) [], .any false (fun u V => ZH V 0 u p1 p2) [], .val (.pointer (some ⟨w.heap.size, 4, none⟩)) [], .val (.agg #[.bool (decide (m < 0)), .slice Ax3 (Za m.natAbs).length cx3, .bool (decide (f < 0)), .slice Ax4 (Za f.natAbs).length cx4]) [], .val (.pointer (some ⟨w.heap.size, 4, none⟩)) [], .val (.agg #[.bool (decide (m < 0)), .slice Ax3 (Za m.natAbs).length cx3, .bool (decide (f < 0)), .slice Ax4 (Za f.natAbs).length cx4]) [], .any false (fun u V => ZH V 0 u q1 q2) [], .any false (fun u V => ZH V 0 u N D) [4, 9], .old (w.heap.size + 1) 26 #[.bool false, .slice none 0 0, .bool false, .slice none 0 0] 0 4 10 []] (w.heap.size + 1) W [26] (fun _ _ => False) _ Zd (by omega) (Below.refl _ _) (Zr.refl _ _ _) rfl ?_ ?_ ?_ ?_ ?_ ?_ ?_ ?_ rfl (by simp [ZI]) ?_ ?_ ?_ ?_
 iterate 8 kernel_rfl
 . simp only [Zq, and_true]
   exact ⟨fun u V V' h k => h.kept k (by decide), fun u V V' h k => h.kept k (by decide), fun u V V' h k => h.kept k (by decide)⟩
 . simp only [ZK, and_true]
   exact ⟨Nat.le_refl _, PR.out.blk.lt, PR.out.blk, by simp⟩
 . simp (maxSteps := 4000000) [Zv, Z6, Ze, Zs, Zg]
   repeat' (first | apply And.intro | (intro (u : Value)) | (intro (u : Nat)))
   all_goals try exact ⟨_, _, _, rfl, rfl, rfl, rfl, Yq⟩
   all_goals first
   | (intro V hV hK
      have qx : ZF V (w.heap.size) _ _ _ _ _ _ _ _ _ := ⟨P_x.out.blk.below hV (by omega)⟩
      obtain ⟨-, x0, x1, x2, x3, x4, x5, x6, x7⟩ := qx.facts
      have hvb := HB.out.trans (hV.mono (by omega))
      have hvs := hvb.size
      have g_x := Hd (G_x.out.below hvb)
      clear hV hK qx
      go_simp
      first
      | exact Below.refl _ _
      | ((with_reducible refine (H1.out V _ _ g_x.out.re g_x.out.re).mono ?_); rintro _ _ ⟨_, rfl, x⟩; exact x)
      | ((with_reducible refine (H2.out V _ _ g_x.out.im g_x.out.im).mono ?_); rintro _ _ ⟨_, rfl, x⟩; exact x))
   | (intro V hV hK h1 h2
      have qx : ZF V (w.heap.size) _ _ _ _ _ _ _ _ _ := ⟨P_x.out.blk.below hV (by omega)⟩
      obtain ⟨-, x0, x1, x2, x3, x4, x5, x6, x7⟩ := qx.facts
      have hvb := HB.out.trans (hV.mono (by omega))
      have hvs := hvb.size
      have g_x := Hd (G_x.out.below hvb)
      clear hV hK qx
      go_simp
      ((with_reducible refine (H3.out V _ _ h1.at_ h2.at_).mono ?_); rintro _ _ ⟨_, rfl, x⟩; exact x))
   | exact fun _ _ _ (h : ZH _ _ _ _ _) => h.cells
 . simp [Z8, Zx, Ze, Zs, Zg]
   intro u1 u2 u3 V hV hK h1 h2 h3 bq _ _ _
   have HF := Hd h3
   obtain ⟨A6, c6, A7, c7, rfl, -⟩ := h3.form
   simp [ZT, Value.cells] at bq
   have k0 := bq.cell 0
   have k1 := bq.cell 1
   have k2 := bq.cell 2
   have k3 := bq.cell 3
   simp at k0 k1 k2 k3
   have HB9 := Hd (HB.out.trans (hV.mono (by omega)))
   clear h1 h2 h3 hV hK bq
   go_wp2_with fail
   exact bodyPost_ret (by simp [results, Tryz.results128, go_sem, k0, k1, k2, k3]) rfl ⟨_, rfl, HF.out, HB9.out⟩

theorem ref03_Conj {n d m f N D M E : Int} (C1 : OpI0 205 0 1) (C2 : OpI 193 n d 0 1 N D) (C3 : OpI 194 0 1 m f M E) (w : World) (v_x : Value) (g_x : Zh w v_x n d m f)  :
   Calls Tryz.prog 127 #[v_x] w (Y9 w N D M E) := by
 obtain ⟨Ax1, cx1, Ax2, cx2, Ax3, cx3, Ax4, cx4, rfl, -⟩ := g_x.form
 have H1 := Hd C1
 have H2 := Hd C2
 have H3 := Hd C3
 clear C1 C2 C3
 have G_x := Hd g_x
 clear g_x
 go_enter Tryz.func127, Tryz.ntmps127
 go_upto_region 1 with fail
 refine XG (P := fun W => Code.wp _ _ _ _ W) fun W p0 p1 b0 => ?_
 have P_x := Hd (ZF.mk p0)
 have PR := Hd (ZF.mk p1)
 have HB := Hd b0
 clear b0 p0 p1
 have hsz := PR.out.blk.lt
 go_wp2_with fail
 refine Zc [.val (.pointer (some ⟨w.heap.size, 0, none⟩)) [], .val (.agg #[.bool (decide (n < 0)), .slice Ax1 (Za n.natAbs).length cx1, .bool (decide (d < 0)), .slice Ax2 (Za d.natAbs).length cx2]) [], .any false (fun u V => ZH V 0 u 0 1) [], .any false (fun u V => ZH V 0 u N D) [2], .any false (fun u V => ZH V 0 u 0 1) [], .val (.pointer (some ⟨w.heap.size, 4, none⟩)) [], .val (.agg #[.bool (decide (m < 0)), .slice Ax3 (Za m.natAbs).length cx3, .bool (decide (f < 0)), .slice Ax4 (Za f.natAbs).length cx4]) [], .any false (fun u V => ZH V 0 u M E) [4], .any false (fun u V => ZU V u N D M E) [3, 7], .old (w.heap.size + 1) 28 #[.bool false, .slice none 0 0, .bool false, .slice none 0 0, .bool false, .slice none 0 0, .bool false, .slice none 0 0] 0 8 8 []] (w.heap.size + 1) W [28] (fun _ _ => False) _ Zd (by omega) (Below.refl _ _) (Zr.refl _ _ _) rfl ?_ ?_ ?_ ?_ ?_ ?_ ?_ ?_ rfl (by simp [ZI]) ?_ ?_ ?_ ?_
 iterate 8 kernel_rfl
 . simp only [Zq, and_true]
   exact ⟨fun u V V' h k => h.kept k (by decide), fun u V V' h k => h.kept k (by decide), fun u V V' h k => h.kept k (by decide), fun u V V' h k => h.kept k (by decide), fun u V V' h k => h.kept k (by decide)⟩
 . simp only [ZK, and_true]
   exact ⟨Nat.le_refl _, PR.out.blk.lt, PR.out.blk, by simp⟩
 . simp (maxSteps := 4000000) [Zv, Z6, Ze, Zs, Zg]
   repeat' (first | apply And.intro | (intro (u : Value)) | (intro (u : Nat)))
   all_goals try exact ⟨_, _, _, rfl, rfl, rfl, rfl, YD⟩
   all_goals first
   | (intro V hV hK
      have qx : ZF V (w.heap.size) _ _ _ _ _ _ _ _ _ := ⟨P_x.out.blk.below hV (by omega)⟩
      obtain ⟨-, x0, x1, x2, x3, x4, x5, x6, x7⟩ := qx.facts
      have hvb := HB.out.trans (hV.mono (by omega))
      have hvs := hvb.size
      have g_x := Hd (G_x.out.below hvb)
      clear hV hK qx
      go_simp
      first
      | exact Below.refl _ _
      | ((with_reducible refine (H1.out V ).mono ?_); rintro _ _ ⟨_, rfl, x⟩; exact x)
      | ((with_reducible refine (H1.out V ).mono ?_); rintro _ _ ⟨_, rfl, x⟩; exact x))
   | (intro V hV hK h1
      have qx : ZF V (w.heap.size) _ _ _ _ _ _ _ _ _ := ⟨P_x.out.blk.below hV (by omega)⟩
      obtain ⟨-, x0, x1, x2, x3, x4, x5, x6, x7⟩ := qx.facts
      have hvb := HB.out.trans (hV.mono (by omega))
      have hvs := hvb.size
      have g_x := Hd (G_x.out.below hvb)
      clear hV hK qx
      go_simp
      ((with_reducible refine (H2.out V _ _ g_x.out.re h1.at_).mono ?_); rintro _ _ ⟨_, rfl, x⟩; exact x))
   | (intro V hV hK h1
      have qx : ZF V (w.heap.size) _ _ _ _ _ _ _ _ _ := ⟨P_x.out.blk.below hV (by omega)⟩
      obtain ⟨-, x0, x1, x2, x3, x4, x5, x6, x7⟩ := qx.facts
      have hvb := HB.out.trans (hV.mono (by omega))
      have hvs := hvb.size
      have g_x := Hd (G_x.out.below hvb)
      clear hV hK qx
      go_simp
      ((with_reducible refine (H3.out V _ _ h1.at_ g_x.out.im).mono ?_); rintro _ _ ⟨_, rfl, x⟩; exact x))
   | (intro V hV hK h1 h2
      obtain ⟨A1, c1, B1, e1, rfl, -, -⟩ := h1.form
      obtain ⟨A2, c2, B2, e2, rfl, -, -⟩ := h2.form
      clear hV hK
      go_simp
      exact ⟨⟨_, _, _, _, _, _, _, _, rfl, h1, h2⟩, Below.refl _ _⟩)
   | exact fun _ _ _ (h : ZU _ _ _ _ _ _) => h.cells
 . simp [Z8, Zx, Ze, Zs, Zg]
   intro u1 u2 u3 u4 u5 V hV hK h1 h2 h3 h4 h5 bq _ _ _
   have HF := Hd h5
   obtain ⟨A6, c6, A7, c7, A8, c8, A9, c9, rfl, -⟩ := h5.form
   simp [ZT, Value.cells] at bq
   have k0 := bq.cell 0
   have k1 := bq.cell 1
   have k2 := bq.cell 2
   have k3 := bq.cell 3
   have k4 := bq.cell 4
   have k5 := bq.cell 5
   have k6 := bq.cell 6
   have k7 := bq.cell 7
   simp at k0 k1 k2 k3 k4 k5 k6 k7
   have HB9 := Hd (HB.out.trans (hV.mono (by omega)))
   clear h1 h2 h3 h4 h5 hV hK bq
   go_wp2_with fail
   exact bodyPost_ret (by simp [results, Tryz.results127, go_sem, k0, k1, k2, k3, k4, k5, k6, k7]) rfl ⟨_, rfl, HF.out, HB9.out⟩

theorem ref03_Times {n d m f p q r s p1 p2 q1 q2 a1 a2 b1 b2 N D M E : Int} (C1 : OpI 195 n d p q p1 p2) (C2 : OpI 195 m f r s q1 q2) (C3 : OpI 194 p1 p2 q1 q2 N D) (C4 : OpI 195 n d r s a1 a2) (C5 : OpI 195 m f p q b1 b2) (C6 : OpI 193 a1 a2 b1 b2 M E) (w : World) (v_x v_y : Value) (g_x : Zh w v_x n d m f) (g_y : Zh w v_y p q r s)  :
   Calls Tryz.prog 110 #[v_x, v_y] w (Y9 w N D M E) := by
 obtain ⟨Ax1, cx1, Ax2, cx2, Ax3, cx3, Ax4, cx4, rfl, -⟩ := g_x.form
 obtain ⟨Ay1, cy1, Ay2, cy2, Ay3, cy3, Ay4, cy4, rfl, -⟩ := g_y.form
 have H1 := Hd C1
 have H2 := Hd C2
 have H3 := Hd C3
 have H4 := Hd C4
 have H5 := Hd C5
 have H6 := Hd C6
 clear C1 C2 C3 C4 C5 C6
 have G_x := Hd g_x
 have G_y := Hd g_y
 clear g_x g_y
 go_enter Tryz.func110, Tryz.ntmps110
 go_upto_region 1 with fail
 refine Z0 (P := fun W => Code.wp _ _ _ _ W) fun W p0 p1 p2 b0 => ?_
 have P_x := Hd (ZF.mk p0)
 have P_y := Hd (ZF.mk p1)
 have PR := Hd (ZF.mk p2)
 have HB := Hd b0
 clear b0 p0 p1 p2
 go_wp2_with fail
 refine Zc [.val (.pointer (some ⟨w.heap.size, 0, none⟩)) [], .val (.agg #[.bool (decide (n < 0)), .slice Ax1 (Za n.natAbs).length cx1, .bool (decide (d < 0)), .slice Ax2 (Za d.natAbs).length cx2]) [], .val (.pointer (some ⟨w.heap.size + 1, 0, none⟩)) [], .val (.agg #[.bool (decide (p < 0)), .slice Ay1 (Za p.natAbs).length cy1, .bool (decide (q < 0)), .slice Ay2 (Za q.natAbs).length cy2]) [], .any false (fun u V => ZH V 0 u p1 p2) [], .val (.pointer (some ⟨w.heap.size, 4, none⟩)) [], .val (.agg #[.bool (decide (m < 0)), .slice Ax3 (Za m.natAbs).length cx3, .bool (decide (f < 0)), .slice Ax4 (Za f.natAbs).length cx4]) [], .val (.pointer (some ⟨w.heap.size + 1, 4, none⟩)) [], .val (.agg #[.bool (decide (r < 0)), .slice Ay3 (Za r.natAbs).length cy3, .bool (decide (s < 0)), .slice Ay4 (Za s.natAbs).length cy4]) [], .any false (fun u V => ZH V 0 u q1 q2) [], .any false (fun u V => ZH V 0 u N D) [4, 9], .new 26 4, .put 26 4 11 10 []] W.heap.size W [26] (fun _ _ => False) _ Zd (Nat.le_refl _) (Below.refl _ _) (Zr.refl _ _ _) rfl ?_ ?_ ?_ ?_ ?_ ?_ ?_ ?_ rfl (by simp [ZI]) ?_ ?_ ?_ ?_
 iterate 8 kernel_rfl
 . simp only [Zq, and_true]
   exact ⟨fun u V V' h k => h.kept k (by decide), fun u V V' h k => h.kept k (by decide), fun u V V' h k => h.kept k (by decide)⟩
 . simp only [ZK]
 . simp (maxSteps := 4000000) [Zv, Z6, Ze, Zs, Zg]
   repeat' (first | apply And.intro | (intro (u : Value)) | (intro (u : Nat)))
   all_goals try exact ⟨_, _, _, rfl, rfl, rfl, rfl, Yq⟩
   all_goals try exact allocFracG rfl
   all_goals first
   | (intro V hV hK
      have hs_x := P_x.out.blk.lt
      have hs_y := P_y.out.blk.lt
      have qx : ZF V (w.heap.size) _ _ _ _ _ _ _ _ _ := ⟨P_x.out.blk.below hV (by omega)⟩
      obtain ⟨-, x0, x1, x2, x3, x4, x5, x6, x7⟩ := qx.facts
      have qy : ZF V (w.heap.size + 1) _ _ _ _ _ _ _ _ _ := ⟨P_y.out.blk.below hV (by omega)⟩
      obtain ⟨-, y0, y1, y2, y3, y4, y5, y6, y7⟩ := qy.facts
      have hvb := HB.out.trans (hV.mono (by omega))
      have hvs := hvb.size
      have g_x := Hd (G_x.out.below hvb)
      have g_y := Hd (G_y.out.below hvb)
      clear hV hK qx qy
      go_simp
      first
      | exact Below.refl _ _
      | ((with_reducible refine (H1.out V _ _ g_x.out.re g_y.out.re).mono ?_); rintro _ _ ⟨_, rfl, x⟩; exact x)
      | ((with_reducible refine (H2.out V _ _ g_x.out.im g_y.out.im).mono ?_); rintro _ _ ⟨_, rfl, x⟩; exact x))
   | (intro V hV hK h1 h2
      have hs_x := P_x.out.blk.lt
      have hs_y := P_y.out.blk.lt
      have qx : ZF V (w.heap.size) _ _ _ _ _ _ _ _ _ := ⟨P_x.out.blk.below hV (by omega)⟩
      obtain ⟨-, x0, x1, x2, x3, x4, x5, x6, x7⟩ := qx.facts
      have qy : ZF V (w.heap.size + 1) _ _ _ _ _ _ _ _ _ := ⟨P_y.out.blk.below hV (by omega)⟩
      obtain ⟨-, y0, y1, y2, y3, y4, y5, y6, y7⟩ := qy.facts
      have hvb := HB.out.trans (hV.mono (by omega))
      have hvs := hvb.size
      have g_x := Hd (G_x.out.below hvb)
      have g_y := Hd (G_y.out.below hvb)
      clear hV hK qx qy
      go_simp
      ((with_reducible refine (H3.out V _ _ h1.at_ h2.at_).mono ?_); rintro _ _ ⟨_, rfl, x⟩; exact x))
   | exact fun _ _ _ (h : ZH _ _ _ _ _) => h.cells
   | exact fun _ _ _ (h : ZH _ _ _ _ _) _ => h.cells
 . simp [Z8, Zx, Ze, Zs, Zg]
   intro u1 u2 u3 b_re hb_re V1 hV hK h1 h2 h3 p_re _ _ _
   have N_re := Hd (show b_re ≠ w.heap.size + 1 + 1 from by have := PR.out.blk.lt; omega)
   have O_re := Hd h3
   obtain ⟨Are1, cre1, Are2, cre2, rfl, -⟩ := h3.form
   have P_re := Hd (show ZB V1 b_re _ _ _ _ from ⟨p_re⟩)
   have P_x := Hd (P_x.out.below hV)
   have P_y := Hd (P_y.out.below hV)
   have PR := Hd (PR.out.below hV)
   have HB := Hd (Zb HB.out hV)
   clear hV hK h1 h2 h3 p_re hb_re
   go_wp2_with fail
   refine Zc [.val (.pointer (some ⟨w.heap.size, 0, none⟩)) [], .val (.agg #[.bool (decide (n < 0)), .slice Ax1 (Za n.natAbs).length cx1, .bool (decide (d < 0)), .slice Ax2 (Za d.natAbs).length cx2]) [], .val (.pointer (some ⟨w.heap.size + 1, 4, none⟩)) [], .val (.agg #[.bool (decide (r < 0)), .slice Ay3 (Za r.natAbs).length cy3, .bool (decide (s < 0)), .slice Ay4 (Za s.natAbs).length cy4]) [], .any false (fun u V => ZH V 0 u a1 a2) [], .val (.pointer (some ⟨w.heap.size, 4, none⟩)) [], .val (.agg #[.bool (decide (m < 0)), .slice Ax3 (Za m.natAbs).length cx3, .bool (decide (f < 0)), .slice Ax4 (Za f.natAbs).length cx4]) [], .val (.pointer (some ⟨w.heap.size + 1, 0, none⟩)) [], .val (.agg #[.bool (decide (p < 0)), .slice Ay1 (Za p.natAbs).length cy1, .bool (decide (q < 0)), .slice Ay2 (Za q.natAbs).length cy2]) [], .any false (fun u V => ZH V 0 u b1 b2) [], .any false (fun u V => ZH V 0 u M E) [4, 9], .new 26 4, .put 26 4 11 10 []] V1.heap.size V1 [26] (fun _ _ => False) _ Zd (Nat.le_refl _) (Below.refl _ _) (Zr.refl _ _ _) rfl ?_ ?_ ?_ ?_ ?_ ?_ ?_ ?_ rfl (by simp [ZI]) ?_ ?_ ?_ ?_
   iterate 8 kernel_rfl
   . simp only [Zq, and_true]
     exact ⟨fun u V V' h k => h.kept k (by decide), fun u V V' h k => h.kept k (by decide), fun u V V' h k => h.kept k (by decide)⟩
   . simp only [ZK]
   . simp (maxSteps := 4000000) [Zv, Z6, Ze, Zs, Zg]
     repeat' (first | apply And.intro | (intro (u : Value)) | (intro (u : Nat)))
     all_goals try exact ⟨_, _, _, rfl, rfl, rfl, rfl, Yq⟩
     all_goals try exact allocFracG rfl
     all_goals first
     | (intro V hV hK
        have hs_x := P_x.out.blk.lt
        have hs_y := P_y.out.blk.lt
        have qx : ZF V (w.heap.size) _ _ _ _ _ _ _ _ _ := ⟨P_x.out.blk.below hV (by omega)⟩
        obtain ⟨-, x0, x1, x2, x3, x4, x5, x6, x7⟩ := qx.facts
        have qy : ZF V (w.heap.size + 1) _ _ _ _ _ _ _ _ _ := ⟨P_y.out.blk.below hV (by omega)⟩
        obtain ⟨-, y0, y1, y2, y3, y4, y5, y6, y7⟩ := qy.facts
        have qre := P_re.out.below hV
        obtain ⟨-, a_re0, a_re1, a_re2, a_re3, -, -, -, -⟩ := qre.facts
        have o_re := Hd (O_re.out.below hV)
        have hvb := HB.out.trans (hV.mono (by omega))
        have hvs := hvb.size
        have g_x := Hd (G_x.out.below hvb)
        have g_y := Hd (G_y.out.below hvb)
        clear hV hK qx qy qre
        go_simp
        first
        | exact Below.refl _ _
        | ((with_reducible refine (H4.out V _ _ g_x.out.re g_y.out.im).mono ?_); rintro _ _ ⟨_, rfl, x⟩; exact x)
        | ((with_reducible refine (H5.out V _ _ g_x.out.im g_y.out.re).mono ?_); rintro _ _ ⟨_, rfl, x⟩; exact x))
     | (intro V hV hK h1 h2
        have hs_x := P_x.out.blk.lt
        have hs_y := P_y.out.blk.lt
        have qx : ZF V (w.heap.size) _ _ _ _ _ _ _ _ _ := ⟨P_x.out.blk.below hV (by omega)⟩
        obtain ⟨-, x0, x1, x2, x3, x4, x5, x6, x7⟩ := qx.facts
        have qy : ZF V (w.heap.size + 1) _ _ _ _ _ _ _ _ _ := ⟨P_y.out.blk.below hV (by omega)⟩
        obtain ⟨-, y0, y1, y2, y3, y4, y5, y6, y7⟩ := qy.facts
        have qre := P_re.out.below hV
        obtain ⟨-, a_re0, a_re1, a_re2, a_re3, -, -, -, -⟩ := qre.facts
        have o_re := Hd (O_re.out.below hV)
        have hvb := HB.out.trans (hV.mono (by omega))
        have hvs := hvb.size
        have g_x := Hd (G_x.out.below hvb)
        have g_y := Hd (G_y.out.below hvb)
        clear hV hK qx qy qre
        go_simp
        ((with_reducible refine (H6.out V _ _ h1.at_ h2.at_).mono ?_); rintro _ _ ⟨_, rfl, x⟩; exact x))
     | exact fun _ _ _ (h : ZH _ _ _ _ _) => h.cells
     | exact fun _ _ _ (h : ZH _ _ _ _ _) _ => h.cells
   . simp [Z8, Zx, Ze, Zs, Zg]
     intro u1 u2 u3 b_im hb_im V2 hV hK h1 h2 h3 p_im _ _ _
     have N_im := Hd (show b_im ≠ w.heap.size + 1 + 1 from by have := PR.out.blk.lt; omega)
     have O_im := Hd h3
     obtain ⟨Aim1, cim1, Aim2, cim2, rfl, -⟩ := h3.form
     have P_im := Hd (show ZB V2 b_im _ _ _ _ from ⟨p_im⟩)
     have P_x := Hd (P_x.out.below hV)
     have P_y := Hd (P_y.out.below hV)
     have P_re := Hd (P_re.out.below hV)
     have O_re := Hd (O_re.out.below hV)
     have PR := Hd (PR.out.below hV)
     have HB := Hd (Zb HB.out hV)
     clear hV hK h1 h2 h3 p_im hb_im
     obtain ⟨-, a_re0, a_re1, a_re2, a_re3, -, -, -, -⟩ := P_re.out.facts
     obtain ⟨-, a_im0, a_im1, a_im2, a_im3, -, -, -, -⟩ := P_im.out.facts
     obtain ⟨l_r, r0, r1, r2, r3, r4, r5, r6, r7⟩ := PR.out.facts
     obtain ⟨f0, f1, f2, f3, f4, f5, f6, f7⟩ := PR.out.free
     have HQ := Hd (PR.out.store (.bool (decide (N < 0))) (.slice Are1 (Za N.natAbs).length cre1) (.bool (decide (D < 0))) (.slice Are2 (Za D.natAbs).length cre2) (.bool (decide (M < 0))) (.slice Aim1 (Za M.natAbs).length cim1) (.bool (decide (E < 0))) (.slice Aim2 (Za E.natAbs).length cim2))
     have HB9 := Hd (below8 HB.out (show w.heap.size <= w.heap.size + 1 + 1 by omega) (.bool (decide (N < 0))) (.slice Are1 (Za N.natAbs).length cre1) (.bool (decide (D < 0))) (.slice Are2 (Za D.natAbs).length cre2) (.bool (decide (M < 0))) (.slice Aim1 (Za M.natAbs).length cim1) (.bool (decide (E < 0))) (.slice Aim2 (Za E.natAbs).length cim2))
     have HF := Hd ((show ZU V2 (.agg #[.bool (decide (N < 0)), .slice Are1 (Za N.natAbs).length cre1, .bool (decide (D < 0)), .slice Are2 (Za D.natAbs).length cre2, .bool (decide (M < 0)), .slice Aim1 (Za M.natAbs).length cim1, .bool (decide (E < 0)), .slice Aim2 (Za E.natAbs).length cim2]) N D M E from ⟨_, _, _, _, _, _, _, _, rfl, O_re.out, O_im.out⟩).oct PR.out (by decide) (.bool (decide (N < 0))) (.slice Are1 (Za N.natAbs).length cre1) (.bool (decide (D < 0))) (.slice Are2 (Za D.natAbs).length cre2) (.bool (decide (M < 0))) (.slice Aim1 (Za M.natAbs).length cim1) (.bool (decide (E < 0))) (.slice Aim2 (Za E.natAbs).length cim2))
     go_wp2_with fail
     obtain ⟨_, k0, k1, k2, k3, k4, k5, k6, k7⟩ := HQ.out.facts
     exact bodyPost_ret (by simp [results, Tryz.results110, go_sem, k0, k1, k2, k3, k4, k5, k6, k7]) rfl ⟨_, rfl, HF.out, HB9.out⟩

theorem ref03_Over {n d m f p q r s n1 n2 k1 k2 k3 k4 t1 t2 t3 t4 N D M E : Int} (C1 : OpNI 128 p q r s n1 n2) (C2 : OpGI1 127 p q r s k1 k2 k3 k4) (C3 : OpGI 110 n d m f k1 k2 k3 k4 t1 t2 t3 t4) (C4 : OpI 197 t1 t2 n1 n2 N D) (C5 : OpI 197 t3 t4 n1 n2 M E) (w : World) (v_x v_y : Value) (g_x : Zh w v_x n d m f) (g_y : Zh w v_y p q r s)  :
   Calls Tryz.prog 112 #[v_x, v_y] w (Y9 w N D M E) := by
 obtain ⟨Ax1, cx1, Ax2, cx2, Ax3, cx3, Ax4, cx4, rfl, -⟩ := g_x.form
 obtain ⟨Ay1, cy1, Ay2, cy2, Ay3, cy3, Ay4, cy4, rfl, -⟩ := g_y.form
 have H1 := Hd C1
 have H2 := Hd C2
 have H3 := Hd C3
 have H4 := Hd C4
 have H5 := Hd C5
 clear C1 C2 C3 C4 C5
 have G_x := Hd g_x
 have G_y := Hd g_y
 clear g_x g_y
 go_enter Tryz.func112, Tryz.ntmps112
 go_upto_region 1 with fail
 refine Z0 (P := fun W => Code.wp _ _ _ _ W) fun W p0 p1 p2 b0 => ?_
 have P_x := Hd (ZF.mk p0)
 have P_y := Hd (ZF.mk p1)
 have PR := Hd (ZF.mk p2)
 have HB := Hd b0
 clear b0 p0 p1 p2
 obtain ⟨-, y0, y1, y2, y3, y4, y5, y6, y7⟩ := P_y.out.facts
 go_wp2_with fail
 refine (H1.out W _ (G_y.out.below HB.out)).mono ?_
 rintro e wx1 ⟨v, rfl, hI, hb⟩
 clear y0 y1 y2 y3 y4 y5 y6 y7
 have hi := hI
 obtain ⟨Ann1, cnn1, Ann2, cnn2, rfl, -⟩ := hI.form
 have ha := (Below.refl wx1.heap.size wx1).alloc (Nat.le_refl _) (.cells #[.bool (decide (n1 < 0)), .slice Ann1 (Za n1.natAbs).length cnn1, .bool (decide (n2 < 0)), .slice Ann2 (Za n2.natAbs).length cnn2] 26)
 have hq := ZB.new wx1 (.bool (decide (n1 < 0))) (.slice Ann1 (Za n1.natAbs).length cnn1) (.bool (decide (n2 < 0))) (.slice Ann2 (Za n2.natAbs).length cnn2)
 have hi := hi.below ha
 have P_x := Hd (P_x.out.below hb)
 have P_y := Hd (P_y.out.below hb)
 have PR := Hd (PR.out.below hb)
 have HB := Hd (Zb HB.out hb)
 have P_x := Hd (P_x.out.below ha)
 have P_y := Hd (P_y.out.below ha)
 have PR := Hd (PR.out.below ha)
 have HB := Hd (Zb HB.out ha)
 go_upto_region 2 with fail
 obtain ⟨wy1, E⟩ : ∃ W, W = wx1.alloc (.cells #[.bool (decide (n1 < 0)), .slice Ann1 (Za n1.natAbs).length cnn1, .bool (decide (n2 < 0)), .slice Ann2 (Za n2.natAbs).length cnn2] 26) := ⟨_, rfl⟩
 obtain ⟨b_nn, hbq⟩ : ∃ q, q = wx1.heap.size := ⟨_, rfl⟩
 rw [<- E] at hi P_x P_y PR HB
 rw [<- E, <- hbq] at hq ⊢
 have P_nn := Hd hq
 have O_nn := Hd hi
 clear hI hi hb ha hq hbq E
 go_wp2_with fail
 refine Zc [.val (.agg #[.bool (decide (n < 0)), .slice Ax1 (Za n.natAbs).length cx1, .bool (decide (d < 0)), .slice Ax2 (Za d.natAbs).length cx2, .bool (decide (m < 0)), .slice Ax3 (Za m.natAbs).length cx3, .bool (decide (f < 0)), .slice Ax4 (Za f.natAbs).length cx4]) [], .val (.agg #[.bool (decide (p < 0)), .slice Ay1 (Za p.natAbs).length cy1, .bool (decide (q < 0)), .slice Ay2 (Za q.natAbs).length cy2, .bool (decide (r < 0)), .slice Ay3 (Za r.natAbs).length cy3, .bool (decide (s < 0)), .slice Ay4 (Za s.natAbs).length cy4]) [], .any false (fun u V => ZU V u k1 k2 k3 k4) [], .any false (fun u V => ZU V u t1 t2 t3 t4) [2], .new 28 8, .put 28 8 4 3 []] wy1.heap.size wy1 [28] (fun _ _ => False) _ Zd (Nat.le_refl _) (Below.refl _ _) (Zr.refl _ _ _) rfl ?_ ?_ ?_ ?_ ?_ ?_ ?_ ?_ rfl (by simp [ZI]) ?_ ?_ ?_ ?_
 iterate 8 kernel_rfl
 . simp only [Zq, and_true]
   exact ⟨fun u V V' h k => h.kept k (by decide), fun u V V' h k => h.kept k (by decide)⟩
 . simp only [ZK]
 . simp (maxSteps := 4000000) [Zv, Z6, Ze, Zs, Zg]
   repeat' (first | apply And.intro | (intro (u : Value)) | (intro (u : Nat)))
   all_goals try exact ⟨_, _, _, rfl, rfl, rfl, rfl, YD⟩
   all_goals try exact allocGauss rfl
   all_goals first
   | (intro V hV hK
      have hs_x := P_x.out.blk.lt
      have hs_y := P_y.out.blk.lt
      have qx : ZF V (w.heap.size) _ _ _ _ _ _ _ _ _ := ⟨P_x.out.blk.below hV (by omega)⟩
      obtain ⟨-, x0, x1, x2, x3, x4, x5, x6, x7⟩ := qx.facts
      have qy : ZF V (w.heap.size + 1) _ _ _ _ _ _ _ _ _ := ⟨P_y.out.blk.below hV (by omega)⟩
      obtain ⟨-, y0, y1, y2, y3, y4, y5, y6, y7⟩ := qy.facts
      have qnn := P_nn.out.below hV
      obtain ⟨-, a_nn0, a_nn1, a_nn2, a_nn3, -, -, -, -⟩ := qnn.facts
      have o_nn := Hd (O_nn.out.below hV)
      have hvb := HB.out.trans (hV.mono (by omega))
      have hvs := hvb.size
      have g_x := Hd (G_x.out.below hvb)
      have g_y := Hd (G_y.out.below hvb)
      clear hV hK qx qy qnn
      go_simp
      first
      | exact Below.refl _ _
      | ((with_reducible refine (H2.out V _ g_y.out).mono ?_); rintro _ _ ⟨_, rfl, x⟩; exact x))
   | (intro V hV hK h1
      have hs_x := P_x.out.blk.lt
      have hs_y := P_y.out.blk.lt
      have qx : ZF V (w.heap.size) _ _ _ _ _ _ _ _ _ := ⟨P_x.out.blk.below hV (by omega)⟩
      obtain ⟨-, x0, x1, x2, x3, x4, x5, x6, x7⟩ := qx.facts
      have qy : ZF V (w.heap.size + 1) _ _ _ _ _ _ _ _ _ := ⟨P_y.out.blk.below hV (by omega)⟩
      obtain ⟨-, y0, y1, y2, y3, y4, y5, y6, y7⟩ := qy.facts
      have qnn := P_nn.out.below hV
      obtain ⟨-, a_nn0, a_nn1, a_nn2, a_nn3, -, -, -, -⟩ := qnn.facts
      have o_nn := Hd (O_nn.out.below hV)
      have hvb := HB.out.trans (hV.mono (by omega))
      have hvs := hvb.size
      have g_x := Hd (G_x.out.below hvb)
      have g_y := Hd (G_y.out.below hvb)
      clear hV hK qx qy qnn
      go_simp
      ((with_reducible refine (H3.out V _ _ g_x.out h1.at_).mono ?_); rintro _ _ ⟨_, rfl, x⟩; exact x))
   | exact fun _ _ _ (h : ZU _ _ _ _ _ _) => h.cells
   | exact fun _ _ _ (h : ZU _ _ _ _ _ _) _ => h.cells
 . simp [Z8, Zx, Ze, Zs, Zg]
   intro u1 u2 b_zz hb_zz V2 hV hK h1 h2 p_zz _ _ _
   have N_zz := Hd (show b_zz ≠ w.heap.size + 1 + 1 from by have := PR.out.blk.lt; omega)
   have O_zz := Hd h2
   obtain ⟨Azz1, czz1, Azz2, czz2, Azz3, czz3, Azz4, czz4, rfl, -⟩ := h2.form
   have P_zz := Hd (show ZF V2 b_zz 28 _ _ _ _ _ _ _ _ from ⟨p_zz⟩)
   have P_x := Hd (P_x.out.below hV)
   have P_y := Hd (P_y.out.below hV)
   have P_nn := Hd (P_nn.out.below hV)
   have O_nn := Hd (O_nn.out.below hV)
   have PR := Hd (PR.out.below hV)
   have HB := Hd (Zb HB.out hV)
   clear hV hK h1 h2 p_zz hb_zz
   have hsz := PR.out.blk.lt
   go_wp2_with fail
   refine Zc [.val (.pointer (some ⟨b_zz, 0, none⟩)) [], .val (.agg #[.bool (decide (t1 < 0)), .slice Azz1 (Za t1.natAbs).length czz1, .bool (decide (t2 < 0)), .slice Azz2 (Za t2.natAbs).length czz2]) [999], .val (.agg #[.bool (decide (n1 < 0)), .slice Ann1 (Za n1.natAbs).length cnn1, .bool (decide (n2 < 0)), .slice Ann2 (Za n2.natAbs).length cnn2]) [], .any false (fun u V => ZH V 0 u N D) [], .val (.pointer (some ⟨b_zz, 4, none⟩)) [], .val (.agg #[.bool (decide (t3 < 0)), .slice Azz3 (Za t3.natAbs).length czz3, .bool (decide (t4 < 0)), .slice Azz4 (Za t4.natAbs).length czz4]) [999], .val (.agg #[.bool (decide (n1 < 0)), .slice Ann1 (Za n1.natAbs).length cnn1, .bool (decide (n2 < 0)), .slice Ann2 (Za n2.natAbs).length cnn2]) [], .any false (fun u V => ZH V 0 u M E) [], .any false (fun u V => ZU V u N D M E) [3, 7], .old (w.heap.size + 1 + 1) 28 #[.bool false, .slice none 0 0, .bool false, .slice none 0 0, .bool false, .slice none 0 0, .bool false, .slice none 0 0] 0 8 8 []] (w.heap.size + 1 + 1) V2 [28] (fun _ _ => False) _ Zd (by omega) (Below.refl _ _) (Zr.refl _ _ _) rfl ?_ ?_ ?_ ?_ ?_ ?_ ?_ ?_ rfl (by simp [ZI]) ?_ ?_ ?_ ?_
   iterate 8 kernel_rfl
   . simp only [Zq, and_true]
     exact ⟨fun u V V' h k => h.kept k (by decide), fun u V V' h k => h.kept k (by decide), fun u V V' h k => h.kept k (by decide)⟩
   . simp only [ZK, and_true]
     exact ⟨Nat.le_refl _, PR.out.blk.lt, PR.out.blk, by simp⟩
   . simp (maxSteps := 4000000) [Zv, Z6, ZI, Ze, Zs, Zg]
     repeat' (first | apply And.intro | (intro (u : Value)) | (intro (u : Nat)))
     all_goals try exact ⟨_, _, _, rfl, rfl, rfl, rfl, YD⟩
     all_goals first
     | (intro V hV hK
        have qx : ZF V (w.heap.size) _ _ _ _ _ _ _ _ _ := ⟨P_x.out.blk.below hV (by omega)⟩
        obtain ⟨-, x0, x1, x2, x3, x4, x5, x6, x7⟩ := qx.facts
        have qy : ZF V (w.heap.size + 1) _ _ _ _ _ _ _ _ _ := ⟨P_y.out.blk.below hV (by omega)⟩
        obtain ⟨-, y0, y1, y2, y3, y4, y5, y6, y7⟩ := qy.facts
        have qnn := ZB.mk (hK.blk P_nn.out.blk (by decide))
        obtain ⟨-, a_nn0, a_nn1, a_nn2, a_nn3, -, -, -, -⟩ := qnn.facts
        have o_nn := Hd (O_nn.out.kept hK (by decide))
        have o_zz := Hd (O_zz.out.kept hK (by decide))
        have hvb := HB.out.trans (hV.mono (by omega))
        have hvs := hvb.size
        have g_x := Hd (G_x.out.below hvb)
        have g_y := Hd (G_y.out.below hvb)
        clear hV hK qx qy qnn
        go_simp
        first
        | exact Below.refl _ _
        | ((with_reducible refine (H4.out V _ _ o_zz.out.at_.re o_nn.out.at_).mono ?_); rintro _ _ ⟨_, rfl, x⟩; exact x)
        | ((with_reducible refine (H5.out V _ _ o_zz.out.at_.im o_nn.out.at_).mono ?_); rintro _ _ ⟨_, rfl, x⟩; exact x))
     | (intro V hV hK ho
        have qzz := ZF.mk ((ho b_zz P_zz.out.blk.lt N_zz.out).trans P_zz.out.blk)
        obtain ⟨-, a_zz0, a_zz1, a_zz2, a_zz3, a_zz4, a_zz5, a_zz6, a_zz7⟩ := qzz.facts
        clear hV hK ho qzz
        go_simp
        exact Below.refl _ _)
     | (intro V hV hK h1 h2
        obtain ⟨A1, c1, B1, e1, rfl, -, -⟩ := h1.form
        obtain ⟨A2, c2, B2, e2, rfl, -, -⟩ := h2.form
        clear hV hK
        go_simp
        exact ⟨⟨_, _, _, _, _, _, _, _, rfl, h1, h2⟩, Below.refl _ _⟩)
     | exact fun _ _ _ (h : ZU _ _ _ _ _ _) => h.cells
   . simp [Z8, Zx, Ze, Zs, Zg]
     intro u1 u2 u3 V hV hK h1 h2 h3 bq _ _ _
     have HF := Hd h3
     obtain ⟨A6, c6, A7, c7, A8, c8, A9, c9, rfl, -⟩ := h3.form
     simp [ZT, Value.cells] at bq
     have k0 := bq.cell 0
     have k1 := bq.cell 1
     have k2 := bq.cell 2
     have k3 := bq.cell 3
     have k4 := bq.cell 4
     have k5 := bq.cell 5
     have k6 := bq.cell 6
     have k7 := bq.cell 7
     simp at k0 k1 k2 k3 k4 k5 k6 k7
     have HB9 := Hd (HB.out.trans (hV.mono (by omega)))
     clear h1 h2 h3 hV hK bq
     go_wp2_with fail
     exact bodyPost_ret (by simp [results, Tryz.results112, go_sem, k0, k1, k2, k3, k4, k5, k6, k7]) rfl ⟨_, rfl, HF.out, HB9.out⟩

theorem nought_i : OpI0 205 0 1 := fun V => (nought_ref 1 V rfl).mono fun _ _ ⟨v, he, h, hb⟩ => ⟨v, he, h.in_, hb⟩
section
variable {a b c e : Rat} {n d m f p q r s N D M E : Int}
theorem plus_gi (ha : Is a n d) (hb : Is b m f) (hc : Is c p q) (he : Is e r s) (sa : Sz a 10000) (sb : Sz b 10000) (sc : Sz c 10000) (se : Sz e 10000) (h1 : Is (a + c) N D) (h2 : Is (b + e) M E) : OpGI 108 n d m f p q r s N D M E := by
 exact ref03_Plus (plus_i ha hc h1 sa sc) (plus_i hb he h2 sb se)
theorem minus_gi (ha : Is a n d) (hb : Is b m f) (hc : Is c p q) (he : Is e r s) (sa : Sz a 10000) (sb : Sz b 10000) (sc : Sz c 10000) (se : Sz e 10000) (h1 : Is (a - c) N D) (h2 : Is (b - e) M E) : OpGI 109 n d m f p q r s N D M E := by
 exact ref03_Minus (minus_i ha hc h1 sa sc) (minus_i hb he h2 sb se)
theorem times_gi (ha : Is a n d) (hb : Is b m f) (hc : Is c p q) (he : Is e r s) (sa : Sz a 2500) (sb : Sz b 2500) (sc : Sz c 2500) (se : Sz e 2500) (h1 : Is (a * c - b * e) N D) (h2 : Is (a * e + b * c) M E) : OpGI 110 n d m f p q r s N D M E := by
 have up : ∀ {q : Rat} {k l : Nat}, Sz q k -> k <= l -> Sz q l := fun h k => h.mono k
 exact ref03_Times (times_i ha hc (Is.of _) (up sa (by omega)) (up sc (by omega))) (times_i hb he (Is.of _) (up sb (by omega)) (up se (by omega))) (minus_i (Is.of _) (Is.of _) h1 (up (YL sa sc) (by omega)) (up (YL sb se) (by omega)))
  (times_i ha he (Is.of _) (up sa (by omega)) (up se (by omega))) (times_i hb hc (Is.of _) (up sb (by omega)) (up sc (by omega))) (plus_i (Is.of _) (Is.of _) h2 (up (YL sa se) (by omega)) (up (YL sb sc) (by omega)))
theorem norm_gi (ha : Is a n d) (hb : Is b m f) (sa : Sz a 2500) (sb : Sz b 2500) (h1 : Is (a * a + b * b) N D) : OpNI 128 n d m f N D := by
 have up : ∀ {q : Rat} {k l : Nat}, Sz q k -> k <= l -> Sz q l := fun h k => h.mono k
 exact ref03_Norm (times_i ha ha (Is.of _) (up sa (by omega)) (up sa (by omega))) (times_i hb hb (Is.of _) (up sb (by omega)) (up sb (by omega))) (plus_i (Is.of _) (Is.of _) h1 (up (YL sa sa) (by omega)) (up (YL sb sb) (by omega)))
theorem conj_gi (ha : Is a n d) (hb : Is b m f) (sa : Sz a 10000) (sb : Sz b 10000) : OpGI1 127 n d m f n d (-m) f := by
 have z1 : Sz 0 10000 := sz_zero.mono (by omega)
 exact ref03_Conj nought_i (plus_i ha is_zero (by rw [Rat.add_zero]; exact ha) sa z1) (minus_i is_zero hb (by rw [show 0 - b = -b by grind]; exact is_neg hb) z1 sb)
theorem over_gi (ha : Is a n d) (hb : Is b m f) (hc : Is c p q) (he : Is e r s) (sa : Sz a 2048) (sb : Sz b 2048) (sc : Sz c 2048) (se : Sz e 2048) (h0 : ¬ (c = 0 /\ e = 0)) (h1 : Is ((a * c + b * e) / (c * c + e * e)) N D) (h2 : Is ((b * c - a * e) / (c * c + e * e)) M E) : OpGI 112 n d m f p q r s N D M E := by
 have hn : c * c + e * e ≠ 0 := fun h => h0 (sq_sum h)
 have up : ∀ {q : Rat} {k l : Nat}, Sz q k -> k <= l -> Sz q l := fun h k => h.mono k
 have t1 : Is (a * c - b * -e) (a * c + b * e).num (a * c + b * e).den := by rw [show a * c - b * -e = a * c + b * e by grind]; exact Is.of _
 have t2 : Is (a * -e + b * c) (b * c - a * e).num (b * c - a * e).den := by rw [show a * -e + b * c = b * c - a * e by grind]; exact Is.of _
 have s1 := up (sz_add (YL sa sc) (YL sb se)) (show _ <= 10000 by omega)
 have s2 := up (sz_sub (YL sb sc) (YL sa se)) (show _ <= 10000 by omega)
 have s3 := up (sz_add (YL sc sc) (YL se se)) (show _ <= 10000 by omega)
 exact ref03_Over (norm_gi hc he (up sc (by omega)) (up se (by omega)) (Is.of _)) (conj_gi hc he (up sc (by omega)) (up se (by omega)))
  (times_gi ha hb hc (is_neg he) (up sa (by omega)) (up sb (by omega)) (up sc (by omega)) (up (sz_neg se) (by omega)) t1 t2) (over_i (Is.of _) (Is.of _) h1 s1 s3 hn) (over_i (Is.of _) (Is.of _) h2 s2 s3 hn)
end

theorem ratio_Long_two (n d m f : Int) (Ax1 Ax2 Ax3 Ax4 : Option Addr) (cx1 cx2 cx3 cx4 : Nat) (b : Bool) (l1 : (Za n.natAbs).length <= 9223372036854775807) (l2 : (Za d.natAbs).length <= 9223372036854775807) (l3 : (Za m.natAbs).length <= 9223372036854775807) (l4 : (Za f.natAbs).length <= 9223372036854775807) (hb : ((decide (2048 < (Za n.natAbs).length) || decide (2048 < (Za d.natAbs).length)) || (decide (2048 < (Za m.natAbs).length) || decide (2048 < (Za f.natAbs).length))) = b) (V : World) (g : Nat) (hg : V.heap.size = g) :
  Calls Tryz.prog 203 #[.slice (some ⟨g, 0, none⟩) 2 2] (V.alloc (.cells #[.bool (decide (n < 0)), .slice Ax1 (Za n.natAbs).length cx1, .bool (decide (d < 0)), .slice Ax2 (Za d.natAbs).length cx2, .bool (decide (m < 0)), .slice Ax3 (Za m.natAbs).length cx3, .bool (decide (f < 0)), .slice Ax4 (Za f.natAbs).length cx4] 26)) fun e w' => e = .returned (.bool b) /\ Below (V.alloc (.cells #[.bool (decide (n < 0)), .slice Ax1 (Za n.natAbs).length cx1, .bool (decide (d < 0)), .slice Ax2 (Za d.natAbs).length cx2, .bool (decide (m < 0)), .slice Ax3 (Za m.natAbs).length cx3, .bool (decide (f < 0)), .slice Ax4 (Za f.natAbs).length cx4] 26)).heap.size (V.alloc (.cells #[.bool (decide (n < 0)), .slice Ax1 (Za n.natAbs).length cx1, .bool (decide (d < 0)), .slice Ax2 (Za d.natAbs).length cx2, .bool (decide (m < 0)), .slice Ax3 (Za m.natAbs).length cx3, .bool (decide (f < 0)), .slice Ax4 (Za f.natAbs).length cx4] 26)) w' := by
 have := ratio_LongL [⟨decide (n < 0), Ax1, (Za n.natAbs).length, cx1, decide (d < 0), Ax2, (Za d.natAbs).length, cx2⟩, ⟨decide (m < 0), Ax3, (Za m.natAbs).length, cx3, decide (f < 0), Ax4, (Za f.natAbs).length, cx4⟩] (some ⟨g, 0, none⟩) 2 (by simp) (by simp; omega) (V.alloc (.cells #[.bool (decide (n < 0)), .slice Ax1 (Za n.natAbs).length cx1, .bool (decide (d < 0)), .slice Ax2 (Za d.natAbs).length cx2, .bool (decide (m < 0)), .slice Ax3 (Za m.natAbs).length cx3, .bool (decide (f < 0)), .slice Ax4 (Za f.natAbs).length cx4] 26))
  (by subst hg; exact ZO.blk (ZR.new V 26 #[.bool (decide (n < 0)), .slice Ax1 (Za n.natAbs).length cx1, .bool (decide (d < 0)), .slice Ax2 (Za d.natAbs).length cx2, .bool (decide (m < 0)), .slice Ax3 (Za m.natAbs).length cx3, .bool (decide (f < 0)), .slice Ax4 (Za f.natAbs).length cx4]) rfl)
 rw [<- hb]
 simpa [Xu.long] using this

theorem JJ (n d m f : Int) (Ax1 Ax2 Ax3 Ax4 : Option Addr) (cx1 cx2 cx3 cx4 : Nat) (b : Bool) (l1 : (Za n.natAbs).length <= 9223372036854775807) (l2 : (Za d.natAbs).length <= 9223372036854775807) (l3 : (Za m.natAbs).length <= 9223372036854775807) (l4 : (Za f.natAbs).length <= 9223372036854775807) (hb : ((decide (2048 < (Za n.natAbs).length) || decide (2048 < (Za d.natAbs).length)) || (decide (2048 < (Za m.natAbs).length) || decide (2048 < (Za f.natAbs).length))) = b) (V : World) (g : Nat) (hg : V.heap.size = g) :
  Calls Tryz.prog 129 #[.slice (some ⟨g, 0, none⟩) 2 2] (V.alloc (.cells #[.bool (decide (n < 0)), .slice Ax1 (Za n.natAbs).length cx1, .bool (decide (d < 0)), .slice Ax2 (Za d.natAbs).length cx2, .bool (decide (m < 0)), .slice Ax3 (Za m.natAbs).length cx3, .bool (decide (f < 0)), .slice Ax4 (Za f.natAbs).length cx4] 26)) fun e w' => e = .returned (.int .i64 (if b then 4 else 0)) /\ Below (V.alloc (.cells #[.bool (decide (n < 0)), .slice Ax1 (Za n.natAbs).length cx1, .bool (decide (d < 0)), .slice Ax2 (Za d.natAbs).length cx2, .bool (decide (m < 0)), .slice Ax3 (Za m.natAbs).length cx3, .bool (decide (f < 0)), .slice Ax4 (Za f.natAbs).length cx4] 26)).heap.size (V.alloc (.cells #[.bool (decide (n < 0)), .slice Ax1 (Za n.natAbs).length cx1, .bool (decide (d < 0)), .slice Ax2 (Za d.natAbs).length cx2, .bool (decide (m < 0)), .slice Ax3 (Za m.natAbs).length cx3, .bool (decide (f < 0)), .slice Ax4 (Za f.natAbs).length cx4] 26)) w' := by
 have := ref02_AnswerL [⟨decide (n < 0), Ax1, (Za n.natAbs).length, cx1, decide (d < 0), Ax2, (Za d.natAbs).length, cx2⟩, ⟨decide (m < 0), Ax3, (Za m.natAbs).length, cx3, decide (f < 0), Ax4, (Za f.natAbs).length, cx4⟩] (some ⟨g, 0, none⟩) 2 (by simp) (by simp; omega) (V.alloc (.cells #[.bool (decide (n < 0)), .slice Ax1 (Za n.natAbs).length cx1, .bool (decide (d < 0)), .slice Ax2 (Za d.natAbs).length cx2, .bool (decide (m < 0)), .slice Ax3 (Za m.natAbs).length cx3, .bool (decide (f < 0)), .slice Ax4 (Za f.natAbs).length cx4] 26))
  (by subst hg; exact ZO.blk (ZR.new V 26 #[.bool (decide (n < 0)), .slice Ax1 (Za n.natAbs).length cx1, .bool (decide (d < 0)), .slice Ax2 (Za d.natAbs).length cx2, .bool (decide (m < 0)), .slice Ax3 (Za m.natAbs).length cx3, .bool (decide (f < 0)), .slice Ax4 (Za f.natAbs).length cx4]) rfl) b (by rw [<- hb]; simp [Xu.long])
 simpa using this

theorem argand_Answer_true (n d m f : Int) (Ax1 Ax2 Ax3 Ax4 : Option Addr) (cx1 cx2 cx3 cx4 : Nat) (l1 : (Za n.natAbs).length <= 9223372036854775807) (l2 : (Za d.natAbs).length <= 9223372036854775807) (l3 : (Za m.natAbs).length <= 9223372036854775807) (l4 : (Za f.natAbs).length <= 9223372036854775807) (hb : ((decide (2048 < (Za n.natAbs).length) || decide (2048 < (Za d.natAbs).length)) || (decide (2048 < (Za m.natAbs).length) || decide (2048 < (Za f.natAbs).length))) = true) (w : World) (g : Nat) (q : ZF w g 28 (.bool (decide (n < 0))) (.slice Ax1 (Za n.natAbs).length cx1) (.bool (decide (d < 0))) (.slice Ax2 (Za d.natAbs).length cx2) (.bool (decide (m < 0))) (.slice Ax3 (Za m.natAbs).length cx3) (.bool (decide (f < 0))) (.slice Ax4 (Za f.natAbs).length cx4)) :
  Calls Tryz.prog 204 #[.slice (some ⟨g, 0, none⟩) 1 1] w fun e w' => e = .returned (.int .i64 4) /\ Below w.heap.size w w' := by
 have H1 := Hd (fun (V : World) (g' : Nat) (hg : V.heap.size = g') => ratio_Long_two n d m f Ax1 Ax2 Ax3 Ax4 cx1 cx2 cx3 cx4 true l1 l2 l3 l4 hb V g' hg)
 have HQ := Hd q
 clear hb q l1 l2 l3 l4
 go_enter Tryz.func204, Tryz.ntmps204
 go_wp2_with fail
 go_loopw [7] (fun s wr => ∃ i : Nat, s = .int .i64 i /\ i <= 0 /\ Below w.heap.size w wr) (fun s _ => 1 - (intOf s).toNat)
 case atStart => exact ⟨0, rfl, by omega, Below.refl _ _⟩
 case round =>
  obtain ⟨i, rfl, hi, hb⟩ := hrel
  obtain rfl : i = 0 := by omega
  clear hi
  obtain ⟨l_q, q0, q1, q2, q3, q4, q5, q6, q7⟩ := (HQ.out.below hb).facts
  have px := ZF.new wr 28 (.bool (decide (n < 0))) (.slice Ax1 (Za n.natAbs).length cx1) (.bool (decide (d < 0))) (.slice Ax2 (Za d.natAbs).length cx2) (.bool (decide (m < 0))) (.slice Ax3 (Za m.natAbs).length cx3) (.bool (decide (f < 0))) (.slice Ax4 (Za f.natAbs).length cx4)
  have hb2 := hb.alloc hb.size (.cells #[.bool (decide (n < 0)), .slice Ax1 (Za n.natAbs).length cx1, .bool (decide (d < 0)), .slice Ax2 (Za d.natAbs).length cx2, .bool (decide (m < 0)), .slice Ax3 (Za m.natAbs).length cx3, .bool (decide (f < 0)), .slice Ax4 (Za f.natAbs).length cx4] 28)
  go_upto_region 4 with fail
  obtain ⟨y, E⟩ : ∃ W, W = wr.alloc (.cells #[.bool (decide (n < 0)), .slice Ax1 (Za n.natAbs).length cx1, .bool (decide (d < 0)), .slice Ax2 (Za d.natAbs).length cx2, .bool (decide (m < 0)), .slice Ax3 (Za m.natAbs).length cx3, .bool (decide (f < 0)), .slice Ax4 (Za f.natAbs).length cx4] 28) := ⟨_, rfl⟩
  obtain ⟨bq, hq⟩ : ∃ q, q = wr.heap.size := ⟨_, rfl⟩
  rw [<- E] at hb2
  rw [<- E, <- hq] at px ⊢
  have HB := Hd hb2
  clear hb hb2 E hq l_q q0 q1 q2 q3 q4 q5 q6 q7
  obtain ⟨l_x, x0, x1, x2, x3, x4, x5, x6, x7⟩ := px.facts
  clear px
  go_wp2_with fail
  refine (H1.out y _ rfl).mono ?_
  rintro e w1 ⟨rfl, hb1⟩
  have HB1 := Hd (Zb (HB.out.alloc HB.out.size (.cells #[.bool (decide (n < 0)), .slice Ax1 (Za n.natAbs).length cx1, .bool (decide (d < 0)), .slice Ax2 (Za d.natAbs).length cx2, .bool (decide (m < 0)), .slice Ax3 (Za m.natAbs).length cx3, .bool (decide (f < 0)), .slice Ax4 (Za f.natAbs).length cx4] 26)) hb1)
  clear hb1 HB l_x x0 x1 x2 x3 x4 x5 x6 x7
  go_wp2_with fail
  go_ret
  exact ⟨rfl, HB1.out⟩

theorem argand_Answer_false (n d m f : Int) (Ax1 Ax2 Ax3 Ax4 : Option Addr) (cx1 cx2 cx3 cx4 : Nat) (l1 : (Za n.natAbs).length <= 9223372036854775807) (l2 : (Za d.natAbs).length <= 9223372036854775807) (l3 : (Za m.natAbs).length <= 9223372036854775807) (l4 : (Za f.natAbs).length <= 9223372036854775807) (hb : ((decide (2048 < (Za n.natAbs).length) || decide (2048 < (Za d.natAbs).length)) || (decide (2048 < (Za m.natAbs).length) || decide (2048 < (Za f.natAbs).length))) = false) (w : World) (g : Nat) (q : ZF w g 28 (.bool (decide (n < 0))) (.slice Ax1 (Za n.natAbs).length cx1) (.bool (decide (d < 0))) (.slice Ax2 (Za d.natAbs).length cx2) (.bool (decide (m < 0))) (.slice Ax3 (Za m.natAbs).length cx3) (.bool (decide (f < 0))) (.slice Ax4 (Za f.natAbs).length cx4)) :
  Calls Tryz.prog 204 #[.slice (some ⟨g, 0, none⟩) 1 1] w fun e w' => e = .returned (.int .i64 0) /\ Below w.heap.size w w' := by
 have H1 := Hd (fun (V : World) (g' : Nat) (hg : V.heap.size = g') => ratio_Long_two n d m f Ax1 Ax2 Ax3 Ax4 cx1 cx2 cx3 cx4 false l1 l2 l3 l4 hb V g' hg)
 have HQ := Hd q
 clear hb q l1 l2 l3 l4
 go_enter Tryz.func204, Tryz.ntmps204
 go_wp2_with fail
 go_loopw [7] (fun s wr => ∃ i : Nat, s = .int .i64 i /\ i <= 1 /\ Below w.heap.size w wr) (fun s _ => 1 - (intOf s).toNat)
 case atStart => exact ⟨0, rfl, by omega, Below.refl _ _⟩
 case round =>
  obtain ⟨i, rfl, hi, hb⟩ := hrel
  by_cases hlt : i < 1
  . obtain rfl : i = 0 := by omega
    clear hlt
    clear hi
    obtain ⟨l_q, q0, q1, q2, q3, q4, q5, q6, q7⟩ := (HQ.out.below hb).facts
    have px := ZF.new wr 28 (.bool (decide (n < 0))) (.slice Ax1 (Za n.natAbs).length cx1) (.bool (decide (d < 0))) (.slice Ax2 (Za d.natAbs).length cx2) (.bool (decide (m < 0))) (.slice Ax3 (Za m.natAbs).length cx3) (.bool (decide (f < 0))) (.slice Ax4 (Za f.natAbs).length cx4)
    have hb2 := hb.alloc hb.size (.cells #[.bool (decide (n < 0)), .slice Ax1 (Za n.natAbs).length cx1, .bool (decide (d < 0)), .slice Ax2 (Za d.natAbs).length cx2, .bool (decide (m < 0)), .slice Ax3 (Za m.natAbs).length cx3, .bool (decide (f < 0)), .slice Ax4 (Za f.natAbs).length cx4] 28)
    go_upto_region 4 with fail
    obtain ⟨y, E⟩ : ∃ W, W = wr.alloc (.cells #[.bool (decide (n < 0)), .slice Ax1 (Za n.natAbs).length cx1, .bool (decide (d < 0)), .slice Ax2 (Za d.natAbs).length cx2, .bool (decide (m < 0)), .slice Ax3 (Za m.natAbs).length cx3, .bool (decide (f < 0)), .slice Ax4 (Za f.natAbs).length cx4] 28) := ⟨_, rfl⟩
    obtain ⟨bq, hq⟩ : ∃ q, q = wr.heap.size := ⟨_, rfl⟩
    rw [<- E] at hb2
    rw [<- E, <- hq] at px ⊢
    have HB := Hd hb2
    clear hb hb2 E hq l_q q0 q1 q2 q3 q4 q5 q6 q7
    obtain ⟨l_x, x0, x1, x2, x3, x4, x5, x6, x7⟩ := px.facts
    clear px
    go_wp2_with fail
    refine (H1.out y _ rfl).mono ?_
    rintro e w1 ⟨rfl, hb1⟩
    have HB1 := Hd (Zb (HB.out.alloc HB.out.size (.cells #[.bool (decide (n < 0)), .slice Ax1 (Za n.natAbs).length cx1, .bool (decide (d < 0)), .slice Ax2 (Za d.natAbs).length cx2, .bool (decide (m < 0)), .slice Ax3 (Za m.natAbs).length cx3, .bool (decide (f < 0)), .slice Ax4 (Za f.natAbs).length cx4] 26)) hb1)
    clear hb1 HB l_x x0 x1 x2 x3 x4 x5 x6 x7
    go_wp2_with fail
    go_roundw
    case rel => exact ⟨1, by go_num, Nat.le_refl _, HB1.out⟩
    case measure => simp [intOf]
  . obtain rfl : i = 1 := by omega
    have HB := Hd hb
    clear hb hi hlt
    go_wp2_with fail
    go_ret
    exact ⟨rfl, HB.out⟩

abbrev AnsIG (n d m f N D M E k : Int) : Prop := ∀ (V : World) (v : Value), ZU V v n d m f -> Calls Tryz.prog 107 #[v] V (Z5 V N D M E k)

theorem ref03_May_g {n1 n2 n3 n4 : Bool} {xs ys us vs : List Nat} {b : Bool} (hc : (YV n1 n2 xs ys == 0 && YV n3 n4 us vs == 0) = b) (w : World) (v_x : Value) (g_x : Zn w v_x n1 n2 n3 n4 xs ys us vs)  :
  Calls Tryz.prog 105 #[v_x] w fun e w' => e = .returned (.bool b) /\ Below w.heap.size w w' := by
 obtain ⟨Ax1, cx1, Ax2, cx2, Ax3, cx3, Ax4, cx4, rfl, -⟩ := g_x.form
 have D1 := fun (V : World) (g' : Nat) (a1 : Zj V Ax1 cx1 xs) (a2 : Zj V Ax2 cx2 ys) (a3 : Zj V Ax3 cx3 us) (a4 : Zj V Ax4 cx4 vs) (hg : V.heap.size = g') => rchecks_two n1 n2 n3 n4 Ax1 Ax2 Ax3 Ax4 cx1 cx2 cx3 cx4 xs ys us vs V g' a1 a2 a3 a4 hg
 rw [hc] at D1
 have H1 := Hd D1
 clear D1 hc
 have G_x := Hd g_x
 clear g_x
 go_enter Tryz.func105, Tryz.ntmps105
 go_upto_region 1 with fail
 refine Y7 (P := fun W => Code.wp _ _ _ _ W) fun W p0 b0 => ?_
 have P_x := Hd (ZF.mk p0)
 have HB := Hd b0
 clear b0 p0
 obtain ⟨-, x0, x1, x2, x3, x4, x5, x6, x7⟩ := P_x.out.facts
 go_wp2_with fail
 obtain ⟨s1, s2, s3, s4⟩ := (G_x.out.below HB.out).raws
 refine (H1.out W _ s1 s2 s3 s4 rfl).mono ?_
 rintro e w9 ⟨rfl, hb⟩
 have HB9 := Hd (Zb (HB.out.alloc HB.out.size (.cells #[.bool n1, .slice Ax1 xs.length cx1, .bool n2, .slice Ax2 ys.length cx2, .bool n3, .slice Ax3 us.length cx3, .bool n4, .slice Ax4 vs.length cx4] 26)) hb)
 clear x0 x1 x2 x3 x4 x5 x6 x7
 clear hb s1 s2 s3 s4
 go_wp2_with fail
 go_ret
 exact ⟨rfl, HB9.out⟩

theorem YY (n1 n2 n3 n4 : Bool) (xs ys us vs : List Nat) : Xa 105 n1 n2 n3 n4 xs ys us vs (YV n1 n2 xs ys == 0 && YV n3 n4 us vs == 0) := by
 intro V v g1
 exact ref03_May_g rfl V v g1

theorem ref03_Nought_re {n d m f s0 : Int} (C1 : SgnF 196 n d s0) (g1 : (s0 == 0) = false) (w : World) (v_x : Value) (g_x : Zh w v_x n d m f)  :
  Calls Tryz.prog 111 #[v_x] w fun e w' => e = .returned (.bool false) /\ Below w.heap.size w w' := by
 obtain ⟨Ax1, cx1, Ax2, cx2, Ax3, cx3, Ax4, cx4, rfl, -⟩ := g_x.form
 have H1 := Hd C1
 clear C1
 have G_x := Hd g_x
 clear g_x
 go_enter Tryz.func111, Tryz.ntmps111
 go_upto_region 1 with fail
 refine Y7 (P := fun W => Code.wp _ _ _ _ W) fun W p0 b0 => ?_
 have P_x := Hd (ZF.mk p0)
 have HB := Hd b0
 clear b0 p0
 obtain ⟨-, x0, x1, x2, x3, x4, x5, x6, x7⟩ := P_x.out.facts
 go_wp2_with fail
 refine (H1.out W _ (G_x.out.below HB.out).re).mono ?_
 rintro e wx1 ⟨rfl, hb⟩
 clear x0 x1 x2 x3 x4 x5 x6 x7
 have P_x := Hd (P_x.out.below hb)
 have HB := Hd (Zb HB.out hb)
 clear hb
 go_wp2_with fail
 go_ret
 exact ⟨rfl, HB.out⟩

theorem ref03_Nought_im {n d m f s0 s1 : Int} (C1 : SgnF 196 n d s0) (g1 : (s0 == 0) = true) (C2 : SgnF 196 m f s1) (g2 : (s1 == 0) = false) (w : World) (v_x : Value) (g_x : Zh w v_x n d m f)  :
  Calls Tryz.prog 111 #[v_x] w fun e w' => e = .returned (.bool false) /\ Below w.heap.size w w' := by
 obtain ⟨Ax1, cx1, Ax2, cx2, Ax3, cx3, Ax4, cx4, rfl, -⟩ := g_x.form
 have H1 := Hd C1
 have H2 := Hd C2
 clear C1 C2
 have G_x := Hd g_x
 clear g_x
 go_enter Tryz.func111, Tryz.ntmps111
 go_upto_region 1 with fail
 refine Y7 (P := fun W => Code.wp _ _ _ _ W) fun W p0 b0 => ?_
 have P_x := Hd (ZF.mk p0)
 have HB := Hd b0
 clear b0 p0
 obtain ⟨-, x0, x1, x2, x3, x4, x5, x6, x7⟩ := P_x.out.facts
 go_wp2_with fail
 refine (H1.out W _ (G_x.out.below HB.out).re).mono ?_
 rintro e wx1 ⟨rfl, hb⟩
 clear x0 x1 x2 x3 x4 x5 x6 x7
 have P_x := Hd (P_x.out.below hb)
 have HB := Hd (Zb HB.out hb)
 clear hb
 obtain ⟨-, x0, x1, x2, x3, x4, x5, x6, x7⟩ := P_x.out.facts
 go_wp2_with fail
 refine (H2.out wx1 _ (G_x.out.below HB.out).im).mono ?_
 rintro e wx2 ⟨rfl, hb⟩
 clear x0 x1 x2 x3 x4 x5 x6 x7
 have P_x := Hd (P_x.out.below hb)
 have HB := Hd (Zb HB.out hb)
 clear hb
 go_wp2_with fail
 go_ret
 exact ⟨rfl, HB.out⟩

theorem ref03_Nought_yes {n d m f s0 s1 : Int} (C1 : SgnF 196 n d s0) (g1 : (s0 == 0) = true) (C2 : SgnF 196 m f s1) (g2 : (s1 == 0) = true) (w : World) (v_x : Value) (g_x : Zh w v_x n d m f)  :
  Calls Tryz.prog 111 #[v_x] w fun e w' => e = .returned (.bool true) /\ Below w.heap.size w w' := by
 obtain ⟨Ax1, cx1, Ax2, cx2, Ax3, cx3, Ax4, cx4, rfl, -⟩ := g_x.form
 have H1 := Hd C1
 have H2 := Hd C2
 clear C1 C2
 have G_x := Hd g_x
 clear g_x
 go_enter Tryz.func111, Tryz.ntmps111
 go_upto_region 1 with fail
 refine Y7 (P := fun W => Code.wp _ _ _ _ W) fun W p0 b0 => ?_
 have P_x := Hd (ZF.mk p0)
 have HB := Hd b0
 clear b0 p0
 obtain ⟨-, x0, x1, x2, x3, x4, x5, x6, x7⟩ := P_x.out.facts
 go_wp2_with fail
 refine (H1.out W _ (G_x.out.below HB.out).re).mono ?_
 rintro e wx1 ⟨rfl, hb⟩
 clear x0 x1 x2 x3 x4 x5 x6 x7
 have P_x := Hd (P_x.out.below hb)
 have HB := Hd (Zb HB.out hb)
 clear hb
 obtain ⟨-, x0, x1, x2, x3, x4, x5, x6, x7⟩ := P_x.out.facts
 go_wp2_with fail
 refine (H2.out wx1 _ (G_x.out.below HB.out).im).mono ?_
 rintro e wx2 ⟨rfl, hb⟩
 clear x0 x1 x2 x3 x4 x5 x6 x7
 have P_x := Hd (P_x.out.below hb)
 have HB := Hd (Zb HB.out hb)
 clear hb
 go_wp2_with fail
 go_ret
 exact ⟨rfl, HB.out⟩

theorem ref03_Answer_fits {n d m f : Int} (hb : ((decide (2048 < (Za n.natAbs).length) || decide (2048 < (Za d.natAbs).length)) || (decide (2048 < (Za m.natAbs).length) || decide (2048 < (Za f.natAbs).length))) = false) (w : World) (v_x : Value) (g_x : Zh w v_x n d m f) (o_x : ZU w v_x n d m f) :
  Calls Tryz.prog 107 #[v_x] w (Z5 w n d m f 0) := by
 obtain ⟨Ax1, cx1, Ax2, cx2, Ax3, cx3, Ax4, cx4, rfl, -⟩ := g_x.form
 have l1 : (Za n.natAbs).length <= 9223372036854775807 := by have := g_x.raws.1.cap; have := g_x.raws.1.most; omega
 have l2 : (Za d.natAbs).length <= 9223372036854775807 := by have := g_x.raws.2.1.cap; have := g_x.raws.2.1.most; omega
 have l3 : (Za m.natAbs).length <= 9223372036854775807 := by have := g_x.raws.2.2.1.cap; have := g_x.raws.2.2.1.most; omega
 have l4 : (Za f.natAbs).length <= 9223372036854775807 := by have := g_x.raws.2.2.2.cap; have := g_x.raws.2.2.2.most; omega
 have H1 := Hd (fun (V : World) (g' : Nat) (hg : V.heap.size = g') => JJ n d m f Ax1 Ax2 Ax3 Ax4 cx1 cx2 cx3 cx4 false l1 l2 l3 l4 hb V g' hg)
 have OX := Hd o_x
 clear l1 l2 l3 l4 o_x hb
 have G_x := Hd g_x
 clear g_x
 go_enter Tryz.func107, Tryz.ntmps107
 go_upto_region 1 with fail
 refine XG (P := fun W => Code.wp _ _ _ _ W) fun W p0 p1 b0 => ?_
 have P_x := Hd (ZF.mk p0)
 have PR := Hd (ZF.mk p1)
 have HB := Hd b0
 clear b0 p0 p1
 have OX := Hd (OX.out.below HB.out)
 obtain ⟨-, x0, x1, x2, x3, x4, x5, x6, x7⟩ := P_x.out.facts
 go_wp2_with fail
 refine (H1.out W _ rfl).mono ?_
 rintro e wx1 ⟨rfl, hb⟩
 have hb := ((Below.refl W.heap.size W).alloc (Nat.le_refl _) (.cells #[.bool (decide (n < 0)), .slice Ax1 (Za n.natAbs).length cx1, .bool (decide (d < 0)), .slice Ax2 (Za d.natAbs).length cx2, .bool (decide (m < 0)), .slice Ax3 (Za m.natAbs).length cx3, .bool (decide (f < 0)), .slice Ax4 (Za f.natAbs).length cx4] 26)).trans (hb.mono (by simp))
 clear x0 x1 x2 x3 x4 x5 x6 x7
 have P_x := Hd (P_x.out.below hb)
 have PR := Hd (PR.out.below hb)
 have OX := Hd (OX.out.below hb)
 have HB := Hd (Zb HB.out hb)
 clear hb
 obtain ⟨-, x0, x1, x2, x3, x4, x5, x6, x7⟩ := P_x.out.facts
 obtain ⟨l_r, r0, r1, r2, r3, r4, r5, r6, r7⟩ := PR.out.facts
 obtain ⟨f0, f1, f2, f3, f4, f5, f6, f7⟩ := PR.out.free
 have HQ := Hd (PR.out.store (.bool (decide (n < 0))) (.slice Ax1 (Za n.natAbs).length cx1) (.bool (decide (d < 0))) (.slice Ax2 (Za d.natAbs).length cx2) (.bool (decide (m < 0))) (.slice Ax3 (Za m.natAbs).length cx3) (.bool (decide (f < 0))) (.slice Ax4 (Za f.natAbs).length cx4))
 have HB9 := Hd (below8 HB.out (show w.heap.size <= w.heap.size + 1 by omega) (.bool (decide (n < 0))) (.slice Ax1 (Za n.natAbs).length cx1) (.bool (decide (d < 0))) (.slice Ax2 (Za d.natAbs).length cx2) (.bool (decide (m < 0))) (.slice Ax3 (Za m.natAbs).length cx3) (.bool (decide (f < 0))) (.slice Ax4 (Za f.natAbs).length cx4))
 have HF := Hd (OX.out.oct PR.out (by decide) (.bool (decide (n < 0))) (.slice Ax1 (Za n.natAbs).length cx1) (.bool (decide (d < 0))) (.slice Ax2 (Za d.natAbs).length cx2) (.bool (decide (m < 0))) (.slice Ax3 (Za m.natAbs).length cx3) (.bool (decide (f < 0))) (.slice Ax4 (Za f.natAbs).length cx4))
 go_wp2_with fail
 obtain ⟨_, k0, k1, k2, k3, k4, k5, k6, k7⟩ := HQ.out.facts
 exact bodyPost_ret (by simp [results, Tryz.results107, go_sem, k0, k1, k2, k3, k4, k5, k6, k7]) rfl ⟨_, rfl, HF.out, HB9.out⟩

theorem ref03_Answer_long {n d m f : Int} (hb : ((decide (2048 < (Za n.natAbs).length) || decide (2048 < (Za d.natAbs).length)) || (decide (2048 < (Za m.natAbs).length) || decide (2048 < (Za f.natAbs).length))) = true) (w : World) (v_x : Value) (g_x : Zh w v_x n d m f) (o_x : ZU w v_x n d m f) :
  Calls Tryz.prog 107 #[v_x] w (Z5 w 0 0 0 0 4) := by
 obtain ⟨Ax1, cx1, Ax2, cx2, Ax3, cx3, Ax4, cx4, rfl, -⟩ := g_x.form
 have l1 : (Za n.natAbs).length <= 9223372036854775807 := by have := g_x.raws.1.cap; have := g_x.raws.1.most; omega
 have l2 : (Za d.natAbs).length <= 9223372036854775807 := by have := g_x.raws.2.1.cap; have := g_x.raws.2.1.most; omega
 have l3 : (Za m.natAbs).length <= 9223372036854775807 := by have := g_x.raws.2.2.1.cap; have := g_x.raws.2.2.1.most; omega
 have l4 : (Za f.natAbs).length <= 9223372036854775807 := by have := g_x.raws.2.2.2.cap; have := g_x.raws.2.2.2.most; omega
 have H1 := Hd (fun (V : World) (g' : Nat) (hg : V.heap.size = g') => JJ n d m f Ax1 Ax2 Ax3 Ax4 cx1 cx2 cx3 cx4 true l1 l2 l3 l4 hb V g' hg)
 have OX := Hd o_x
 clear l1 l2 l3 l4 o_x hb
 have G_x := Hd g_x
 clear g_x
 go_enter Tryz.func107, Tryz.ntmps107
 go_upto_region 1 with fail
 refine XG (P := fun W => Code.wp _ _ _ _ W) fun W p0 p1 b0 => ?_
 have P_x := Hd (ZF.mk p0)
 have PR := Hd (ZF.mk p1)
 have HB := Hd b0
 clear b0 p0 p1
 have OX := Hd (OX.out.below HB.out)
 obtain ⟨-, x0, x1, x2, x3, x4, x5, x6, x7⟩ := P_x.out.facts
 go_wp2_with fail
 refine (H1.out W _ rfl).mono ?_
 rintro e wx1 ⟨rfl, hb⟩
 have hb := ((Below.refl W.heap.size W).alloc (Nat.le_refl _) (.cells #[.bool (decide (n < 0)), .slice Ax1 (Za n.natAbs).length cx1, .bool (decide (d < 0)), .slice Ax2 (Za d.natAbs).length cx2, .bool (decide (m < 0)), .slice Ax3 (Za m.natAbs).length cx3, .bool (decide (f < 0)), .slice Ax4 (Za f.natAbs).length cx4] 26)).trans (hb.mono (by simp))
 clear x0 x1 x2 x3 x4 x5 x6 x7
 have P_x := Hd (P_x.out.below hb)
 have PR := Hd (PR.out.below hb)
 have OX := Hd (OX.out.below hb)
 have HB := Hd (Zb HB.out hb)
 clear hb
 obtain ⟨l_r, r0, r1, r2, r3, r4, r5, r6, r7⟩ := PR.out.facts
 obtain ⟨f0, f1, f2, f3, f4, f5, f6, f7⟩ := PR.out.free
 have HQ := Hd (gzero PR.out HB.out (show w.heap.size <= w.heap.size + 1 by omega))
 go_wp2_with fail
 obtain ⟨_, k0, k1, k2, k3, k4, k5, k6, k7⟩ := HQ.out.1.facts
 exact bodyPost_ret (by simp [results, Tryz.results107, go_sem, k0, k1, k2, k3, k4, k5, k6, k7]) rfl ⟨_, rfl, (Zt.nought _ 0).in_, HQ.out.2⟩

theorem ref03_Reckoned_bad_x {i : Int} {n1 n2 n3 n4 : Bool} {xs ys us vs : List Nat} {m1 m2 m3 m4 : Bool} {ps qs rs ts : List Nat} (C1 : Xa 105 n1 n2 n3 n4 xs ys us vs false) (w : World) (v_x v_y : Value) (g_x : Zn w v_x n1 n2 n3 n4 xs ys us vs) (g_y : Zn w v_y m1 m2 m3 m4 ps qs rs ts)  :
  Calls Tryz.prog 23 #[.int .i64 i, v_x, v_y] w (Z5 w 0 0 0 0 1) := by
 obtain ⟨Ax1, cx1, Ax2, cx2, Ax3, cx3, Ax4, cx4, rfl, -⟩ := g_x.form
 obtain ⟨Ay1, cy1, Ay2, cy2, Ay3, cy3, Ay4, cy4, rfl, -⟩ := g_y.form
 have H1 := Hd C1
 clear C1
 have G_x := Hd g_x
 have G_y := Hd g_y
 clear g_x g_y
 go_enter Tryz.func23, Tryz.ntmps23
 go_upto_region 1 with fail
 refine Z0 (P := fun W => Code.wp _ _ _ _ W) fun W p0 p1 p2 b0 => ?_
 have P_x := Hd (ZF.mk p0)
 have P_y := Hd (ZF.mk p1)
 have PR := Hd (ZF.mk p2)
 have HB := Hd b0
 clear b0 p0 p1 p2
 obtain ⟨-, x0, x1, x2, x3, x4, x5, x6, x7⟩ := P_x.out.facts
 go_wp2_with fail
 refine (H1.out W _ (G_x.out.below HB.out)).mono ?_
 rintro e wx1 ⟨rfl, hb⟩
 clear x0 x1 x2 x3 x4 x5 x6 x7
 have P_x := Hd (P_x.out.below hb)
 have P_y := Hd (P_y.out.below hb)
 have PR := Hd (PR.out.below hb)
 have HB := Hd (Zb HB.out hb)
 clear hb
 obtain ⟨l_r, r0, r1, r2, r3, r4, r5, r6, r7⟩ := PR.out.facts
 obtain ⟨f0, f1, f2, f3, f4, f5, f6, f7⟩ := PR.out.free
 have HQ := Hd (gzero PR.out HB.out (show w.heap.size <= w.heap.size + 1 + 1 by omega))
 go_wp2_with fail
 obtain ⟨_, k0, k1, k2, k3, k4, k5, k6, k7⟩ := HQ.out.1.facts
 exact bodyPost_ret (by simp [results, Tryz.results23, go_sem, k0, k1, k2, k3, k4, k5, k6, k7]) rfl ⟨_, rfl, (Zt.nought _ 0).in_, HQ.out.2⟩

theorem ref03_Reckoned_bad_y {i : Int} {n1 n2 n3 n4 : Bool} {xs ys us vs : List Nat} {m1 m2 m3 m4 : Bool} {ps qs rs ts : List Nat} (C1 : Xa 105 n1 n2 n3 n4 xs ys us vs true) (C2 : Xa 105 m1 m2 m3 m4 ps qs rs ts false) (w : World) (v_x v_y : Value) (g_x : Zn w v_x n1 n2 n3 n4 xs ys us vs) (g_y : Zn w v_y m1 m2 m3 m4 ps qs rs ts)  :
  Calls Tryz.prog 23 #[.int .i64 i, v_x, v_y] w (Z5 w 0 0 0 0 1) := by
 obtain ⟨Ax1, cx1, Ax2, cx2, Ax3, cx3, Ax4, cx4, rfl, -⟩ := g_x.form
 obtain ⟨Ay1, cy1, Ay2, cy2, Ay3, cy3, Ay4, cy4, rfl, -⟩ := g_y.form
 have H1 := Hd C1
 have H2 := Hd C2
 clear C1 C2
 have G_x := Hd g_x
 have G_y := Hd g_y
 clear g_x g_y
 go_enter Tryz.func23, Tryz.ntmps23
 go_upto_region 1 with fail
 refine Z0 (P := fun W => Code.wp _ _ _ _ W) fun W p0 p1 p2 b0 => ?_
 have P_x := Hd (ZF.mk p0)
 have P_y := Hd (ZF.mk p1)
 have PR := Hd (ZF.mk p2)
 have HB := Hd b0
 clear b0 p0 p1 p2
 obtain ⟨-, x0, x1, x2, x3, x4, x5, x6, x7⟩ := P_x.out.facts
 go_wp2_with fail
 refine (H1.out W _ (G_x.out.below HB.out)).mono ?_
 rintro e wx1 ⟨rfl, hb⟩
 clear x0 x1 x2 x3 x4 x5 x6 x7
 have P_x := Hd (P_x.out.below hb)
 have P_y := Hd (P_y.out.below hb)
 have PR := Hd (PR.out.below hb)
 have HB := Hd (Zb HB.out hb)
 clear hb
 obtain ⟨-, y0, y1, y2, y3, y4, y5, y6, y7⟩ := P_y.out.facts
 go_wp2_with fail
 refine (H2.out wx1 _ (G_y.out.below HB.out)).mono ?_
 rintro e wx2 ⟨rfl, hb⟩
 clear y0 y1 y2 y3 y4 y5 y6 y7
 have P_x := Hd (P_x.out.below hb)
 have P_y := Hd (P_y.out.below hb)
 have PR := Hd (PR.out.below hb)
 have HB := Hd (Zb HB.out hb)
 clear hb
 obtain ⟨l_r, r0, r1, r2, r3, r4, r5, r6, r7⟩ := PR.out.facts
 obtain ⟨f0, f1, f2, f3, f4, f5, f6, f7⟩ := PR.out.free
 have HQ := Hd (gzero PR.out HB.out (show w.heap.size <= w.heap.size + 1 + 1 by omega))
 go_wp2_with fail
 obtain ⟨_, k0, k1, k2, k3, k4, k5, k6, k7⟩ := HQ.out.1.facts
 exact bodyPost_ret (by simp [results, Tryz.results23, go_sem, k0, k1, k2, k3, k4, k5, k6, k7]) rfl ⟨_, rfl, (Zt.nought _ 0).in_, HQ.out.2⟩

theorem ref03_Reckoned_Plus {n d m f p q r s T1 T2 T3 T4 N D M E k : Int} (C1 : Xa 105 (decide (n < 0)) (decide (d < 0)) (decide (m < 0)) (decide (f < 0)) (Za n.natAbs) (Za d.natAbs) (Za m.natAbs) (Za f.natAbs) true) (C2 : Xa 105 (decide (p < 0)) (decide (q < 0)) (decide (r < 0)) (decide (s < 0)) (Za p.natAbs) (Za q.natAbs) (Za r.natAbs) (Za s.natAbs) true) (C3 : OpGI 108 n d m f p q r s T1 T2 T3 T4) (C4 : AnsIG T1 T2 T3 T4 N D M E k) (w : World) (v_x v_y : Value) (g_x : Zh w v_x n d m f) (g_y : Zh w v_y p q r s)  :
  Calls Tryz.prog 23 #[.int .i64 1, v_x, v_y] w (Z5 w N D M E k) := by
 obtain ⟨Ax1, cx1, Ax2, cx2, Ax3, cx3, Ax4, cx4, rfl, -⟩ := g_x.form
 obtain ⟨Ay1, cy1, Ay2, cy2, Ay3, cy3, Ay4, cy4, rfl, -⟩ := g_y.form
 have H1 := Hd C1
 have H2 := Hd C2
 have H3 := Hd C3
 have H4 := Hd C4
 clear C1 C2 C3 C4
 have G_x := Hd g_x
 have G_y := Hd g_y
 clear g_x g_y
 go_enter Tryz.func23, Tryz.ntmps23
 go_upto_region 1 with fail
 refine Z0 (P := fun W => Code.wp _ _ _ _ W) fun W p0 p1 p2 b0 => ?_
 have P_x := Hd (ZF.mk p0)
 have P_y := Hd (ZF.mk p1)
 have PR := Hd (ZF.mk p2)
 have HB := Hd b0
 clear b0 p0 p1 p2
 obtain ⟨-, x0, x1, x2, x3, x4, x5, x6, x7⟩ := P_x.out.facts
 go_wp2_with fail
 refine (H1.out W _ (G_x.out.below HB.out).raw).mono ?_
 rintro e wx1 ⟨rfl, hb⟩
 clear x0 x1 x2 x3 x4 x5 x6 x7
 have P_x := Hd (P_x.out.below hb)
 have P_y := Hd (P_y.out.below hb)
 have PR := Hd (PR.out.below hb)
 have HB := Hd (Zb HB.out hb)
 clear hb
 obtain ⟨-, y0, y1, y2, y3, y4, y5, y6, y7⟩ := P_y.out.facts
 go_wp2_with fail
 refine (H2.out wx1 _ (G_y.out.below HB.out).raw).mono ?_
 rintro e wx2 ⟨rfl, hb⟩
 clear y0 y1 y2 y3 y4 y5 y6 y7
 have P_x := Hd (P_x.out.below hb)
 have P_y := Hd (P_y.out.below hb)
 have PR := Hd (PR.out.below hb)
 have HB := Hd (Zb HB.out hb)
 clear hb
 obtain ⟨-, x0, x1, x2, x3, x4, x5, x6, x7⟩ := P_x.out.facts
 obtain ⟨-, y0, y1, y2, y3, y4, y5, y6, y7⟩ := P_y.out.facts
 go_wp2_with fail
 refine (H3.out wx2 _ _ (G_x.out.below HB.out) (G_y.out.below HB.out)).mono ?_
 rintro e wt ⟨v, rfl, hI, hb⟩
 clear x0 x1 x2 x3 x4 x5 x6 x7 y0 y1 y2 y3 y4 y5 y6 y7
 have HI0 := Hd hI
 have P_x := Hd (P_x.out.below hb)
 have P_y := Hd (P_y.out.below hb)
 have PR := Hd (PR.out.below hb)
 have HB := Hd (Zb HB.out hb)
 clear hI hb
 go_wp2_with fail
 refine (H4.out wt _ HI0.out).mono ?_
 rintro e w9 ⟨v, rfl, hI, hb⟩
 obtain ⟨A6, c6, A7, c7, A8, c8, A9, c9, rfl, -⟩ := hI.form
 have pr := PR.out.below hb
 have hb9 := Zb HB.out hb
 obtain ⟨l_r, r0, r1, r2, r3, r4, r5, r6, r7⟩ := pr.facts
 obtain ⟨f0, f1, f2, f3, f4, f5, f6, f7⟩ := pr.free
 have H9 := Hd (istore hI pr hb9 (show w.heap.size <= w.heap.size + 1 + 1 by omega) (by decide))
 clear hb hb9 pr hI
 go_wp2_with fail
 obtain ⟨_, k0, k1, k2, k3, k4, k5, k6, k7⟩ := H9.out.1.facts
 exact bodyPost_ret (by simp [results, Tryz.results23, go_sem, k0, k1, k2, k3, k4, k5, k6, k7]) rfl ⟨_, rfl, H9.out.2.2, H9.out.2.1⟩

theorem ref03_Reckoned_Minus {n d m f p q r s T1 T2 T3 T4 N D M E k : Int} (C1 : Xa 105 (decide (n < 0)) (decide (d < 0)) (decide (m < 0)) (decide (f < 0)) (Za n.natAbs) (Za d.natAbs) (Za m.natAbs) (Za f.natAbs) true) (C2 : Xa 105 (decide (p < 0)) (decide (q < 0)) (decide (r < 0)) (decide (s < 0)) (Za p.natAbs) (Za q.natAbs) (Za r.natAbs) (Za s.natAbs) true) (C3 : OpGI 109 n d m f p q r s T1 T2 T3 T4) (C4 : AnsIG T1 T2 T3 T4 N D M E k) (w : World) (v_x v_y : Value) (g_x : Zh w v_x n d m f) (g_y : Zh w v_y p q r s)  :
  Calls Tryz.prog 23 #[.int .i64 2, v_x, v_y] w (Z5 w N D M E k) := by
 obtain ⟨Ax1, cx1, Ax2, cx2, Ax3, cx3, Ax4, cx4, rfl, -⟩ := g_x.form
 obtain ⟨Ay1, cy1, Ay2, cy2, Ay3, cy3, Ay4, cy4, rfl, -⟩ := g_y.form
 have H1 := Hd C1
 have H2 := Hd C2
 have H3 := Hd C3
 have H4 := Hd C4
 clear C1 C2 C3 C4
 have G_x := Hd g_x
 have G_y := Hd g_y
 clear g_x g_y
 go_enter Tryz.func23, Tryz.ntmps23
 go_upto_region 1 with fail
 refine Z0 (P := fun W => Code.wp _ _ _ _ W) fun W p0 p1 p2 b0 => ?_
 have P_x := Hd (ZF.mk p0)
 have P_y := Hd (ZF.mk p1)
 have PR := Hd (ZF.mk p2)
 have HB := Hd b0
 clear b0 p0 p1 p2
 obtain ⟨-, x0, x1, x2, x3, x4, x5, x6, x7⟩ := P_x.out.facts
 go_wp2_with fail
 refine (H1.out W _ (G_x.out.below HB.out).raw).mono ?_
 rintro e wx1 ⟨rfl, hb⟩
 clear x0 x1 x2 x3 x4 x5 x6 x7
 have P_x := Hd (P_x.out.below hb)
 have P_y := Hd (P_y.out.below hb)
 have PR := Hd (PR.out.below hb)
 have HB := Hd (Zb HB.out hb)
 clear hb
 obtain ⟨-, y0, y1, y2, y3, y4, y5, y6, y7⟩ := P_y.out.facts
 go_wp2_with fail
 refine (H2.out wx1 _ (G_y.out.below HB.out).raw).mono ?_
 rintro e wx2 ⟨rfl, hb⟩
 clear y0 y1 y2 y3 y4 y5 y6 y7
 have P_x := Hd (P_x.out.below hb)
 have P_y := Hd (P_y.out.below hb)
 have PR := Hd (PR.out.below hb)
 have HB := Hd (Zb HB.out hb)
 clear hb
 obtain ⟨-, x0, x1, x2, x3, x4, x5, x6, x7⟩ := P_x.out.facts
 obtain ⟨-, y0, y1, y2, y3, y4, y5, y6, y7⟩ := P_y.out.facts
 go_wp2_with fail
 refine (H3.out wx2 _ _ (G_x.out.below HB.out) (G_y.out.below HB.out)).mono ?_
 rintro e wt ⟨v, rfl, hI, hb⟩
 clear x0 x1 x2 x3 x4 x5 x6 x7 y0 y1 y2 y3 y4 y5 y6 y7
 have HI0 := Hd hI
 have P_x := Hd (P_x.out.below hb)
 have P_y := Hd (P_y.out.below hb)
 have PR := Hd (PR.out.below hb)
 have HB := Hd (Zb HB.out hb)
 clear hI hb
 go_wp2_with fail
 refine (H4.out wt _ HI0.out).mono ?_
 rintro e w9 ⟨v, rfl, hI, hb⟩
 obtain ⟨A6, c6, A7, c7, A8, c8, A9, c9, rfl, -⟩ := hI.form
 have pr := PR.out.below hb
 have hb9 := Zb HB.out hb
 obtain ⟨l_r, r0, r1, r2, r3, r4, r5, r6, r7⟩ := pr.facts
 obtain ⟨f0, f1, f2, f3, f4, f5, f6, f7⟩ := pr.free
 have H9 := Hd (istore hI pr hb9 (show w.heap.size <= w.heap.size + 1 + 1 by omega) (by decide))
 clear hb hb9 pr hI
 go_wp2_with fail
 obtain ⟨_, k0, k1, k2, k3, k4, k5, k6, k7⟩ := H9.out.1.facts
 exact bodyPost_ret (by simp [results, Tryz.results23, go_sem, k0, k1, k2, k3, k4, k5, k6, k7]) rfl ⟨_, rfl, H9.out.2.2, H9.out.2.1⟩

theorem ref03_Reckoned_Times {n d m f p q r s T1 T2 T3 T4 N D M E k : Int} (C1 : Xa 105 (decide (n < 0)) (decide (d < 0)) (decide (m < 0)) (decide (f < 0)) (Za n.natAbs) (Za d.natAbs) (Za m.natAbs) (Za f.natAbs) true) (C2 : Xa 105 (decide (p < 0)) (decide (q < 0)) (decide (r < 0)) (decide (s < 0)) (Za p.natAbs) (Za q.natAbs) (Za r.natAbs) (Za s.natAbs) true) (C3 : OpGI 110 n d m f p q r s T1 T2 T3 T4) (C4 : AnsIG T1 T2 T3 T4 N D M E k) (w : World) (v_x v_y : Value) (g_x : Zh w v_x n d m f) (g_y : Zh w v_y p q r s)  :
  Calls Tryz.prog 23 #[.int .i64 3, v_x, v_y] w (Z5 w N D M E k) := by
 obtain ⟨Ax1, cx1, Ax2, cx2, Ax3, cx3, Ax4, cx4, rfl, -⟩ := g_x.form
 obtain ⟨Ay1, cy1, Ay2, cy2, Ay3, cy3, Ay4, cy4, rfl, -⟩ := g_y.form
 have H1 := Hd C1
 have H2 := Hd C2
 have H3 := Hd C3
 have H4 := Hd C4
 clear C1 C2 C3 C4
 have G_x := Hd g_x
 have G_y := Hd g_y
 clear g_x g_y
 go_enter Tryz.func23, Tryz.ntmps23
 go_upto_region 1 with fail
 refine Z0 (P := fun W => Code.wp _ _ _ _ W) fun W p0 p1 p2 b0 => ?_
 have P_x := Hd (ZF.mk p0)
 have P_y := Hd (ZF.mk p1)
 have PR := Hd (ZF.mk p2)
 have HB := Hd b0
 clear b0 p0 p1 p2
 obtain ⟨-, x0, x1, x2, x3, x4, x5, x6, x7⟩ := P_x.out.facts
 go_wp2_with fail
 refine (H1.out W _ (G_x.out.below HB.out).raw).mono ?_
 rintro e wx1 ⟨rfl, hb⟩
 clear x0 x1 x2 x3 x4 x5 x6 x7
 have P_x := Hd (P_x.out.below hb)
 have P_y := Hd (P_y.out.below hb)
 have PR := Hd (PR.out.below hb)
 have HB := Hd (Zb HB.out hb)
 clear hb
 obtain ⟨-, y0, y1, y2, y3, y4, y5, y6, y7⟩ := P_y.out.facts
 go_wp2_with fail
 refine (H2.out wx1 _ (G_y.out.below HB.out).raw).mono ?_
 rintro e wx2 ⟨rfl, hb⟩
 clear y0 y1 y2 y3 y4 y5 y6 y7
 have P_x := Hd (P_x.out.below hb)
 have P_y := Hd (P_y.out.below hb)
 have PR := Hd (PR.out.below hb)
 have HB := Hd (Zb HB.out hb)
 clear hb
 obtain ⟨-, x0, x1, x2, x3, x4, x5, x6, x7⟩ := P_x.out.facts
 obtain ⟨-, y0, y1, y2, y3, y4, y5, y6, y7⟩ := P_y.out.facts
 go_wp2_with fail
 refine (H3.out wx2 _ _ (G_x.out.below HB.out) (G_y.out.below HB.out)).mono ?_
 rintro e wt ⟨v, rfl, hI, hb⟩
 clear x0 x1 x2 x3 x4 x5 x6 x7 y0 y1 y2 y3 y4 y5 y6 y7
 have HI0 := Hd hI
 have P_x := Hd (P_x.out.below hb)
 have P_y := Hd (P_y.out.below hb)
 have PR := Hd (PR.out.below hb)
 have HB := Hd (Zb HB.out hb)
 clear hI hb
 go_wp2_with fail
 refine (H4.out wt _ HI0.out).mono ?_
 rintro e w9 ⟨v, rfl, hI, hb⟩
 obtain ⟨A6, c6, A7, c7, A8, c8, A9, c9, rfl, -⟩ := hI.form
 have pr := PR.out.below hb
 have hb9 := Zb HB.out hb
 obtain ⟨l_r, r0, r1, r2, r3, r4, r5, r6, r7⟩ := pr.facts
 obtain ⟨f0, f1, f2, f3, f4, f5, f6, f7⟩ := pr.free
 have H9 := Hd (istore hI pr hb9 (show w.heap.size <= w.heap.size + 1 + 1 by omega) (by decide))
 clear hb hb9 pr hI
 go_wp2_with fail
 obtain ⟨_, k0, k1, k2, k3, k4, k5, k6, k7⟩ := H9.out.1.facts
 exact bodyPost_ret (by simp [results, Tryz.results23, go_sem, k0, k1, k2, k3, k4, k5, k6, k7]) rfl ⟨_, rfl, H9.out.2.2, H9.out.2.1⟩

theorem ref03_Reckoned_Over {n d m f p q r s T1 T2 T3 T4 N D M E k : Int} (C1 : Xa 105 (decide (n < 0)) (decide (d < 0)) (decide (m < 0)) (decide (f < 0)) (Za n.natAbs) (Za d.natAbs) (Za m.natAbs) (Za f.natAbs) true) (C2 : Xa 105 (decide (p < 0)) (decide (q < 0)) (decide (r < 0)) (decide (s < 0)) (Za p.natAbs) (Za q.natAbs) (Za r.natAbs) (Za s.natAbs) true) (C5 : NoughtG 111 p q r s false) (C3 : OpGI 112 n d m f p q r s T1 T2 T3 T4) (C4 : AnsIG T1 T2 T3 T4 N D M E k) (w : World) (v_x v_y : Value) (g_x : Zh w v_x n d m f) (g_y : Zh w v_y p q r s)  :
  Calls Tryz.prog 23 #[.int .i64 4, v_x, v_y] w (Z5 w N D M E k) := by
 obtain ⟨Ax1, cx1, Ax2, cx2, Ax3, cx3, Ax4, cx4, rfl, -⟩ := g_x.form
 obtain ⟨Ay1, cy1, Ay2, cy2, Ay3, cy3, Ay4, cy4, rfl, -⟩ := g_y.form
 have H1 := Hd C1
 have H2 := Hd C2
 have H5 := Hd C5
 have H3 := Hd C3
 have H4 := Hd C4
 clear C1 C2 C5 C3 C4
 have G_x := Hd g_x
 have G_y := Hd g_y
 clear g_x g_y
 go_enter Tryz.func23, Tryz.ntmps23
 go_upto_region 1 with fail
 refine Z0 (P := fun W => Code.wp _ _ _ _ W) fun W p0 p1 p2 b0 => ?_
 have P_x := Hd (ZF.mk p0)
 have P_y := Hd (ZF.mk p1)
 have PR := Hd (ZF.mk p2)
 have HB := Hd b0
 clear b0 p0 p1 p2
 obtain ⟨-, x0, x1, x2, x3, x4, x5, x6, x7⟩ := P_x.out.facts
 go_wp2_with fail
 refine (H1.out W _ (G_x.out.below HB.out).raw).mono ?_
 rintro e wx1 ⟨rfl, hb⟩
 clear x0 x1 x2 x3 x4 x5 x6 x7
 have P_x := Hd (P_x.out.below hb)
 have P_y := Hd (P_y.out.below hb)
 have PR := Hd (PR.out.below hb)
 have HB := Hd (Zb HB.out hb)
 clear hb
 obtain ⟨-, y0, y1, y2, y3, y4, y5, y6, y7⟩ := P_y.out.facts
 go_wp2_with fail
 refine (H2.out wx1 _ (G_y.out.below HB.out).raw).mono ?_
 rintro e wx2 ⟨rfl, hb⟩
 clear y0 y1 y2 y3 y4 y5 y6 y7
 have P_x := Hd (P_x.out.below hb)
 have P_y := Hd (P_y.out.below hb)
 have PR := Hd (PR.out.below hb)
 have HB := Hd (Zb HB.out hb)
 clear hb
 obtain ⟨-, y0, y1, y2, y3, y4, y5, y6, y7⟩ := P_y.out.facts
 go_wp2_with fail
 refine (H5.out wx2 _ (G_y.out.below HB.out)).mono ?_
 rintro e wx3 ⟨rfl, hb⟩
 clear y0 y1 y2 y3 y4 y5 y6 y7
 have P_x := Hd (P_x.out.below hb)
 have P_y := Hd (P_y.out.below hb)
 have PR := Hd (PR.out.below hb)
 have HB := Hd (Zb HB.out hb)
 clear hb
 obtain ⟨-, x0, x1, x2, x3, x4, x5, x6, x7⟩ := P_x.out.facts
 obtain ⟨-, y0, y1, y2, y3, y4, y5, y6, y7⟩ := P_y.out.facts
 go_wp2_with fail
 refine (H3.out wx3 _ _ (G_x.out.below HB.out) (G_y.out.below HB.out)).mono ?_
 rintro e wt ⟨v, rfl, hI, hb⟩
 clear x0 x1 x2 x3 x4 x5 x6 x7 y0 y1 y2 y3 y4 y5 y6 y7
 have HI0 := Hd hI
 have P_x := Hd (P_x.out.below hb)
 have P_y := Hd (P_y.out.below hb)
 have PR := Hd (PR.out.below hb)
 have HB := Hd (Zb HB.out hb)
 clear hI hb
 go_wp2_with fail
 refine (H4.out wt _ HI0.out).mono ?_
 rintro e w9 ⟨v, rfl, hI, hb⟩
 obtain ⟨A6, c6, A7, c7, A8, c8, A9, c9, rfl, -⟩ := hI.form
 have pr := PR.out.below hb
 have hb9 := Zb HB.out hb
 obtain ⟨l_r, r0, r1, r2, r3, r4, r5, r6, r7⟩ := pr.facts
 obtain ⟨f0, f1, f2, f3, f4, f5, f6, f7⟩ := pr.free
 have H9 := Hd (istore hI pr hb9 (show w.heap.size <= w.heap.size + 1 + 1 by omega) (by decide))
 clear hb hb9 pr hI
 go_wp2_with fail
 obtain ⟨_, k0, k1, k2, k3, k4, k5, k6, k7⟩ := H9.out.1.facts
 exact bodyPost_ret (by simp [results, Tryz.results23, go_sem, k0, k1, k2, k3, k4, k5, k6, k7]) rfl ⟨_, rfl, H9.out.2.2, H9.out.2.1⟩

theorem ref03_Reckoned_zero {n d m f p q r s : Int} (C1 : Xa 105 (decide (n < 0)) (decide (d < 0)) (decide (m < 0)) (decide (f < 0)) (Za n.natAbs) (Za d.natAbs) (Za m.natAbs) (Za f.natAbs) true) (C2 : Xa 105 (decide (p < 0)) (decide (q < 0)) (decide (r < 0)) (decide (s < 0)) (Za p.natAbs) (Za q.natAbs) (Za r.natAbs) (Za s.natAbs) true) (C5 : NoughtG 111 p q r s true) (w : World) (v_x v_y : Value) (g_x : Zh w v_x n d m f) (g_y : Zh w v_y p q r s)  :
  Calls Tryz.prog 23 #[.int .i64 4, v_x, v_y] w (Z5 w 0 0 0 0 3) := by
 obtain ⟨Ax1, cx1, Ax2, cx2, Ax3, cx3, Ax4, cx4, rfl, -⟩ := g_x.form
 obtain ⟨Ay1, cy1, Ay2, cy2, Ay3, cy3, Ay4, cy4, rfl, -⟩ := g_y.form
 have H1 := Hd C1
 have H2 := Hd C2
 have H5 := Hd C5
 clear C1 C2 C5
 have G_x := Hd g_x
 have G_y := Hd g_y
 clear g_x g_y
 go_enter Tryz.func23, Tryz.ntmps23
 go_upto_region 1 with fail
 refine Z0 (P := fun W => Code.wp _ _ _ _ W) fun W p0 p1 p2 b0 => ?_
 have P_x := Hd (ZF.mk p0)
 have P_y := Hd (ZF.mk p1)
 have PR := Hd (ZF.mk p2)
 have HB := Hd b0
 clear b0 p0 p1 p2
 obtain ⟨-, x0, x1, x2, x3, x4, x5, x6, x7⟩ := P_x.out.facts
 go_wp2_with fail
 refine (H1.out W _ (G_x.out.below HB.out).raw).mono ?_
 rintro e wx1 ⟨rfl, hb⟩
 clear x0 x1 x2 x3 x4 x5 x6 x7
 have P_x := Hd (P_x.out.below hb)
 have P_y := Hd (P_y.out.below hb)
 have PR := Hd (PR.out.below hb)
 have HB := Hd (Zb HB.out hb)
 clear hb
 obtain ⟨-, y0, y1, y2, y3, y4, y5, y6, y7⟩ := P_y.out.facts
 go_wp2_with fail
 refine (H2.out wx1 _ (G_y.out.below HB.out).raw).mono ?_
 rintro e wx2 ⟨rfl, hb⟩
 clear y0 y1 y2 y3 y4 y5 y6 y7
 have P_x := Hd (P_x.out.below hb)
 have P_y := Hd (P_y.out.below hb)
 have PR := Hd (PR.out.below hb)
 have HB := Hd (Zb HB.out hb)
 clear hb
 obtain ⟨-, y0, y1, y2, y3, y4, y5, y6, y7⟩ := P_y.out.facts
 go_wp2_with fail
 refine (H5.out wx2 _ (G_y.out.below HB.out)).mono ?_
 rintro e wx3 ⟨rfl, hb⟩
 clear y0 y1 y2 y3 y4 y5 y6 y7
 have P_x := Hd (P_x.out.below hb)
 have P_y := Hd (P_y.out.below hb)
 have PR := Hd (PR.out.below hb)
 have HB := Hd (Zb HB.out hb)
 clear hb
 obtain ⟨l_r, r0, r1, r2, r3, r4, r5, r6, r7⟩ := PR.out.facts
 obtain ⟨f0, f1, f2, f3, f4, f5, f6, f7⟩ := PR.out.free
 have HQ := Hd (gzero PR.out HB.out (show w.heap.size <= w.heap.size + 1 + 1 by omega))
 go_wp2_with fail
 obtain ⟨_, k0, k1, k2, k3, k4, k5, k6, k7⟩ := HQ.out.1.facts
 exact bodyPost_ret (by simp [results, Tryz.results23, go_sem, k0, k1, k2, k3, k4, k5, k6, k7]) rfl ⟨_, rfl, (Zt.nought _ 0).in_, HQ.out.2⟩
end Go.Proofs.YthlehkjcfhnplaaGreatDoor
