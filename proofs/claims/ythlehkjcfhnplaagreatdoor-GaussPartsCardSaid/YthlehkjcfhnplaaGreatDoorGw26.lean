/- Several texts in one: Gauss, Ref03, Ref03Law, ArgandAns, Ref03b. -/
import Derived.Test.YthlehkjcfhnplaaGreatDoorGw25
set_option maxRecDepth 100000
set_option maxHeartbeats 8000000
/- May, Nought, Answer of argand; package gauss. (Written by wip/gauss/gengauss.py.) -/
namespace Go.Proofs.YthlehkjcfhnplaaGreatDoor
open Go.RowKit

def zeroG : Value := .agg #[.bool false, .slice none 0 0, .bool false, .slice none 0 0, .bool false, .slice none 0 0, .bool false, .slice none 0 0]
abbrev MayG (F : FuncId) (n1 n2 n3 n4 : Bool) (xs ys us vs : List Nat) (b : Bool) : Prop := ∀ (V : World) (v : Value), ZI V v n1 n2 n3 n4 xs ys us vs -> Calls Tryz.prog F #[v] V fun e w' => e = .returned (.bool b) /\ Below V.heap.size V w'
abbrev AnsG (F : FuncId) (n d m f k : Int) : Prop := ∀ (V : World) (g : Nat) (v : Value) (A1 A2 A3 A4 : Option Addr) (c1 c2 c3 c4 : Nat), V.heap.size = g -> v = .agg #[.bool (decide (n < 0)), .slice A1 (Za n.natAbs).length c1, .bool (decide (d < 0)), .slice A2 (Za d.natAbs).length c2, .bool (decide (m < 0)), .slice A3 (Za m.natAbs).length c3, .bool (decide (f < 0)), .slice A4 (Za f.natAbs).length c4] ->
 (Za n.natAbs).length <= 9223372036854775807 -> (Za d.natAbs).length <= 9223372036854775807 -> (Za m.natAbs).length <= 9223372036854775807 -> (Za f.natAbs).length <= 9223372036854775807 ->
 Calls Tryz.prog F #[.slice (some ⟨g, 0, none⟩) 1 1] (V.alloc (.cells #[.bool (decide (n < 0)), .slice A1 (Za n.natAbs).length c1, .bool (decide (d < 0)), .slice A2 (Za d.natAbs).length c2, .bool (decide (m < 0)), .slice A3 (Za m.natAbs).length c3, .bool (decide (f < 0)), .slice A4 (Za f.natAbs).length c4] 28)) fun e w' => e = .returned (.int .i64 k) /\ Below (V.heap.size + 1) (V.alloc (.cells #[.bool (decide (n < 0)), .slice A1 (Za n.natAbs).length c1, .bool (decide (d < 0)), .slice A2 (Za d.natAbs).length c2, .bool (decide (m < 0)), .slice A3 (Za m.natAbs).length c3, .bool (decide (f < 0)), .slice A4 (Za f.natAbs).length c4] 28)) w'
abbrev JT (n d m f N D M E k : Int) : Prop := ∀ (V : World) (base : Nat) (v : Value), base <= V.heap.size -> Zv V base v n d m f -> Calls Tryz.prog 125 #[v] V (ZS base V N D M E k)
abbrev NoughtG (F : FuncId) (n d m f : Int) (b : Bool) : Prop := ∀ (V : World) (v : Value), Zp V v n d m f -> Calls Tryz.prog F #[v] V fun e w' => e = .returned (.bool b) /\ Below V.heap.size V w'
abbrev OpGR2 (F : FuncId) (n1 n2 n3 n4 : Bool) (xs ys us vs : List Nat) (m1 m2 m3 m4 : Bool) (ps qs rs ts : List Nat) (N D M E k : Int) : Prop := ∀ (V : World) (v1 v2 : Value), ZI V v1 n1 n2 n3 n4 xs ys us vs -> ZI V v2 m1 m2 m3 m4 ps qs rs ts -> Calls Tryz.prog F #[v1, v2] V (ZS V.heap.size V N D M E k)
abbrev OpG2 (F : FuncId) (n d m f p q r s N D M E k : Int) : Prop := ∀ (V : World) (v1 v2 : Value), Zp V v1 n d m f -> Zp V v2 p q r s -> Calls Tryz.prog F #[v1, v2] V (ZS V.heap.size V N D M E k)

theorem may_g {n1 n2 n3 n4 : Bool} {xs ys us vs : List Nat} {b : Bool} (hc : (YU n1 n2 xs ys == 0 && YU n3 n4 us vs == 0) = b) (w : World) (v_x : Value) (g_x : ZI w v_x n1 n2 n3 n4 xs ys us vs)  :
   Calls Tryz.prog 55 #[v_x] w fun e w' => e = .returned (.bool b) /\ Below w.heap.size w w' := by
 obtain ⟨Ax1, cx1, Ax2, cx2, Ax3, cx3, Ax4, cx4, rfl, -⟩ := g_x.form
 have D1 := fun (V : World) (g' : Nat) (a1 : Zi V Ax1 cx1 xs) (a2 : Zi V Ax2 cx2 ys) (a3 : Zi V Ax3 cx3 us) (a4 : Zi V Ax4 cx4 vs) (hg : V.heap.size = g') => checks_two n1 n2 n3 n4 Ax1 Ax2 Ax3 Ax4 cx1 cx2 cx3 cx4 xs ys us vs V g' a1 a2 a3 a4 hg
 rw [hc] at D1
 have H1 := Hd D1
 clear D1 hc
 have G_x := Hd g_x
 clear g_x
 go_enter Tryz.func55, Tryz.ntmps55
 go_upto_region 1 with fail
 refine XF (P := fun W => Code.wp _ _ _ _ W) fun W p0 b0 => ?_
 have P_x := Hd (Z6.mk p0)
 have HB := Hd b0
 clear b0 p0
 obtain ⟨-, x0, x1, x2, x3, x4, x5, x6, x7⟩ := P_x.out.facts
 go_wp2_with fail
 obtain ⟨s1, s2, s3, s4⟩ := (G_x.out.below HB.out).raws
 refine (H1.out W _ s1 s2 s3 s4 rfl).mono ?_
 rintro e w9 ⟨rfl, hb⟩
 have HB9 := Hd (Zb (HB.out.alloc HB.out.size (.cells #[.bool n1, .slice Ax1 xs.length cx1, .bool n2, .slice Ax2 ys.length cx2, .bool n3, .slice Ax3 us.length cx3, .bool n4, .slice Ax4 vs.length cx4] 26)) hb)
 clear x0 x1 x2 x3 x4 x5 x6 x7
 clear hb s1 s2 s3 s4
 go_wp2_with fail
 go_ret
 exact ⟨rfl, HB9.out⟩

theorem may_raw (n1 n2 n3 n4 : Bool) (xs ys us vs : List Nat) : MayG 55 n1 n2 n3 n4 xs ys us vs (YU n1 n2 xs ys == 0 && YU n3 n4 us vs == 0) := by
 intro V v g1
 exact may_g rfl V v g1

theorem both_bad_x {fv : Value} {n1 n2 n3 n4 : Bool} {xs ys us vs : List Nat} {m1 m2 m3 m4 : Bool} {ps qs rs ts : List Nat} (C1 : MayG 55 n1 n2 n3 n4 xs ys us vs false) (w : World) (v_x v_y : Value) (g_x : ZI w v_x n1 n2 n3 n4 xs ys us vs) (g_y : ZI w v_y m1 m2 m3 m4 ps qs rs ts)  :
   Calls Tryz.prog 114 #[v_x, v_y, fv] w (ZS w.heap.size w 0 0 0 0 1) := by
 obtain ⟨Ax1, cx1, Ax2, cx2, Ax3, cx3, Ax4, cx4, rfl, -⟩ := g_x.form
 obtain ⟨Ay1, cy1, Ay2, cy2, Ay3, cy3, Ay4, cy4, rfl, -⟩ := g_y.form
 have H1 := Hd C1
 clear C1
 have G_x := Hd g_x
 have G_y := Hd g_y
 clear g_x g_y
 go_enter Tryz.func114, Tryz.ntmps114
 go_upto_region 1 with fail
 refine XZ (P := fun W => Code.wp _ _ _ _ W) fun W p0 p1 p2 b0 => ?_
 have P_x := Hd (Z6.mk p0)
 have P_y := Hd (Z6.mk p1)
 have PR := Hd (Z6.mk p2)
 have HB := Hd b0
 clear b0 p0 p1 p2
 obtain ⟨-, x0, x1, x2, x3, x4, x5, x6, x7⟩ := P_x.out.facts
 go_wp2_with fail
 refine (H1.out W _ (G_x.out.below HB.out)).mono ?_
 rintro e wx1 ⟨rfl, hb⟩
 clear x0 x1 x2 x3 x4 x5 x6 x7
 have P_x := Hd (P_x.out.below hb)
 have P_y := Hd (P_y.out.below hb)
 have PR := Hd (PR.out.below hb)
 have HB := Hd (Zb HB.out hb)
 clear hb
 obtain ⟨l_r, r0, r1, r2, r3, r4, r5, r6, r7⟩ := PR.out.facts
 obtain ⟨f0, f1, f2, f3, f4, f5, f6, f7⟩ := PR.out.free
 have HQ := Hd (gzero PR.out HB.out (show w.heap.size <= w.heap.size + 1 + 1 by omega))
 go_wp2_with fail
 obtain ⟨_, k0, k1, k2, k3, k4, k5, k6, k7⟩ := HQ.out.1.facts
 exact bodyPost_ret (by simp [results, Tryz.results114, go_sem, k0, k1, k2, k3, k4, k5, k6, k7]) rfl ⟨_, rfl, Zv.nought _ _, HQ.out.2⟩

theorem both_Times {n d m f p q r s T1 T2 T3 T4 N D M E k : Int} (C1 : MayG 55 (decide (n < 0)) (decide (d < 0)) (decide (m < 0)) (decide (f < 0)) (Za n.natAbs) (Za d.natAbs) (Za m.natAbs) (Za f.natAbs) true) (C2 : MayG 55 (decide (p < 0)) (decide (q < 0)) (decide (r < 0)) (decide (s < 0)) (Za p.natAbs) (Za q.natAbs) (Za r.natAbs) (Za s.natAbs) true) (C3 : OpG 191 n d m f p q r s T1 T2 T3 T4) (C4 : JT T1 T2 T3 T4 N D M E k) (w : World) (v_x v_y : Value) (g_x : Zp w v_x n d m f) (g_y : Zp w v_y p q r s)  :
   Calls Tryz.prog 114 #[v_x, v_y, .func (.func 191) #[] #[]] w (ZS w.heap.size w N D M E k) := by
 obtain ⟨Ax1, cx1, Ax2, cx2, Ax3, cx3, Ax4, cx4, rfl, -⟩ := g_x.form
 obtain ⟨Ay1, cy1, Ay2, cy2, Ay3, cy3, Ay4, cy4, rfl, -⟩ := g_y.form
 have H1 := Hd C1
 have H2 := Hd C2
 have H3 := Hd C3
 have H4 := Hd C4
 clear C1 C2 C3 C4
 have G_x := Hd g_x
 have G_y := Hd g_y
 clear g_x g_y
 go_enter Tryz.func114, Tryz.ntmps114
 go_upto_region 1 with fail
 refine XZ (P := fun W => Code.wp _ _ _ _ W) fun W p0 p1 p2 b0 => ?_
 have P_x := Hd (Z6.mk p0)
 have P_y := Hd (Z6.mk p1)
 have PR := Hd (Z6.mk p2)
 have HB := Hd b0
 clear b0 p0 p1 p2
 obtain ⟨-, x0, x1, x2, x3, x4, x5, x6, x7⟩ := P_x.out.facts
 go_wp2_with fail
 refine (H1.out W _ (G_x.out.below HB.out).raw).mono ?_
 rintro e wx1 ⟨rfl, hb⟩
 clear x0 x1 x2 x3 x4 x5 x6 x7
 have P_x := Hd (P_x.out.below hb)
 have P_y := Hd (P_y.out.below hb)
 have PR := Hd (PR.out.below hb)
 have HB := Hd (Zb HB.out hb)
 clear hb
 obtain ⟨-, y0, y1, y2, y3, y4, y5, y6, y7⟩ := P_y.out.facts
 go_wp2_with fail
 refine (H2.out wx1 _ (G_y.out.below HB.out).raw).mono ?_
 rintro e wx2 ⟨rfl, hb⟩
 clear y0 y1 y2 y3 y4 y5 y6 y7
 have P_x := Hd (P_x.out.below hb)
 have P_y := Hd (P_y.out.below hb)
 have PR := Hd (PR.out.below hb)
 have HB := Hd (Zb HB.out hb)
 clear hb
 obtain ⟨-, x0, x1, x2, x3, x4, x5, x6, x7⟩ := P_x.out.facts
 obtain ⟨-, y0, y1, y2, y3, y4, y5, y6, y7⟩ := P_y.out.facts
 go_wp2_with fail
 refine (H3.out wx2 _ _ (G_x.out.below HB.out) (G_y.out.below HB.out)).mono ?_
 rintro e wt ⟨v, rfl, hI, hb⟩
 clear x0 x1 x2 x3 x4 x5 x6 x7 y0 y1 y2 y3 y4 y5 y6 y7
 have HI0 := Hd (hI.base HB.out.size)
 have P_x := Hd (P_x.out.below hb)
 have P_y := Hd (P_y.out.below hb)
 have PR := Hd (PR.out.below hb)
 have HB := Hd (Zb HB.out hb)
 clear hI hb
 go_wp2_with fail
 refine (H4.out wt w.heap.size _ HB.out.size HI0.out).mono ?_
 rintro e w9 ⟨v, rfl, hI, hb⟩
 obtain ⟨A6, c6, A7, c7, A8, c8, A9, c9, rfl, -⟩ := hI.form
 have pr := PR.out.below hb
 have hb9 := Zb HB.out hb
 obtain ⟨l_r, r0, r1, r2, r3, r4, r5, r6, r7⟩ := pr.facts
 obtain ⟨f0, f1, f2, f3, f4, f5, f6, f7⟩ := pr.free
 have H9 := Hd (JD hI pr hb9 (show w.heap.size <= w.heap.size + 1 + 1 by omega) (by decide))
 clear hb hb9 pr hI
 go_wp2_with fail
 obtain ⟨_, k0, k1, k2, k3, k4, k5, k6, k7⟩ := H9.out.1.facts
 exact bodyPost_ret (by simp [results, Tryz.results114, go_sem, k0, k1, k2, k3, k4, k5, k6, k7]) rfl ⟨_, rfl, H9.out.2.2, H9.out.2.1⟩

theorem both_Conj {n d m f p q r s T1 T2 T3 T4 N D M E k : Int} (C1 : MayG 55 (decide (n < 0)) (decide (d < 0)) (decide (m < 0)) (decide (f < 0)) (Za n.natAbs) (Za d.natAbs) (Za m.natAbs) (Za f.natAbs) true) (C2 : MayG 55 (decide (p < 0)) (decide (q < 0)) (decide (r < 0)) (decide (s < 0)) (Za p.natAbs) (Za q.natAbs) (Za r.natAbs) (Za s.natAbs) true) (C3 : OpG 120 n d m f p q r s T1 T2 T3 T4) (C4 : JT T1 T2 T3 T4 N D M E k) (w : World) (v_x v_y : Value) (g_x : Zp w v_x n d m f) (g_y : Zp w v_y p q r s)  :
   Calls Tryz.prog 114 #[v_x, v_y, .func (.func 120) #[] #[]] w (ZS w.heap.size w N D M E k) := by
 obtain ⟨Ax1, cx1, Ax2, cx2, Ax3, cx3, Ax4, cx4, rfl, -⟩ := g_x.form
 obtain ⟨Ay1, cy1, Ay2, cy2, Ay3, cy3, Ay4, cy4, rfl, -⟩ := g_y.form
 have H1 := Hd C1
 have H2 := Hd C2
 have H3 := Hd C3
 have H4 := Hd C4
 clear C1 C2 C3 C4
 have G_x := Hd g_x
 have G_y := Hd g_y
 clear g_x g_y
 go_enter Tryz.func114, Tryz.ntmps114
 go_upto_region 1 with fail
 refine XZ (P := fun W => Code.wp _ _ _ _ W) fun W p0 p1 p2 b0 => ?_
 have P_x := Hd (Z6.mk p0)
 have P_y := Hd (Z6.mk p1)
 have PR := Hd (Z6.mk p2)
 have HB := Hd b0
 clear b0 p0 p1 p2
 obtain ⟨-, x0, x1, x2, x3, x4, x5, x6, x7⟩ := P_x.out.facts
 go_wp2_with fail
 refine (H1.out W _ (G_x.out.below HB.out).raw).mono ?_
 rintro e wx1 ⟨rfl, hb⟩
 clear x0 x1 x2 x3 x4 x5 x6 x7
 have P_x := Hd (P_x.out.below hb)
 have P_y := Hd (P_y.out.below hb)
 have PR := Hd (PR.out.below hb)
 have HB := Hd (Zb HB.out hb)
 clear hb
 obtain ⟨-, y0, y1, y2, y3, y4, y5, y6, y7⟩ := P_y.out.facts
 go_wp2_with fail
 refine (H2.out wx1 _ (G_y.out.below HB.out).raw).mono ?_
 rintro e wx2 ⟨rfl, hb⟩
 clear y0 y1 y2 y3 y4 y5 y6 y7
 have P_x := Hd (P_x.out.below hb)
 have P_y := Hd (P_y.out.below hb)
 have PR := Hd (PR.out.below hb)
 have HB := Hd (Zb HB.out hb)
 clear hb
 obtain ⟨-, x0, x1, x2, x3, x4, x5, x6, x7⟩ := P_x.out.facts
 obtain ⟨-, y0, y1, y2, y3, y4, y5, y6, y7⟩ := P_y.out.facts
 go_wp2_with fail
 refine (H3.out wx2 _ _ (G_x.out.below HB.out) (G_y.out.below HB.out)).mono ?_
 rintro e wt ⟨v, rfl, hI, hb⟩
 clear x0 x1 x2 x3 x4 x5 x6 x7 y0 y1 y2 y3 y4 y5 y6 y7
 have HI0 := Hd (hI.base HB.out.size)
 have P_x := Hd (P_x.out.below hb)
 have P_y := Hd (P_y.out.below hb)
 have PR := Hd (PR.out.below hb)
 have HB := Hd (Zb HB.out hb)
 clear hI hb
 go_wp2_with fail
 refine (H4.out wt w.heap.size _ HB.out.size HI0.out).mono ?_
 rintro e w9 ⟨v, rfl, hI, hb⟩
 obtain ⟨A6, c6, A7, c7, A8, c8, A9, c9, rfl, -⟩ := hI.form
 have pr := PR.out.below hb
 have hb9 := Zb HB.out hb
 obtain ⟨l_r, r0, r1, r2, r3, r4, r5, r6, r7⟩ := pr.facts
 obtain ⟨f0, f1, f2, f3, f4, f5, f6, f7⟩ := pr.free
 have H9 := Hd (JD hI pr hb9 (show w.heap.size <= w.heap.size + 1 + 1 by omega) (by decide))
 clear hb hb9 pr hI
 go_wp2_with fail
 obtain ⟨_, k0, k1, k2, k3, k4, k5, k6, k7⟩ := H9.out.1.facts
 exact bodyPost_ret (by simp [results, Tryz.results114, go_sem, k0, k1, k2, k3, k4, k5, k6, k7]) rfl ⟨_, rfl, H9.out.2.2, H9.out.2.1⟩

abbrev BothC (fv : Value) (n1 n2 n3 n4 : Bool) (xs ys us vs : List Nat) (m1 m2 m3 m4 : Bool) (ps qs rs ts : List Nat) (N D M E k : Int) : Prop := ∀ (V : World) (v1 v2 : Value), ZI V v1 n1 n2 n3 n4 xs ys us vs -> ZI V v2 m1 m2 m3 m4 ps qs rs ts -> Calls Tryz.prog 114 #[v1, v2, fv] V (ZS V.heap.size V N D M E k)

theorem gauss_Mul {n1 n2 n3 n4 : Bool} {xs ys us vs : List Nat} {m1 m2 m3 m4 : Bool} {ps qs rs ts : List Nat} {N D M E k : Int} (C1 : BothC (.func (.func 191) #[] #[]) n1 n2 n3 n4 xs ys us vs m1 m2 m3 m4 ps qs rs ts N D M E k) (w : World) (v_x v_y : Value) (g_x : ZI w v_x n1 n2 n3 n4 xs ys us vs) (g_y : ZI w v_y m1 m2 m3 m4 ps qs rs ts)  :
   Calls Tryz.prog 104 #[v_x, v_y] w (ZS w.heap.size w N D M E k) := by
 obtain ⟨Ax1, cx1, Ax2, cx2, Ax3, cx3, Ax4, cx4, rfl, -⟩ := g_x.form
 obtain ⟨Ay1, cy1, Ay2, cy2, Ay3, cy3, Ay4, cy4, rfl, -⟩ := g_y.form
 have H1 := Hd C1
 clear C1
 have G_x := Hd g_x
 have G_y := Hd g_y
 clear g_x g_y
 go_enter Tryz.func104, Tryz.ntmps104
 go_upto_region 1 with fail
 refine XZ (P := fun W => Code.wp _ _ _ _ W) fun W p0 p1 p2 b0 => ?_
 have P_x := Hd (Z6.mk p0)
 have P_y := Hd (Z6.mk p1)
 have PR := Hd (Z6.mk p2)
 have HB := Hd b0
 clear b0 p0 p1 p2
 obtain ⟨-, x0, x1, x2, x3, x4, x5, x6, x7⟩ := P_x.out.facts
 obtain ⟨-, y0, y1, y2, y3, y4, y5, y6, y7⟩ := P_y.out.facts
 go_wp2_with fail
 refine (H1.out W _ _ (G_x.out.below HB.out) (G_y.out.below HB.out)).mono ?_
 rintro e w9 ⟨v, rfl, hI, hb⟩
 clear x0 x1 x2 x3 x4 x5 x6 x7 y0 y1 y2 y3 y4 y5 y6 y7
 obtain ⟨A6, c6, A7, c7, A8, c8, A9, c9, rfl, -⟩ := hI.form
 have pr := PR.out.below hb
 have hb9 := Zb HB.out hb
 obtain ⟨l_r, r0, r1, r2, r3, r4, r5, r6, r7⟩ := pr.facts
 obtain ⟨f0, f1, f2, f3, f4, f5, f6, f7⟩ := pr.free
 have H9 := Hd (JD hI pr hb9 (show w.heap.size <= w.heap.size + 1 + 1 by omega) (by decide))
 clear hb hb9 pr hI
 go_wp2_with fail
 obtain ⟨_, k0, k1, k2, k3, k4, k5, k6, k7⟩ := H9.out.1.facts
 exact bodyPost_ret (by simp [results, Tryz.results104, go_sem, k0, k1, k2, k3, k4, k5, k6, k7]) rfl ⟨_, rfl, H9.out.2.2.base HB.out.size, H9.out.2.1⟩

theorem gauss_Quo_nought {n d m f p q r s : Int} (C0 : MayG 55 (decide (n < 0)) (decide (d < 0)) (decide (m < 0)) (decide (f < 0)) (Za n.natAbs) (Za d.natAbs) (Za m.natAbs) (Za f.natAbs) true) (C2 : MayG 55 (decide (p < 0)) (decide (q < 0)) (decide (r < 0)) (decide (s < 0)) (Za p.natAbs) (Za q.natAbs) (Za r.natAbs) (Za s.natAbs) true) (C3 : NoughtG 116 p q r s true) (w : World) (v_x v_y : Value) (g_x : Zp w v_x n d m f) (g_y : Zp w v_y p q r s)  :
   Calls Tryz.prog 29 #[v_x, v_y] w (ZS w.heap.size w 0 0 0 0 3) := by
 obtain ⟨Ax1, cx1, Ax2, cx2, Ax3, cx3, Ax4, cx4, rfl, -⟩ := g_x.form
 obtain ⟨Ay1, cy1, Ay2, cy2, Ay3, cy3, Ay4, cy4, rfl, -⟩ := g_y.form
 have H0 := Hd C0
 have H2 := Hd C2
 have H3 := Hd C3
 clear C0 C2 C3
 have G_x := Hd g_x
 have G_y := Hd g_y
 clear g_x g_y
 go_enter Tryz.func29, Tryz.ntmps29
 go_upto_region 1 with fail
 refine XZ (P := fun W => Code.wp _ _ _ _ W) fun W p0 p1 p2 b0 => ?_
 have P_x := Hd (Z6.mk p0)
 have P_y := Hd (Z6.mk p1)
 have PR := Hd (Z6.mk p2)
 have HB := Hd b0
 clear b0 p0 p1 p2
 obtain ⟨-, x0, x1, x2, x3, x4, x5, x6, x7⟩ := P_x.out.facts
 go_wp2_with fail
 refine (H0.out W _ (G_x.out.below HB.out).raw).mono ?_
 rintro e wx1 ⟨rfl, hb⟩
 clear x0 x1 x2 x3 x4 x5 x6 x7
 have P_x := Hd (P_x.out.below hb)
 have P_y := Hd (P_y.out.below hb)
 have PR := Hd (PR.out.below hb)
 have HB := Hd (Zb HB.out hb)
 clear hb
 obtain ⟨-, y0, y1, y2, y3, y4, y5, y6, y7⟩ := P_y.out.facts
 go_wp2_with fail
 refine (H2.out wx1 _ (G_y.out.below HB.out).raw).mono ?_
 rintro e wx2 ⟨rfl, hb⟩
 clear y0 y1 y2 y3 y4 y5 y6 y7
 have P_x := Hd (P_x.out.below hb)
 have P_y := Hd (P_y.out.below hb)
 have PR := Hd (PR.out.below hb)
 have HB := Hd (Zb HB.out hb)
 clear hb
 obtain ⟨-, y0, y1, y2, y3, y4, y5, y6, y7⟩ := P_y.out.facts
 go_wp2_with fail
 refine (H3.out wx2 _ (G_y.out.below HB.out)).mono ?_
 rintro e wx3 ⟨rfl, hb⟩
 clear y0 y1 y2 y3 y4 y5 y6 y7
 have P_x := Hd (P_x.out.below hb)
 have P_y := Hd (P_y.out.below hb)
 have PR := Hd (PR.out.below hb)
 have HB := Hd (Zb HB.out hb)
 clear hb
 obtain ⟨l_r, r0, r1, r2, r3, r4, r5, r6, r7⟩ := PR.out.facts
 obtain ⟨f0, f1, f2, f3, f4, f5, f6, f7⟩ := PR.out.free
 have HQ := Hd (gzero PR.out HB.out (show w.heap.size <= w.heap.size + 1 + 1 by omega))
 go_wp2_with fail
 obtain ⟨_, k0, k1, k2, k3, k4, k5, k6, k7⟩ := HQ.out.1.facts
 exact bodyPost_ret (by simp [results, Tryz.results29, go_sem, k0, k1, k2, k3, k4, k5, k6, k7]) rfl ⟨_, rfl, Zv.nought _ _, HQ.out.2⟩

theorem argand_Nought_re {n d m f s0 : Int} (C1 : SgnF 138 n d s0) (g1 : (s0 == 0) = false) (w : World) (v_x : Value) (g_x : Zp w v_x n d m f)  :
   Calls Tryz.prog 116 #[v_x] w fun e w' => e = .returned (.bool false) /\ Below w.heap.size w w' := by
 obtain ⟨Ax1, cx1, Ax2, cx2, Ax3, cx3, Ax4, cx4, rfl, -⟩ := g_x.form
 have H1 := Hd C1
 clear C1
 have G_x := Hd g_x
 clear g_x
 go_enter Tryz.func116, Tryz.ntmps116
 go_upto_region 1 with fail
 refine XF (P := fun W => Code.wp _ _ _ _ W) fun W p0 b0 => ?_
 have P_x := Hd (Z6.mk p0)
 have HB := Hd b0
 clear b0 p0
 obtain ⟨-, x0, x1, x2, x3, x4, x5, x6, x7⟩ := P_x.out.facts
 go_wp2_with fail
 refine (H1.out W _ (G_x.out.below HB.out).re).mono ?_
 rintro e wx1 ⟨rfl, hb⟩
 clear x0 x1 x2 x3 x4 x5 x6 x7
 have P_x := Hd (P_x.out.below hb)
 have HB := Hd (Zb HB.out hb)
 clear hb
 go_wp2_with fail
 go_ret
 exact ⟨rfl, HB.out⟩

theorem argand_Nought_im {n d m f s0 s1 : Int} (C1 : SgnF 138 n d s0) (g1 : (s0 == 0) = true) (C2 : SgnF 138 m f s1) (g2 : (s1 == 0) = false) (w : World) (v_x : Value) (g_x : Zp w v_x n d m f)  :
   Calls Tryz.prog 116 #[v_x] w fun e w' => e = .returned (.bool false) /\ Below w.heap.size w w' := by
 obtain ⟨Ax1, cx1, Ax2, cx2, Ax3, cx3, Ax4, cx4, rfl, -⟩ := g_x.form
 have H1 := Hd C1
 have H2 := Hd C2
 clear C1 C2
 have G_x := Hd g_x
 clear g_x
 go_enter Tryz.func116, Tryz.ntmps116
 go_upto_region 1 with fail
 refine XF (P := fun W => Code.wp _ _ _ _ W) fun W p0 b0 => ?_
 have P_x := Hd (Z6.mk p0)
 have HB := Hd b0
 clear b0 p0
 obtain ⟨-, x0, x1, x2, x3, x4, x5, x6, x7⟩ := P_x.out.facts
 go_wp2_with fail
 refine (H1.out W _ (G_x.out.below HB.out).re).mono ?_
 rintro e wx1 ⟨rfl, hb⟩
 clear x0 x1 x2 x3 x4 x5 x6 x7
 have P_x := Hd (P_x.out.below hb)
 have HB := Hd (Zb HB.out hb)
 clear hb
 obtain ⟨-, x0, x1, x2, x3, x4, x5, x6, x7⟩ := P_x.out.facts
 go_wp2_with fail
 refine (H2.out wx1 _ (G_x.out.below HB.out).im).mono ?_
 rintro e wx2 ⟨rfl, hb⟩
 clear x0 x1 x2 x3 x4 x5 x6 x7
 have P_x := Hd (P_x.out.below hb)
 have HB := Hd (Zb HB.out hb)
 clear hb
 go_wp2_with fail
 go_ret
 exact ⟨rfl, HB.out⟩

theorem argand_Nought_yes {n d m f s0 s1 : Int} (C1 : SgnF 138 n d s0) (g1 : (s0 == 0) = true) (C2 : SgnF 138 m f s1) (g2 : (s1 == 0) = true) (w : World) (v_x : Value) (g_x : Zp w v_x n d m f)  :
   Calls Tryz.prog 116 #[v_x] w fun e w' => e = .returned (.bool true) /\ Below w.heap.size w w' := by
 obtain ⟨Ax1, cx1, Ax2, cx2, Ax3, cx3, Ax4, cx4, rfl, -⟩ := g_x.form
 have H1 := Hd C1
 have H2 := Hd C2
 clear C1 C2
 have G_x := Hd g_x
 clear g_x
 go_enter Tryz.func116, Tryz.ntmps116
 go_upto_region 1 with fail
 refine XF (P := fun W => Code.wp _ _ _ _ W) fun W p0 b0 => ?_
 have P_x := Hd (Z6.mk p0)
 have HB := Hd b0
 clear b0 p0
 obtain ⟨-, x0, x1, x2, x3, x4, x5, x6, x7⟩ := P_x.out.facts
 go_wp2_with fail
 refine (H1.out W _ (G_x.out.below HB.out).re).mono ?_
 rintro e wx1 ⟨rfl, hb⟩
 clear x0 x1 x2 x3 x4 x5 x6 x7
 have P_x := Hd (P_x.out.below hb)
 have HB := Hd (Zb HB.out hb)
 clear hb
 obtain ⟨-, x0, x1, x2, x3, x4, x5, x6, x7⟩ := P_x.out.facts
 go_wp2_with fail
 refine (H2.out wx1 _ (G_x.out.below HB.out).im).mono ?_
 rintro e wx2 ⟨rfl, hb⟩
 clear x0 x1 x2 x3 x4 x5 x6 x7
 have P_x := Hd (P_x.out.below hb)
 have HB := Hd (Zb HB.out hb)
 clear hb
 go_wp2_with fail
 go_ret
 exact ⟨rfl, HB.out⟩

theorem answered_fits {n d m f : Int} {base : Nat} (C1 : AnsG 204 n d m f 0) (w : World) (v_x : Value) (g_x : Zp w v_x n d m f) (hbw : base <= w.heap.size) (o_x : Zv w base v_x n d m f) :
   Calls Tryz.prog 125 #[v_x] w (ZS base w n d m f 0) := by
 obtain ⟨Ax1, cx1, Ax2, cx2, Ax3, cx3, Ax4, cx4, rfl, -⟩ := g_x.form
 have l1 : (Za n.natAbs).length <= 9223372036854775807 := by have := g_x.raws.1.cap; have := g_x.raws.1.most; omega
 have l2 : (Za d.natAbs).length <= 9223372036854775807 := by have := g_x.raws.2.1.cap; have := g_x.raws.2.1.most; omega
 have l3 : (Za m.natAbs).length <= 9223372036854775807 := by have := g_x.raws.2.2.1.cap; have := g_x.raws.2.2.1.most; omega
 have l4 : (Za f.natAbs).length <= 9223372036854775807 := by have := g_x.raws.2.2.2.cap; have := g_x.raws.2.2.2.most; omega
 have HL := Hd (And.intro l1 (And.intro l2 (And.intro l3 l4)))
 have OX := Hd o_x
 have _ := hbw
 clear l1 l2 l3 l4 o_x
 have H1 := Hd C1
 clear C1
 have G_x := Hd g_x
 clear g_x
 go_enter Tryz.func125, Tryz.ntmps125
 go_upto_region 1 with fail
 refine Yp (P := fun W => Code.wp _ _ _ _ W) fun W p0 p1 b0 => ?_
 have P_x := Hd (Z6.mk p0)
 have PR := Hd (Z6.mk p1)
 have HB := Hd b0
 clear b0 p0 p1
 have OX := Hd (OX.out.below HB.out)
 obtain ⟨-, x0, x1, x2, x3, x4, x5, x6, x7⟩ := P_x.out.facts
 go_wp2_with fail
 refine (H1.out W _ _ Ax1 Ax2 Ax3 Ax4 cx1 cx2 cx3 cx4 rfl rfl HL.out.1 HL.out.2.1 HL.out.2.2.1 HL.out.2.2.2).mono ?_
 rintro e wx1 ⟨rfl, hb⟩
 have hb := ((Below.refl W.heap.size W).alloc (Nat.le_refl _) (.cells #[.bool (decide (n < 0)), .slice Ax1 (Za n.natAbs).length cx1, .bool (decide (d < 0)), .slice Ax2 (Za d.natAbs).length cx2, .bool (decide (m < 0)), .slice Ax3 (Za m.natAbs).length cx3, .bool (decide (f < 0)), .slice Ax4 (Za f.natAbs).length cx4] 28)).trans (hb.mono (by omega))
 clear x0 x1 x2 x3 x4 x5 x6 x7
 have P_x := Hd (P_x.out.below hb)
 have PR := Hd (PR.out.below hb)
 have OX := Hd (OX.out.below hb)
 have HB := Hd (Zb HB.out hb)
 clear hb
 obtain ⟨-, x0, x1, x2, x3, x4, x5, x6, x7⟩ := P_x.out.facts
 obtain ⟨l_r, r0, r1, r2, r3, r4, r5, r6, r7⟩ := PR.out.facts
 obtain ⟨f0, f1, f2, f3, f4, f5, f6, f7⟩ := PR.out.free
 have HQ := Hd (PR.out.store (.bool (decide (n < 0))) (.slice Ax1 (Za n.natAbs).length cx1) (.bool (decide (d < 0))) (.slice Ax2 (Za d.natAbs).length cx2) (.bool (decide (m < 0))) (.slice Ax3 (Za m.natAbs).length cx3) (.bool (decide (f < 0))) (.slice Ax4 (Za f.natAbs).length cx4))
 have HB9 := Hd (below8 HB.out (show w.heap.size <= w.heap.size + 1 by omega) (.bool (decide (n < 0))) (.slice Ax1 (Za n.natAbs).length cx1) (.bool (decide (d < 0))) (.slice Ax2 (Za d.natAbs).length cx2) (.bool (decide (m < 0))) (.slice Ax3 (Za m.natAbs).length cx3) (.bool (decide (f < 0))) (.slice Ax4 (Za f.natAbs).length cx4))
 have HF := Hd (OX.out.oct PR.out (by decide) (.bool (decide (n < 0))) (.slice Ax1 (Za n.natAbs).length cx1) (.bool (decide (d < 0))) (.slice Ax2 (Za d.natAbs).length cx2) (.bool (decide (m < 0))) (.slice Ax3 (Za m.natAbs).length cx3) (.bool (decide (f < 0))) (.slice Ax4 (Za f.natAbs).length cx4))
 go_wp2_with fail
 obtain ⟨_, k0, k1, k2, k3, k4, k5, k6, k7⟩ := HQ.out.facts
 exact bodyPost_ret (by simp [results, Tryz.results125, go_sem, k0, k1, k2, k3, k4, k5, k6, k7]) rfl ⟨_, rfl, HF.out, HB9.out⟩

theorem answered_long {n d m f : Int} {base : Nat} (C1 : AnsG 204 n d m f 4) (w : World) (v_x : Value) (g_x : Zp w v_x n d m f) (hbw : base <= w.heap.size) (o_x : Zv w base v_x n d m f) :
   Calls Tryz.prog 125 #[v_x] w (ZS base w 0 0 0 0 4) := by
 obtain ⟨Ax1, cx1, Ax2, cx2, Ax3, cx3, Ax4, cx4, rfl, -⟩ := g_x.form
 have l1 : (Za n.natAbs).length <= 9223372036854775807 := by have := g_x.raws.1.cap; have := g_x.raws.1.most; omega
 have l2 : (Za d.natAbs).length <= 9223372036854775807 := by have := g_x.raws.2.1.cap; have := g_x.raws.2.1.most; omega
 have l3 : (Za m.natAbs).length <= 9223372036854775807 := by have := g_x.raws.2.2.1.cap; have := g_x.raws.2.2.1.most; omega
 have l4 : (Za f.natAbs).length <= 9223372036854775807 := by have := g_x.raws.2.2.2.cap; have := g_x.raws.2.2.2.most; omega
 have HL := Hd (And.intro l1 (And.intro l2 (And.intro l3 l4)))
 have OX := Hd o_x
 have _ := hbw
 clear l1 l2 l3 l4 o_x
 have H1 := Hd C1
 clear C1
 have G_x := Hd g_x
 clear g_x
 go_enter Tryz.func125, Tryz.ntmps125
 go_upto_region 1 with fail
 refine Yp (P := fun W => Code.wp _ _ _ _ W) fun W p0 p1 b0 => ?_
 have P_x := Hd (Z6.mk p0)
 have PR := Hd (Z6.mk p1)
 have HB := Hd b0
 clear b0 p0 p1
 have OX := Hd (OX.out.below HB.out)
 obtain ⟨-, x0, x1, x2, x3, x4, x5, x6, x7⟩ := P_x.out.facts
 go_wp2_with fail
 refine (H1.out W _ _ Ax1 Ax2 Ax3 Ax4 cx1 cx2 cx3 cx4 rfl rfl HL.out.1 HL.out.2.1 HL.out.2.2.1 HL.out.2.2.2).mono ?_
 rintro e wx1 ⟨rfl, hb⟩
 have hb := ((Below.refl W.heap.size W).alloc (Nat.le_refl _) (.cells #[.bool (decide (n < 0)), .slice Ax1 (Za n.natAbs).length cx1, .bool (decide (d < 0)), .slice Ax2 (Za d.natAbs).length cx2, .bool (decide (m < 0)), .slice Ax3 (Za m.natAbs).length cx3, .bool (decide (f < 0)), .slice Ax4 (Za f.natAbs).length cx4] 28)).trans (hb.mono (by omega))
 clear x0 x1 x2 x3 x4 x5 x6 x7
 have P_x := Hd (P_x.out.below hb)
 have PR := Hd (PR.out.below hb)
 have OX := Hd (OX.out.below hb)
 have HB := Hd (Zb HB.out hb)
 clear hb
 obtain ⟨l_r, r0, r1, r2, r3, r4, r5, r6, r7⟩ := PR.out.facts
 obtain ⟨f0, f1, f2, f3, f4, f5, f6, f7⟩ := PR.out.free
 have HQ := Hd (gzero PR.out HB.out (show w.heap.size <= w.heap.size + 1 by omega))
 go_wp2_with fail
 obtain ⟨_, k0, k1, k2, k3, k4, k5, k6, k7⟩ := HQ.out.1.facts
 exact bodyPost_ret (by simp [results, Tryz.results125, go_sem, k0, k1, k2, k3, k4, k5, k6, k7]) rfl ⟨_, rfl, Zv.nought _ _, HQ.out.2⟩
/- The references of chapter 03. (Written by wip/gauss/genref03.py.) -/

theorem allocGauss {o : Oper} (h : o.op = .alloc 28) : AllocF Tryz.prog o 28 8 := by
 refine ⟨#[.bool false, .slice none 0 0, .bool false, .slice none 0 0, .bool false, .slice none 0 0, .bool false, .slice none 0 0], rfl, fun ρ w => ?_⟩
 unfold execOp
 rw [h]
 kernel_rfl

theorem ref03_Norm {n d m f p1 p2 q1 q2 N D : Int} (C1 : OpI 195 n d n d p1 p2) (C2 : OpI 195 m f m f q1 q2) (C3 : OpI 193 p1 p2 q1 q2 N D) (w : World) (v_x : Value) (g_x : Zp w v_x n d m f)  :
   Calls Tryz.prog 128 #[v_x] w (Yk w N D) := by
 obtain ⟨Ax1, cx1, Ax2, cx2, Ax3, cx3, Ax4, cx4, rfl, -⟩ := g_x.form
 have H1 := Hd C1
 have H2 := Hd C2
 have H3 := Hd C3
 clear C1 C2 C3
 have G_x := Hd g_x
 clear g_x
 go_enter Tryz.func128, Tryz.ntmps128
 go_upto_region 1 with fail
 refine Yp (P := fun W => Code.wp _ _ _ _ W) fun W p0 p1 b0 => ?_
 have P_x := Hd (Z6.mk p0)
 have PR := Hd (Zo.mk p1)
 have HB := Hd b0
 clear b0 p0 p1
 have hsz := PR.out.blk.lt
 go_wp2_with fail
 refine Zd [.val (.pointer (some ⟨w.heap.size, 0, none⟩)) [], .val (.agg #[.bool (decide (n < 0)), .slice Ax1 (Za n.natAbs).length cx1, .bool (decide (d < 0)), .slice Ax2 (Za d.natAbs).length cx2]) [], .val (.pointer (some ⟨w.heap.size, 0, none⟩)) [], .val (.agg #[.bool (decide (n < 0)), .slice Ax1 (Za n.natAbs).length cx1, .bool (decide (d < 0)), .slice Ax2 (Za d.natAbs).length cx2]) [], .any false (fun u V => ZG V 0 u p1 p2) [], .val (.pointer (some ⟨w.heap.size, 4, none⟩)) [], .val (.agg #[.bool (decide (m < 0)), .slice Ax3 (Za m.natAbs).length cx3, .bool (decide (f < 0)), .slice Ax4 (Za f.natAbs).length cx4]) [], .val (.pointer (some ⟨w.heap.size, 4, none⟩)) [], .val (.agg #[.bool (decide (m < 0)), .slice Ax3 (Za m.natAbs).length cx3, .bool (decide (f < 0)), .slice Ax4 (Za f.natAbs).length cx4]) [], .any false (fun u V => ZG V 0 u q1 q2) [], .any false (fun u V => ZG V 0 u N D) [4, 9], .old (w.heap.size + 1) 26 #[.bool false, .slice none 0 0, .bool false, .slice none 0 0] 0 4 10 []] (w.heap.size + 1) W [26] (fun _ _ => False) _ Zc (by omega) (Below.refl _ _) (Zq.refl _ _ _) rfl (by kernel_rfl) (by kernel_rfl) (by kernel_rfl) (by kernel_rfl) (by kernel_rfl) (by kernel_rfl) (by kernel_rfl) (by kernel_rfl) rfl (by simp [ZK]) ?_ ?_ ?_ ?_
 . simp only [Zr, and_true]
   exact ⟨fun u V V' h k => h.kept k (by decide), fun u V V' h k => h.kept k (by decide), fun u V V' h k => h.kept k (by decide)⟩
 . simp only [ZN, and_true]
   exact ⟨Nat.le_refl _, PR.out.blk.lt, PR.out.blk, by simp⟩
 . simp (maxSteps := 4000000) [Zz, Z7, Zf, Zs, Zg]
   repeat' (first | apply And.intro | (intro (u : Value)) | (intro (u : Nat)))
   all_goals try exact ⟨_, _, _, rfl, rfl, rfl, rfl, Yo⟩
   all_goals first
   | (intro V hV hK
      have qx : Z6 V (w.heap.size) _ _ _ _ _ _ _ _ _ := ⟨P_x.out.blk.below hV (by omega)⟩
      obtain ⟨-, x0, x1, x2, x3, x4, x5, x6, x7⟩ := qx.facts
      have hvb := HB.out.trans (hV.mono (by omega))
      have hvs := hvb.size
      have g_x := Hd (G_x.out.below hvb)
      clear hV hK qx
      go_simp
      first
      | exact Below.refl _ _
      | ((with_reducible refine (H1.out V _ _ g_x.out.re g_x.out.re).mono ?_); rintro e w' ⟨v, rfl, hv, hb⟩; exact ⟨hv, hb⟩)
      | ((with_reducible refine (H2.out V _ _ g_x.out.im g_x.out.im).mono ?_); rintro e w' ⟨v, rfl, hv, hb⟩; exact ⟨hv, hb⟩))
   | (intro V hV hK h1 h2
      have qx : Z6 V (w.heap.size) _ _ _ _ _ _ _ _ _ := ⟨P_x.out.blk.below hV (by omega)⟩
      obtain ⟨-, x0, x1, x2, x3, x4, x5, x6, x7⟩ := qx.facts
      have hvb := HB.out.trans (hV.mono (by omega))
      have hvs := hvb.size
      have g_x := Hd (G_x.out.below hvb)
      clear hV hK qx
      go_simp
      ((with_reducible refine (H3.out V _ _ h1.at_ h2.at_).mono ?_); rintro e w' ⟨v, rfl, hv, hb⟩; exact ⟨hv, hb⟩))
   | exact fun _ _ _ (h : ZG _ _ _ _ _) => h.cells
 . simp [Z9, ZB, Zf, Zs, Zg]
   intro u1 u2 u3 V hV hK h1 h2 h3 bq _ _ _
   have HF := Hd h3
   obtain ⟨A6, c6, A7, c7, rfl, -⟩ := h3.form
   simp [ZU, Value.cells] at bq
   have k0 := bq.cell 0
   have k1 := bq.cell 1
   have k2 := bq.cell 2
   have k3 := bq.cell 3
   simp at k0 k1 k2 k3
   have HB9 := Hd (HB.out.trans (hV.mono (by omega)))
   clear h1 h2 h3 hV hK bq
   go_wp2_with fail
   exact bodyPost_ret (by simp [results, Tryz.results128, go_sem, k0, k1, k2, k3]) rfl ⟨_, rfl, HF.out, HB9.out⟩

theorem ref03_Conj {n d m f N D M E : Int} (C1 : OpI0 205 0 1) (C2 : OpI 193 n d 0 1 N D) (C3 : OpI 194 0 1 m f M E) (w : World) (v_x : Value) (g_x : Zp w v_x n d m f)  :
   Calls Tryz.prog 127 #[v_x] w (XO w N D M E) := by
 obtain ⟨Ax1, cx1, Ax2, cx2, Ax3, cx3, Ax4, cx4, rfl, -⟩ := g_x.form
 have H1 := Hd C1
 have H2 := Hd C2
 have H3 := Hd C3
 clear C1 C2 C3
 have G_x := Hd g_x
 clear g_x
 go_enter Tryz.func127, Tryz.ntmps127
 go_upto_region 1 with fail
 refine Yp (P := fun W => Code.wp _ _ _ _ W) fun W p0 p1 b0 => ?_
 have P_x := Hd (Z6.mk p0)
 have PR := Hd (Z6.mk p1)
 have HB := Hd b0
 clear b0 p0 p1
 have hsz := PR.out.blk.lt
 go_wp2_with fail
 refine Zd [.val (.pointer (some ⟨w.heap.size, 0, none⟩)) [], .val (.agg #[.bool (decide (n < 0)), .slice Ax1 (Za n.natAbs).length cx1, .bool (decide (d < 0)), .slice Ax2 (Za d.natAbs).length cx2]) [], .any false (fun u V => ZG V 0 u 0 1) [], .any false (fun u V => ZG V 0 u N D) [2], .any false (fun u V => ZG V 0 u 0 1) [], .val (.pointer (some ⟨w.heap.size, 4, none⟩)) [], .val (.agg #[.bool (decide (m < 0)), .slice Ax3 (Za m.natAbs).length cx3, .bool (decide (f < 0)), .slice Ax4 (Za f.natAbs).length cx4]) [], .any false (fun u V => ZG V 0 u M E) [4], .any false (fun u V => Z8 V u N D M E) [3, 7], .old (w.heap.size + 1) 28 #[.bool false, .slice none 0 0, .bool false, .slice none 0 0, .bool false, .slice none 0 0, .bool false, .slice none 0 0] 0 8 8 []] (w.heap.size + 1) W [28] (fun _ _ => False) _ Zc (by omega) (Below.refl _ _) (Zq.refl _ _ _) rfl (by kernel_rfl) (by kernel_rfl) (by kernel_rfl) (by kernel_rfl) (by kernel_rfl) (by kernel_rfl) (by kernel_rfl) (by kernel_rfl) rfl (by simp [ZK]) ?_ ?_ ?_ ?_
 . simp only [Zr, and_true]
   exact ⟨fun u V V' h k => h.kept k (by decide), fun u V V' h k => h.kept k (by decide), fun u V V' h k => h.kept k (by decide), fun u V V' h k => h.kept k (by decide), fun u V V' h k => h.kept k (by decide)⟩
 . simp only [ZN, and_true]
   exact ⟨Nat.le_refl _, PR.out.blk.lt, PR.out.blk, by simp⟩
 . simp (maxSteps := 4000000) [Zz, Z7, Zf, Zs, Zg]
   repeat' (first | apply And.intro | (intro (u : Value)) | (intro (u : Nat)))
   all_goals try exact ⟨_, _, _, rfl, rfl, rfl, rfl, Xl⟩
   all_goals first
   | (intro V hV hK
      have qx : Z6 V (w.heap.size) _ _ _ _ _ _ _ _ _ := ⟨P_x.out.blk.below hV (by omega)⟩
      obtain ⟨-, x0, x1, x2, x3, x4, x5, x6, x7⟩ := qx.facts
      have hvb := HB.out.trans (hV.mono (by omega))
      have hvs := hvb.size
      have g_x := Hd (G_x.out.below hvb)
      clear hV hK qx
      go_simp
      first
      | exact Below.refl _ _
      | ((with_reducible refine (H1.out V ).mono ?_); rintro e w' ⟨v, rfl, hv, hb⟩; exact ⟨hv, hb⟩)
      | ((with_reducible refine (H1.out V ).mono ?_); rintro e w' ⟨v, rfl, hv, hb⟩; exact ⟨hv, hb⟩))
   | (intro V hV hK h1
      have qx : Z6 V (w.heap.size) _ _ _ _ _ _ _ _ _ := ⟨P_x.out.blk.below hV (by omega)⟩
      obtain ⟨-, x0, x1, x2, x3, x4, x5, x6, x7⟩ := qx.facts
      have hvb := HB.out.trans (hV.mono (by omega))
      have hvs := hvb.size
      have g_x := Hd (G_x.out.below hvb)
      clear hV hK qx
      go_simp
      ((with_reducible refine (H2.out V _ _ g_x.out.re h1.at_).mono ?_); rintro e w' ⟨v, rfl, hv, hb⟩; exact ⟨hv, hb⟩))
   | (intro V hV hK h1
      have qx : Z6 V (w.heap.size) _ _ _ _ _ _ _ _ _ := ⟨P_x.out.blk.below hV (by omega)⟩
      obtain ⟨-, x0, x1, x2, x3, x4, x5, x6, x7⟩ := qx.facts
      have hvb := HB.out.trans (hV.mono (by omega))
      have hvs := hvb.size
      have g_x := Hd (G_x.out.below hvb)
      clear hV hK qx
      go_simp
      ((with_reducible refine (H3.out V _ _ h1.at_ g_x.out.im).mono ?_); rintro e w' ⟨v, rfl, hv, hb⟩; exact ⟨hv, hb⟩))
   | (intro V hV hK h1 h2
      obtain ⟨A1, c1, B1, e1, rfl, -, -⟩ := h1.form
      obtain ⟨A2, c2, B2, e2, rfl, -, -⟩ := h2.form
      clear hV hK
      go_simp
      exact ⟨⟨_, _, _, _, _, _, _, _, rfl, h1, h2⟩, Below.refl _ _⟩)
   | exact fun _ _ _ (h : Z8 _ _ _ _ _ _) => h.cells
 . simp [Z9, ZB, Zf, Zs, Zg]
   intro u1 u2 u3 u4 u5 V hV hK h1 h2 h3 h4 h5 bq _ _ _
   have HF := Hd h5
   obtain ⟨A6, c6, A7, c7, A8, c8, A9, c9, rfl, -⟩ := h5.form
   simp [ZU, Value.cells] at bq
   have k0 := bq.cell 0
   have k1 := bq.cell 1
   have k2 := bq.cell 2
   have k3 := bq.cell 3
   have k4 := bq.cell 4
   have k5 := bq.cell 5
   have k6 := bq.cell 6
   have k7 := bq.cell 7
   simp at k0 k1 k2 k3 k4 k5 k6 k7
   have HB9 := Hd (HB.out.trans (hV.mono (by omega)))
   clear h1 h2 h3 h4 h5 hV hK bq
   go_wp2_with fail
   exact bodyPost_ret (by simp [results, Tryz.results127, go_sem, k0, k1, k2, k3, k4, k5, k6, k7]) rfl ⟨_, rfl, HF.out, HB9.out⟩

/- The references of chapter 03 as operations of pairs of rational numbers. -/

theorem nought_i : OpI0 205 0 1 := fun V => (nought_ref 1 V rfl).mono fun _ _ ⟨v, he, h, hb⟩ => ⟨v, he, h.in_, hb⟩
section
variable {a b c e : Rat} {n d m f p q r s N D M E : Int}
theorem norm_gi (ha : Is a n d) (hb : Is b m f) (sa : Sz a 2500) (sb : Sz b 2500) (h1 : Is (a * a + b * b) N D) : OpNI 128 n d m f N D := by
 have up : ∀ {q : Rat} {k l : Nat}, Sz q k -> k <= l -> Sz q l := fun h k => h.mono k
 exact ref03_Norm (times_i ha ha (Is.of _) (up sa (by omega)) (up sa (by omega))) (times_i hb hb (Is.of _) (up sb (by omega)) (up sb (by omega))) (plus_i (Is.of _) (Is.of _) h1 (up (Xy sa sa) (by omega)) (up (Xy sb sb) (by omega)))
theorem conj_gi (ha : Is a n d) (hb : Is b m f) (sa : Sz a 10000) (sb : Sz b 10000) : OpGI1 127 n d m f n d (-m) f := by
 have z1 : Sz 0 10000 := sz_zero.mono (by omega)
 exact ref03_Conj nought_i (plus_i ha is_zero (by rw [Rat.add_zero]; exact ha) sa z1) (minus_i is_zero hb (by rw [show 0 - b = -b by grind]; exact is_neg hb) z1 sb)
end
/- Long of two fractions; Answer of argand at one number. (Written by wip/gauss/genans.py.) -/

theorem ratio_Long_two (n d m f : Int) (Ax1 Ax2 Ax3 Ax4 : Option Addr) (cx1 cx2 cx3 cx4 : Nat) (b : Bool) (l1 : (Za n.natAbs).length <= 9223372036854775807) (l2 : (Za d.natAbs).length <= 9223372036854775807) (l3 : (Za m.natAbs).length <= 9223372036854775807) (l4 : (Za f.natAbs).length <= 9223372036854775807) (hb : ((decide (2048 < (Za n.natAbs).length) || decide (2048 < (Za d.natAbs).length)) || (decide (2048 < (Za m.natAbs).length) || decide (2048 < (Za f.natAbs).length))) = b) (V : World) (g : Nat) (hg : V.heap.size = g) :
   Calls Tryz.prog 203 #[.slice (some ⟨g, 0, none⟩) 2 2] (V.alloc (.cells #[.bool (decide (n < 0)), .slice Ax1 (Za n.natAbs).length cx1, .bool (decide (d < 0)), .slice Ax2 (Za d.natAbs).length cx2, .bool (decide (m < 0)), .slice Ax3 (Za m.natAbs).length cx3, .bool (decide (f < 0)), .slice Ax4 (Za f.natAbs).length cx4] 26)) fun e w' => e = .returned (.bool b) /\ Below (V.alloc (.cells #[.bool (decide (n < 0)), .slice Ax1 (Za n.natAbs).length cx1, .bool (decide (d < 0)), .slice Ax2 (Za d.natAbs).length cx2, .bool (decide (m < 0)), .slice Ax3 (Za m.natAbs).length cx3, .bool (decide (f < 0)), .slice Ax4 (Za f.natAbs).length cx4] 26)).heap.size (V.alloc (.cells #[.bool (decide (n < 0)), .slice Ax1 (Za n.natAbs).length cx1, .bool (decide (d < 0)), .slice Ax2 (Za d.natAbs).length cx2, .bool (decide (m < 0)), .slice Ax3 (Za m.natAbs).length cx3, .bool (decide (f < 0)), .slice Ax4 (Za f.natAbs).length cx4] 26)) w' := by
 have := ratio_LongL [⟨decide (n < 0), Ax1, (Za n.natAbs).length, cx1, decide (d < 0), Ax2, (Za d.natAbs).length, cx2⟩, ⟨decide (m < 0), Ax3, (Za m.natAbs).length, cx3, decide (f < 0), Ax4, (Za f.natAbs).length, cx4⟩] (some ⟨g, 0, none⟩) 2 (by simp) (by simp; omega) (V.alloc (.cells #[.bool (decide (n < 0)), .slice Ax1 (Za n.natAbs).length cx1, .bool (decide (d < 0)), .slice Ax2 (Za d.natAbs).length cx2, .bool (decide (m < 0)), .slice Ax3 (Za m.natAbs).length cx3, .bool (decide (f < 0)), .slice Ax4 (Za f.natAbs).length cx4] 26))
   (by subst hg; exact ZF.blk (ZP.new V 26 #[.bool (decide (n < 0)), .slice Ax1 (Za n.natAbs).length cx1, .bool (decide (d < 0)), .slice Ax2 (Za d.natAbs).length cx2, .bool (decide (m < 0)), .slice Ax3 (Za m.natAbs).length cx3, .bool (decide (f < 0)), .slice Ax4 (Za f.natAbs).length cx4]) rfl)
 rw [<- hb]
 simpa [YX.long] using this

theorem JN (n d m f : Int) (Ax1 Ax2 Ax3 Ax4 : Option Addr) (cx1 cx2 cx3 cx4 : Nat) (b : Bool) (l1 : (Za n.natAbs).length <= 9223372036854775807) (l2 : (Za d.natAbs).length <= 9223372036854775807) (l3 : (Za m.natAbs).length <= 9223372036854775807) (l4 : (Za f.natAbs).length <= 9223372036854775807) (hb : ((decide (2048 < (Za n.natAbs).length) || decide (2048 < (Za d.natAbs).length)) || (decide (2048 < (Za m.natAbs).length) || decide (2048 < (Za f.natAbs).length))) = b) (V : World) (g : Nat) (hg : V.heap.size = g) :
   Calls Tryz.prog 129 #[.slice (some ⟨g, 0, none⟩) 2 2] (V.alloc (.cells #[.bool (decide (n < 0)), .slice Ax1 (Za n.natAbs).length cx1, .bool (decide (d < 0)), .slice Ax2 (Za d.natAbs).length cx2, .bool (decide (m < 0)), .slice Ax3 (Za m.natAbs).length cx3, .bool (decide (f < 0)), .slice Ax4 (Za f.natAbs).length cx4] 26)) fun e w' => e = .returned (.int .i64 (if b then 4 else 0)) /\ Below (V.alloc (.cells #[.bool (decide (n < 0)), .slice Ax1 (Za n.natAbs).length cx1, .bool (decide (d < 0)), .slice Ax2 (Za d.natAbs).length cx2, .bool (decide (m < 0)), .slice Ax3 (Za m.natAbs).length cx3, .bool (decide (f < 0)), .slice Ax4 (Za f.natAbs).length cx4] 26)).heap.size (V.alloc (.cells #[.bool (decide (n < 0)), .slice Ax1 (Za n.natAbs).length cx1, .bool (decide (d < 0)), .slice Ax2 (Za d.natAbs).length cx2, .bool (decide (m < 0)), .slice Ax3 (Za m.natAbs).length cx3, .bool (decide (f < 0)), .slice Ax4 (Za f.natAbs).length cx4] 26)) w' := by
 have := ref02_AnswerL [⟨decide (n < 0), Ax1, (Za n.natAbs).length, cx1, decide (d < 0), Ax2, (Za d.natAbs).length, cx2⟩, ⟨decide (m < 0), Ax3, (Za m.natAbs).length, cx3, decide (f < 0), Ax4, (Za f.natAbs).length, cx4⟩] (some ⟨g, 0, none⟩) 2 (by simp) (by simp; omega) (V.alloc (.cells #[.bool (decide (n < 0)), .slice Ax1 (Za n.natAbs).length cx1, .bool (decide (d < 0)), .slice Ax2 (Za d.natAbs).length cx2, .bool (decide (m < 0)), .slice Ax3 (Za m.natAbs).length cx3, .bool (decide (f < 0)), .slice Ax4 (Za f.natAbs).length cx4] 26))
   (by subst hg; exact ZF.blk (ZP.new V 26 #[.bool (decide (n < 0)), .slice Ax1 (Za n.natAbs).length cx1, .bool (decide (d < 0)), .slice Ax2 (Za d.natAbs).length cx2, .bool (decide (m < 0)), .slice Ax3 (Za m.natAbs).length cx3, .bool (decide (f < 0)), .slice Ax4 (Za f.natAbs).length cx4]) rfl) b (by rw [<- hb]; simp [YX.long])
 simpa using this

theorem JO (N D : Int) (A B : Option Addr) (c e0 : Nat) (b : Bool) (l1 : (Za N.natAbs).length <= 9223372036854775807) (l2 : (Za D.natAbs).length <= 9223372036854775807) (hb : (decide (2048 < (Za N.natAbs).length) || decide (2048 < (Za D.natAbs).length)) = b) (V : World) (g : Nat) (hg : V.heap.size = g) :
   Calls Tryz.prog 129 #[.slice (some ⟨g, 0, none⟩) 1 1] (V.alloc (.cells #[.bool (decide (N < 0)), .slice A (Za N.natAbs).length c, .bool (decide (D < 0)), .slice B (Za D.natAbs).length e0] 26)) fun e w' => e = .returned (.int .i64 (if b then 4 else 0)) /\ Below (V.alloc (.cells #[.bool (decide (N < 0)), .slice A (Za N.natAbs).length c, .bool (decide (D < 0)), .slice B (Za D.natAbs).length e0] 26)).heap.size (V.alloc (.cells #[.bool (decide (N < 0)), .slice A (Za N.natAbs).length c, .bool (decide (D < 0)), .slice B (Za D.natAbs).length e0] 26)) w' := by
 have := ref02_AnswerL [⟨decide (N < 0), A, (Za N.natAbs).length, c, decide (D < 0), B, (Za D.natAbs).length, e0⟩] (some ⟨g, 0, none⟩) 1 (by simp) (by simp; omega) (V.alloc (.cells #[.bool (decide (N < 0)), .slice A (Za N.natAbs).length c, .bool (decide (D < 0)), .slice B (Za D.natAbs).length e0] 26))
   (by subst hg; exact ZF.blk (ZP.new V 26 #[.bool (decide (N < 0)), .slice A (Za N.natAbs).length c, .bool (decide (D < 0)), .slice B (Za D.natAbs).length e0]) rfl) b (by rw [<- hb]; simp [YX.long])
 simpa using this

theorem argand_Answer_true (n d m f : Int) (Ax1 Ax2 Ax3 Ax4 : Option Addr) (cx1 cx2 cx3 cx4 : Nat) (l1 : (Za n.natAbs).length <= 9223372036854775807) (l2 : (Za d.natAbs).length <= 9223372036854775807) (l3 : (Za m.natAbs).length <= 9223372036854775807) (l4 : (Za f.natAbs).length <= 9223372036854775807) (hb : ((decide (2048 < (Za n.natAbs).length) || decide (2048 < (Za d.natAbs).length)) || (decide (2048 < (Za m.natAbs).length) || decide (2048 < (Za f.natAbs).length))) = true) (w : World) (g : Nat) (q : Z6 w g 28 (.bool (decide (n < 0))) (.slice Ax1 (Za n.natAbs).length cx1) (.bool (decide (d < 0))) (.slice Ax2 (Za d.natAbs).length cx2) (.bool (decide (m < 0))) (.slice Ax3 (Za m.natAbs).length cx3) (.bool (decide (f < 0))) (.slice Ax4 (Za f.natAbs).length cx4)) :
   Calls Tryz.prog 204 #[.slice (some ⟨g, 0, none⟩) 1 1] w fun e w' => e = .returned (.int .i64 4) /\ Below w.heap.size w w' := by
 have H1 := Hd (fun (V : World) (g' : Nat) (hg : V.heap.size = g') => ratio_Long_two n d m f Ax1 Ax2 Ax3 Ax4 cx1 cx2 cx3 cx4 true l1 l2 l3 l4 hb V g' hg)
 have HQ := Hd q
 clear hb q l1 l2 l3 l4
 go_enter Tryz.func204, Tryz.ntmps204
 go_wp2_with fail
 go_loopw [7] (fun s wr => ∃ i : Nat, s = .int .i64 i /\ i <= 0 /\ Below w.heap.size w wr) (fun s _ => 1 - (intOf s).toNat)
 case atStart => exact ⟨0, rfl, by omega, Below.refl _ _⟩
 case round =>
   obtain ⟨i, rfl, hi, hb⟩ := hrel
   obtain rfl : i = 0 := by omega
   clear hi
   obtain ⟨l_q, q0, q1, q2, q3, q4, q5, q6, q7⟩ := (HQ.out.below hb).facts
   have px := Z6.new wr 28 (.bool (decide (n < 0))) (.slice Ax1 (Za n.natAbs).length cx1) (.bool (decide (d < 0))) (.slice Ax2 (Za d.natAbs).length cx2) (.bool (decide (m < 0))) (.slice Ax3 (Za m.natAbs).length cx3) (.bool (decide (f < 0))) (.slice Ax4 (Za f.natAbs).length cx4)
   have hb2 := hb.alloc hb.size (.cells #[.bool (decide (n < 0)), .slice Ax1 (Za n.natAbs).length cx1, .bool (decide (d < 0)), .slice Ax2 (Za d.natAbs).length cx2, .bool (decide (m < 0)), .slice Ax3 (Za m.natAbs).length cx3, .bool (decide (f < 0)), .slice Ax4 (Za f.natAbs).length cx4] 28)
   go_upto_region 4 with fail
   obtain ⟨y, E⟩ : ∃ W, W = wr.alloc (.cells #[.bool (decide (n < 0)), .slice Ax1 (Za n.natAbs).length cx1, .bool (decide (d < 0)), .slice Ax2 (Za d.natAbs).length cx2, .bool (decide (m < 0)), .slice Ax3 (Za m.natAbs).length cx3, .bool (decide (f < 0)), .slice Ax4 (Za f.natAbs).length cx4] 28) := ⟨_, rfl⟩
   obtain ⟨bq, hq⟩ : ∃ q, q = wr.heap.size := ⟨_, rfl⟩
   rw [<- E] at hb2
   rw [<- E, <- hq] at px ⊢
   have HB := Hd hb2
   clear hb hb2 E hq l_q q0 q1 q2 q3 q4 q5 q6 q7
   obtain ⟨l_x, x0, x1, x2, x3, x4, x5, x6, x7⟩ := px.facts
   clear px
   go_wp2_with fail
   refine (H1.out y _ rfl).mono ?_
   rintro e w1 ⟨rfl, hb1⟩
   have HB1 := Hd (Zb (HB.out.alloc HB.out.size (.cells #[.bool (decide (n < 0)), .slice Ax1 (Za n.natAbs).length cx1, .bool (decide (d < 0)), .slice Ax2 (Za d.natAbs).length cx2, .bool (decide (m < 0)), .slice Ax3 (Za m.natAbs).length cx3, .bool (decide (f < 0)), .slice Ax4 (Za f.natAbs).length cx4] 26)) hb1)
   clear hb1 HB l_x x0 x1 x2 x3 x4 x5 x6 x7
   go_wp2_with fail
   go_ret
   exact ⟨rfl, HB1.out⟩

theorem argand_Answer_false (n d m f : Int) (Ax1 Ax2 Ax3 Ax4 : Option Addr) (cx1 cx2 cx3 cx4 : Nat) (l1 : (Za n.natAbs).length <= 9223372036854775807) (l2 : (Za d.natAbs).length <= 9223372036854775807) (l3 : (Za m.natAbs).length <= 9223372036854775807) (l4 : (Za f.natAbs).length <= 9223372036854775807) (hb : ((decide (2048 < (Za n.natAbs).length) || decide (2048 < (Za d.natAbs).length)) || (decide (2048 < (Za m.natAbs).length) || decide (2048 < (Za f.natAbs).length))) = false) (w : World) (g : Nat) (q : Z6 w g 28 (.bool (decide (n < 0))) (.slice Ax1 (Za n.natAbs).length cx1) (.bool (decide (d < 0))) (.slice Ax2 (Za d.natAbs).length cx2) (.bool (decide (m < 0))) (.slice Ax3 (Za m.natAbs).length cx3) (.bool (decide (f < 0))) (.slice Ax4 (Za f.natAbs).length cx4)) :
   Calls Tryz.prog 204 #[.slice (some ⟨g, 0, none⟩) 1 1] w fun e w' => e = .returned (.int .i64 0) /\ Below w.heap.size w w' := by
 have H1 := Hd (fun (V : World) (g' : Nat) (hg : V.heap.size = g') => ratio_Long_two n d m f Ax1 Ax2 Ax3 Ax4 cx1 cx2 cx3 cx4 false l1 l2 l3 l4 hb V g' hg)
 have HQ := Hd q
 clear hb q l1 l2 l3 l4
 go_enter Tryz.func204, Tryz.ntmps204
 go_wp2_with fail
 go_loopw [7] (fun s wr => ∃ i : Nat, s = .int .i64 i /\ i <= 1 /\ Below w.heap.size w wr) (fun s _ => 1 - (intOf s).toNat)
 case atStart => exact ⟨0, rfl, by omega, Below.refl _ _⟩
 case round =>
   obtain ⟨i, rfl, hi, hb⟩ := hrel
   by_cases hlt : i < 1
   . obtain rfl : i = 0 := by omega
     clear hlt
     clear hi
     obtain ⟨l_q, q0, q1, q2, q3, q4, q5, q6, q7⟩ := (HQ.out.below hb).facts
     have px := Z6.new wr 28 (.bool (decide (n < 0))) (.slice Ax1 (Za n.natAbs).length cx1) (.bool (decide (d < 0))) (.slice Ax2 (Za d.natAbs).length cx2) (.bool (decide (m < 0))) (.slice Ax3 (Za m.natAbs).length cx3) (.bool (decide (f < 0))) (.slice Ax4 (Za f.natAbs).length cx4)
     have hb2 := hb.alloc hb.size (.cells #[.bool (decide (n < 0)), .slice Ax1 (Za n.natAbs).length cx1, .bool (decide (d < 0)), .slice Ax2 (Za d.natAbs).length cx2, .bool (decide (m < 0)), .slice Ax3 (Za m.natAbs).length cx3, .bool (decide (f < 0)), .slice Ax4 (Za f.natAbs).length cx4] 28)
     go_upto_region 4 with fail
     obtain ⟨y, E⟩ : ∃ W, W = wr.alloc (.cells #[.bool (decide (n < 0)), .slice Ax1 (Za n.natAbs).length cx1, .bool (decide (d < 0)), .slice Ax2 (Za d.natAbs).length cx2, .bool (decide (m < 0)), .slice Ax3 (Za m.natAbs).length cx3, .bool (decide (f < 0)), .slice Ax4 (Za f.natAbs).length cx4] 28) := ⟨_, rfl⟩
     obtain ⟨bq, hq⟩ : ∃ q, q = wr.heap.size := ⟨_, rfl⟩
     rw [<- E] at hb2
     rw [<- E, <- hq] at px ⊢
     have HB := Hd hb2
     clear hb hb2 E hq l_q q0 q1 q2 q3 q4 q5 q6 q7
     obtain ⟨l_x, x0, x1, x2, x3, x4, x5, x6, x7⟩ := px.facts
     clear px
     go_wp2_with fail
     refine (H1.out y _ rfl).mono ?_
     rintro e w1 ⟨rfl, hb1⟩
     have HB1 := Hd (Zb (HB.out.alloc HB.out.size (.cells #[.bool (decide (n < 0)), .slice Ax1 (Za n.natAbs).length cx1, .bool (decide (d < 0)), .slice Ax2 (Za d.natAbs).length cx2, .bool (decide (m < 0)), .slice Ax3 (Za m.natAbs).length cx3, .bool (decide (f < 0)), .slice Ax4 (Za f.natAbs).length cx4] 26)) hb1)
     clear hb1 HB l_x x0 x1 x2 x3 x4 x5 x6 x7
     go_wp2_with fail
     go_roundw
     case rel => exact ⟨1, by go_num, Nat.le_refl _, HB1.out⟩
     case measure => simp [intOf]
   . obtain rfl : i = 1 := by omega
     have HB := Hd hb
     clear hb hi hlt
     go_wp2_with fail
     go_ret
     exact ⟨rfl, HB.out⟩
/- May, Nought, Answer, Reckoned of the references of chapter 03. (Written by wip/gauss/genref03b.py.) -/

abbrev AnsIG (n d m f N D M E k : Int) : Prop := ∀ (V : World) (v : Value), Z8 V v n d m f -> Calls Tryz.prog 107 #[v] V (YQ V N D M E k)

theorem ref03_May_g {n1 n2 n3 n4 : Bool} {xs ys us vs : List Nat} {b : Bool} (hc : (YU n1 n2 xs ys == 0 && YU n3 n4 us vs == 0) = b) (w : World) (v_x : Value) (g_x : ZI w v_x n1 n2 n3 n4 xs ys us vs)  :
   Calls Tryz.prog 105 #[v_x] w fun e w' => e = .returned (.bool b) /\ Below w.heap.size w w' := by
 obtain ⟨Ax1, cx1, Ax2, cx2, Ax3, cx3, Ax4, cx4, rfl, -⟩ := g_x.form
 have D1 := fun (V : World) (g' : Nat) (a1 : Zi V Ax1 cx1 xs) (a2 : Zi V Ax2 cx2 ys) (a3 : Zi V Ax3 cx3 us) (a4 : Zi V Ax4 cx4 vs) (hg : V.heap.size = g') => rchecks_two n1 n2 n3 n4 Ax1 Ax2 Ax3 Ax4 cx1 cx2 cx3 cx4 xs ys us vs V g' a1 a2 a3 a4 hg
 rw [hc] at D1
 have H1 := Hd D1
 clear D1 hc
 have G_x := Hd g_x
 clear g_x
 go_enter Tryz.func105, Tryz.ntmps105
 go_upto_region 1 with fail
 refine XF (P := fun W => Code.wp _ _ _ _ W) fun W p0 b0 => ?_
 have P_x := Hd (Z6.mk p0)
 have HB := Hd b0
 clear b0 p0
 obtain ⟨-, x0, x1, x2, x3, x4, x5, x6, x7⟩ := P_x.out.facts
 go_wp2_with fail
 obtain ⟨s1, s2, s3, s4⟩ := (G_x.out.below HB.out).raws
 refine (H1.out W _ s1 s2 s3 s4 rfl).mono ?_
 rintro e w9 ⟨rfl, hb⟩
 have HB9 := Hd (Zb (HB.out.alloc HB.out.size (.cells #[.bool n1, .slice Ax1 xs.length cx1, .bool n2, .slice Ax2 ys.length cx2, .bool n3, .slice Ax3 us.length cx3, .bool n4, .slice Ax4 vs.length cx4] 26)) hb)
 clear x0 x1 x2 x3 x4 x5 x6 x7
 clear hb s1 s2 s3 s4
 go_wp2_with fail
 go_ret
 exact ⟨rfl, HB9.out⟩

theorem ref03_May (n1 n2 n3 n4 : Bool) (xs ys us vs : List Nat) : MayG 105 n1 n2 n3 n4 xs ys us vs (YU n1 n2 xs ys == 0 && YU n3 n4 us vs == 0) := by
 intro V v g1
 exact ref03_May_g rfl V v g1

theorem ref03_Answer_fits {n d m f : Int} (hb : ((decide (2048 < (Za n.natAbs).length) || decide (2048 < (Za d.natAbs).length)) || (decide (2048 < (Za m.natAbs).length) || decide (2048 < (Za f.natAbs).length))) = false) (w : World) (v_x : Value) (g_x : Zp w v_x n d m f) (o_x : Z8 w v_x n d m f) :
   Calls Tryz.prog 107 #[v_x] w (YQ w n d m f 0) := by
 obtain ⟨Ax1, cx1, Ax2, cx2, Ax3, cx3, Ax4, cx4, rfl, -⟩ := g_x.form
 have l1 : (Za n.natAbs).length <= 9223372036854775807 := by have := g_x.raws.1.cap; have := g_x.raws.1.most; omega
 have l2 : (Za d.natAbs).length <= 9223372036854775807 := by have := g_x.raws.2.1.cap; have := g_x.raws.2.1.most; omega
 have l3 : (Za m.natAbs).length <= 9223372036854775807 := by have := g_x.raws.2.2.1.cap; have := g_x.raws.2.2.1.most; omega
 have l4 : (Za f.natAbs).length <= 9223372036854775807 := by have := g_x.raws.2.2.2.cap; have := g_x.raws.2.2.2.most; omega
 have H1 := Hd (fun (V : World) (g' : Nat) (hg : V.heap.size = g') => JN n d m f Ax1 Ax2 Ax3 Ax4 cx1 cx2 cx3 cx4 false l1 l2 l3 l4 hb V g' hg)
 have OX := Hd o_x
 clear l1 l2 l3 l4 o_x hb
 have G_x := Hd g_x
 clear g_x
 go_enter Tryz.func107, Tryz.ntmps107
 go_upto_region 1 with fail
 refine Yp (P := fun W => Code.wp _ _ _ _ W) fun W p0 p1 b0 => ?_
 have P_x := Hd (Z6.mk p0)
 have PR := Hd (Z6.mk p1)
 have HB := Hd b0
 clear b0 p0 p1
 have OX := Hd (OX.out.below HB.out)
 obtain ⟨-, x0, x1, x2, x3, x4, x5, x6, x7⟩ := P_x.out.facts
 go_wp2_with fail
 refine (H1.out W _ rfl).mono ?_
 rintro e wx1 ⟨rfl, hb⟩
 have hb := ((Below.refl W.heap.size W).alloc (Nat.le_refl _) (.cells #[.bool (decide (n < 0)), .slice Ax1 (Za n.natAbs).length cx1, .bool (decide (d < 0)), .slice Ax2 (Za d.natAbs).length cx2, .bool (decide (m < 0)), .slice Ax3 (Za m.natAbs).length cx3, .bool (decide (f < 0)), .slice Ax4 (Za f.natAbs).length cx4] 26)).trans (hb.mono (by simp))
 clear x0 x1 x2 x3 x4 x5 x6 x7
 have P_x := Hd (P_x.out.below hb)
 have PR := Hd (PR.out.below hb)
 have OX := Hd (OX.out.below hb)
 have HB := Hd (Zb HB.out hb)
 clear hb
 obtain ⟨-, x0, x1, x2, x3, x4, x5, x6, x7⟩ := P_x.out.facts
 obtain ⟨l_r, r0, r1, r2, r3, r4, r5, r6, r7⟩ := PR.out.facts
 obtain ⟨f0, f1, f2, f3, f4, f5, f6, f7⟩ := PR.out.free
 have HQ := Hd (PR.out.store (.bool (decide (n < 0))) (.slice Ax1 (Za n.natAbs).length cx1) (.bool (decide (d < 0))) (.slice Ax2 (Za d.natAbs).length cx2) (.bool (decide (m < 0))) (.slice Ax3 (Za m.natAbs).length cx3) (.bool (decide (f < 0))) (.slice Ax4 (Za f.natAbs).length cx4))
 have HB9 := Hd (below8 HB.out (show w.heap.size <= w.heap.size + 1 by omega) (.bool (decide (n < 0))) (.slice Ax1 (Za n.natAbs).length cx1) (.bool (decide (d < 0))) (.slice Ax2 (Za d.natAbs).length cx2) (.bool (decide (m < 0))) (.slice Ax3 (Za m.natAbs).length cx3) (.bool (decide (f < 0))) (.slice Ax4 (Za f.natAbs).length cx4))
 have HF := Hd (OX.out.oct PR.out (by decide) (.bool (decide (n < 0))) (.slice Ax1 (Za n.natAbs).length cx1) (.bool (decide (d < 0))) (.slice Ax2 (Za d.natAbs).length cx2) (.bool (decide (m < 0))) (.slice Ax3 (Za m.natAbs).length cx3) (.bool (decide (f < 0))) (.slice Ax4 (Za f.natAbs).length cx4))
 go_wp2_with fail
 obtain ⟨_, k0, k1, k2, k3, k4, k5, k6, k7⟩ := HQ.out.facts
 exact bodyPost_ret (by simp [results, Tryz.results107, go_sem, k0, k1, k2, k3, k4, k5, k6, k7]) rfl ⟨_, rfl, HF.out, HB9.out⟩

theorem ref03_Answer_long {n d m f : Int} (hb : ((decide (2048 < (Za n.natAbs).length) || decide (2048 < (Za d.natAbs).length)) || (decide (2048 < (Za m.natAbs).length) || decide (2048 < (Za f.natAbs).length))) = true) (w : World) (v_x : Value) (g_x : Zp w v_x n d m f) (o_x : Z8 w v_x n d m f) :
   Calls Tryz.prog 107 #[v_x] w (YQ w 0 0 0 0 4) := by
 obtain ⟨Ax1, cx1, Ax2, cx2, Ax3, cx3, Ax4, cx4, rfl, -⟩ := g_x.form
 have l1 : (Za n.natAbs).length <= 9223372036854775807 := by have := g_x.raws.1.cap; have := g_x.raws.1.most; omega
 have l2 : (Za d.natAbs).length <= 9223372036854775807 := by have := g_x.raws.2.1.cap; have := g_x.raws.2.1.most; omega
 have l3 : (Za m.natAbs).length <= 9223372036854775807 := by have := g_x.raws.2.2.1.cap; have := g_x.raws.2.2.1.most; omega
 have l4 : (Za f.natAbs).length <= 9223372036854775807 := by have := g_x.raws.2.2.2.cap; have := g_x.raws.2.2.2.most; omega
 have H1 := Hd (fun (V : World) (g' : Nat) (hg : V.heap.size = g') => JN n d m f Ax1 Ax2 Ax3 Ax4 cx1 cx2 cx3 cx4 true l1 l2 l3 l4 hb V g' hg)
 have OX := Hd o_x
 clear l1 l2 l3 l4 o_x hb
 have G_x := Hd g_x
 clear g_x
 go_enter Tryz.func107, Tryz.ntmps107
 go_upto_region 1 with fail
 refine Yp (P := fun W => Code.wp _ _ _ _ W) fun W p0 p1 b0 => ?_
 have P_x := Hd (Z6.mk p0)
 have PR := Hd (Z6.mk p1)
 have HB := Hd b0
 clear b0 p0 p1
 have OX := Hd (OX.out.below HB.out)
 obtain ⟨-, x0, x1, x2, x3, x4, x5, x6, x7⟩ := P_x.out.facts
 go_wp2_with fail
 refine (H1.out W _ rfl).mono ?_
 rintro e wx1 ⟨rfl, hb⟩
 have hb := ((Below.refl W.heap.size W).alloc (Nat.le_refl _) (.cells #[.bool (decide (n < 0)), .slice Ax1 (Za n.natAbs).length cx1, .bool (decide (d < 0)), .slice Ax2 (Za d.natAbs).length cx2, .bool (decide (m < 0)), .slice Ax3 (Za m.natAbs).length cx3, .bool (decide (f < 0)), .slice Ax4 (Za f.natAbs).length cx4] 26)).trans (hb.mono (by simp))
 clear x0 x1 x2 x3 x4 x5 x6 x7
 have P_x := Hd (P_x.out.below hb)
 have PR := Hd (PR.out.below hb)
 have OX := Hd (OX.out.below hb)
 have HB := Hd (Zb HB.out hb)
 clear hb
 obtain ⟨l_r, r0, r1, r2, r3, r4, r5, r6, r7⟩ := PR.out.facts
 obtain ⟨f0, f1, f2, f3, f4, f5, f6, f7⟩ := PR.out.free
 have HQ := Hd (gzero PR.out HB.out (show w.heap.size <= w.heap.size + 1 by omega))
 go_wp2_with fail
 obtain ⟨_, k0, k1, k2, k3, k4, k5, k6, k7⟩ := HQ.out.1.facts
 exact bodyPost_ret (by simp [results, Tryz.results107, go_sem, k0, k1, k2, k3, k4, k5, k6, k7]) rfl ⟨_, rfl, (Zv.nought _ 0).in_, HQ.out.2⟩

end Go.Proofs.YthlehkjcfhnplaaGreatDoor
