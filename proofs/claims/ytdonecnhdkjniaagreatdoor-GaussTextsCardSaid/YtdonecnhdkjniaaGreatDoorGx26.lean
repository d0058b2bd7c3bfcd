/- Several texts in one: ArgandLaw, Gauss, Ref03, Ref03Law, ArgandAns. -/
import Derived.Test.YtdonecnhdkjniaaGreatDoorGx25
set_option maxRecDepth 100000
set_option maxHeartbeats 8000000
namespace Go.Proofs.YtdonecnhdkjniaaGreatDoor
open Go.RowKit

theorem sgn_r {a : Rat} {n d : Int} (_ha : Is a n d) : XE 21 n d n.sign := by
 intro V v1 g1
 obtain ⟨A, c, B, e0, rfl, a1, -⟩ := g1.form
 exact ratio_Sign n n.sign d A B c e0 V a1 rfl
theorem Ys (n : Int) (b : Bool) (h : decide (n = 0) = b) : (n.sign == 0) = b := by
 rw [<- h]
 by_cases hn : n = 0
 . subst hn; rfl
 . rw [decide_eq_false hn]
   exact beq_eq_false_iff_ne.2 (fun e => hn (Int.sign_eq_zero_iff_zero.1 e))
section
variable {a b c e : Rat} {n d m f p q r s N D M E : Int}
end

def zeroG : Value := .agg #[.bool false, .slice none 0 0, .bool false, .slice none 0 0, .bool false, .slice none 0 0, .bool false, .slice none 0 0]
abbrev MayG (F : FuncId) (n1 n2 n3 n4 : Bool) (xs ys us vs : List Nat) (b : Bool) : Prop := ∀ (V : World) (v : Value), ZR V v n1 n2 n3 n4 xs ys us vs -> Calls Tryz.prog F #[v] V fun e w' => e = .returned (.bool b) /\ Below V.heap.size V w'
abbrev AnsG (F : FuncId) (n d m f k : Int) : Prop := ∀ (V : World) (g : Nat) (v : Value) (A1 A2 A3 A4 : Option Addr) (c1 c2 c3 c4 : Nat), V.heap.size = g -> v = .agg #[.bool (decide (n < 0)), .slice A1 (Za n.natAbs).length c1, .bool (decide (d < 0)), .slice A2 (Za d.natAbs).length c2, .bool (decide (m < 0)), .slice A3 (Za m.natAbs).length c3, .bool (decide (f < 0)), .slice A4 (Za f.natAbs).length c4] ->
 (Za n.natAbs).length <= 9223372036854775807 -> (Za d.natAbs).length <= 9223372036854775807 -> (Za m.natAbs).length <= 9223372036854775807 -> (Za f.natAbs).length <= 9223372036854775807 ->
 Calls Tryz.prog F #[.slice (some ⟨g, 0, none⟩) 1 1] (V.alloc (.cells #[.bool (decide (n < 0)), .slice A1 (Za n.natAbs).length c1, .bool (decide (d < 0)), .slice A2 (Za d.natAbs).length c2, .bool (decide (m < 0)), .slice A3 (Za m.natAbs).length c3, .bool (decide (f < 0)), .slice A4 (Za f.natAbs).length c4] 28)) fun e w' => e = .returned (.int .i64 k) /\ Below (V.heap.size + 1) (V.alloc (.cells #[.bool (decide (n < 0)), .slice A1 (Za n.natAbs).length c1, .bool (decide (d < 0)), .slice A2 (Za d.natAbs).length c2, .bool (decide (m < 0)), .slice A3 (Za m.natAbs).length c3, .bool (decide (f < 0)), .slice A4 (Za f.natAbs).length c4] 28)) w'
abbrev Ji (n d m f N D M E k : Int) : Prop := ∀ (V : World) (base : Nat) (v : Value), base <= V.heap.size -> Zo V base v n d m f -> Calls Tryz.prog 30 #[v] V (ZZ base V N D M E k)
abbrev NoughtG (F : FuncId) (n d m f : Int) (b : Bool) : Prop := ∀ (V : World) (v : Value), Zq V v n d m f -> Calls Tryz.prog F #[v] V fun e w' => e = .returned (.bool b) /\ Below V.heap.size V w'
abbrev OpGR2 (F : FuncId) (n1 n2 n3 n4 : Bool) (xs ys us vs : List Nat) (m1 m2 m3 m4 : Bool) (ps qs rs ts : List Nat) (N D M E k : Int) : Prop := ∀ (V : World) (v1 v2 : Value), ZR V v1 n1 n2 n3 n4 xs ys us vs -> ZR V v2 m1 m2 m3 m4 ps qs rs ts -> Calls Tryz.prog F #[v1, v2] V (ZZ V.heap.size V N D M E k)
abbrev OpG2 (F : FuncId) (n d m f p q r s N D M E k : Int) : Prop := ∀ (V : World) (v1 v2 : Value), Zq V v1 n d m f -> Zq V v2 p q r s -> Calls Tryz.prog F #[v1, v2] V (ZZ V.heap.size V N D M E k)

theorem may_g {n1 n2 n3 n4 : Bool} {xs ys us vs : List Nat} {b : Bool} (hc : (XC n1 n2 xs ys == 0 && XC n3 n4 us vs == 0) = b) (w : World) (v_x : Value) (g_x : ZR w v_x n1 n2 n3 n4 xs ys us vs)  :
  Calls Tryz.prog 20 #[v_x] w fun e w' => e = .returned (.bool b) /\ Below w.heap.size w w' := by
 obtain ⟨Ax1, cx1, Ax2, cx2, Ax3, cx3, Ax4, cx4, rfl, -⟩ := g_x.form
 have D1 := fun (V : World) (g' : Nat) (a1 : Zm V Ax1 cx1 xs) (a2 : Zm V Ax2 cx2 ys) (a3 : Zm V Ax3 cx3 us) (a4 : Zm V Ax4 cx4 vs) (hg : V.heap.size = g') => checks_two n1 n2 n3 n4 Ax1 Ax2 Ax3 Ax4 cx1 cx2 cx3 cx4 xs ys us vs V g' a1 a2 a3 a4 hg
 rw [hc] at D1
 have H1 := Hd D1
 clear D1 hc
 have G_x := Hd g_x
 clear g_x
 go_enter Tryz.func20, Tryz.ntmps20
 go_upto_region 1 with fail
 refine Zp (P := fun W => Code.wp _ _ _ _ W) fun W p0 b0 => ?_
 have P_x := Hd (Yl.mk p0)
 have HB := Hd b0
 clear b0 p0
 obtain ⟨-, x0, x1, x2, x3, x4, x5, x6, x7⟩ := P_x.out.facts
 go_wp2_with fail
 obtain ⟨s1, s2, s3, s4⟩ := (G_x.out.below HB.out).raws
 refine (H1.out W _ s1 s2 s3 s4 rfl).mono ?_
 rintro e w9 ⟨rfl, hb⟩
 have HB9 := Hd (Zb (HB.out.alloc HB.out.size (.cells #[.bool n1, .slice Ax1 xs.length cx1, .bool n2, .slice Ax2 ys.length cx2, .bool n3, .slice Ax3 us.length cx3, .bool n4, .slice Ax4 vs.length cx4] 26)) hb)
 clear x0 x1 x2 x3 x4 x5 x6 x7
 clear hb s1 s2 s3 s4
 go_wp2_with fail
 go_ret
 exact ⟨rfl, HB9.out⟩

theorem may_raw (n1 n2 n3 n4 : Bool) (xs ys us vs : List Nat) : MayG 20 n1 n2 n3 n4 xs ys us vs (XC n1 n2 xs ys == 0 && XC n3 n4 us vs == 0) := by
 intro V v g1
 exact may_g rfl V v g1

theorem both_Times {n d m f p q r s T1 T2 T3 T4 N D M E k : Int} (C1 : MayG 20 (decide (n < 0)) (decide (d < 0)) (decide (m < 0)) (decide (f < 0)) (Za n.natAbs) (Za d.natAbs) (Za m.natAbs) (Za f.natAbs) true) (C2 : MayG 20 (decide (p < 0)) (decide (q < 0)) (decide (r < 0)) (decide (s < 0)) (Za p.natAbs) (Za q.natAbs) (Za r.natAbs) (Za s.natAbs) true) (C3 : OpG 155 n d m f p q r s T1 T2 T3 T4) (C4 : Ji T1 T2 T3 T4 N D M E k) (w : World) (v_x v_y : Value) (g_x : Zq w v_x n d m f) (g_y : Zq w v_y p q r s)  :
  Calls Tryz.prog 154 #[v_x, v_y, .func (.func 155) #[] #[]] w (ZZ w.heap.size w N D M E k) := by
 obtain ⟨Ax1, cx1, Ax2, cx2, Ax3, cx3, Ax4, cx4, rfl, -⟩ := g_x.form
 obtain ⟨Ay1, cy1, Ay2, cy2, Ay3, cy3, Ay4, cy4, rfl, -⟩ := g_y.form
 have H1 := Hd C1
 have H2 := Hd C2
 have H3 := Hd C3
 have H4 := Hd C4
 clear C1 C2 C3 C4
 have G_x := Hd g_x
 have G_y := Hd g_y
 clear g_x g_y
 go_enter Tryz.func154, Tryz.ntmps154
 go_upto_region 1 with fail
 refine boxes3 (P := fun W => Code.wp _ _ _ _ W) fun W p0 p1 p2 b0 => ?_
 have P_x := Hd (Yl.mk p0)
 have P_y := Hd (Yl.mk p1)
 have PR := Hd (Yl.mk p2)
 have HB := Hd b0
 clear b0 p0 p1 p2
 obtain ⟨-, x0, x1, x2, x3, x4, x5, x6, x7⟩ := P_x.out.facts
 go_wp2_with fail
 refine (H1.out W _ (G_x.out.below HB.out).raw).mono ?_
 rintro e wx1 ⟨rfl, hb⟩
 clear x0 x1 x2 x3 x4 x5 x6 x7
 have P_x := Hd (P_x.out.below hb)
 have P_y := Hd (P_y.out.below hb)
 have PR := Hd (PR.out.below hb)
 have HB := Hd (Zb HB.out hb)
 clear hb
 obtain ⟨-, y0, y1, y2, y3, y4, y5, y6, y7⟩ := P_y.out.facts
 go_wp2_with fail
 refine (H2.out wx1 _ (G_y.out.below HB.out).raw).mono ?_
 rintro e wx2 ⟨rfl, hb⟩
 clear y0 y1 y2 y3 y4 y5 y6 y7
 have P_x := Hd (P_x.out.below hb)
 have P_y := Hd (P_y.out.below hb)
 have PR := Hd (PR.out.below hb)
 have HB := Hd (Zb HB.out hb)
 clear hb
 obtain ⟨-, x0, x1, x2, x3, x4, x5, x6, x7⟩ := P_x.out.facts
 obtain ⟨-, y0, y1, y2, y3, y4, y5, y6, y7⟩ := P_y.out.facts
 go_wp2_with fail
 refine (H3.out wx2 _ _ (G_x.out.below HB.out) (G_y.out.below HB.out)).mono ?_
 rintro e wt ⟨v, rfl, hI, hb⟩
 clear x0 x1 x2 x3 x4 x5 x6 x7 y0 y1 y2 y3 y4 y5 y6 y7
 have HI0 := Hd (hI.base HB.out.size)
 have P_x := Hd (P_x.out.below hb)
 have P_y := Hd (P_y.out.below hb)
 have PR := Hd (PR.out.below hb)
 have HB := Hd (Zb HB.out hb)
 clear hI hb
 go_wp2_with fail
 refine (H4.out wt w.heap.size _ HB.out.size HI0.out).mono ?_
 rintro e w9 ⟨v, rfl, hI, hb⟩
 obtain ⟨A6, c6, A7, c7, A8, c8, A9, c9, rfl, -⟩ := hI.form
 have pr := PR.out.below hb
 have hb9 := Zb HB.out hb
 obtain ⟨l_r, r0, r1, r2, r3, r4, r5, r6, r7⟩ := pr.facts
 obtain ⟨f0, f1, f2, f3, f4, f5, f6, f7⟩ := pr.free
 have H9 := Hd (gstore hI pr hb9 (show w.heap.size <= w.heap.size + 1 + 1 by omega) (by decide))
 clear hb hb9 pr hI
 go_wp2_with fail
 obtain ⟨_, k0, k1, k2, k3, k4, k5, k6, k7⟩ := H9.out.1.facts
 exact bodyPost_ret (by simp [results, Tryz.results154, go_sem, k0, k1, k2, k3, k4, k5, k6, k7]) rfl ⟨_, rfl, H9.out.2.2, H9.out.2.1⟩

abbrev BothC (fv : Value) (n1 n2 n3 n4 : Bool) (xs ys us vs : List Nat) (m1 m2 m3 m4 : Bool) (ps qs rs ts : List Nat) (N D M E k : Int) : Prop := ∀ (V : World) (v1 v2 : Value), ZR V v1 n1 n2 n3 n4 xs ys us vs -> ZR V v2 m1 m2 m3 m4 ps qs rs ts -> Calls Tryz.prog 154 #[v1, v2, fv] V (ZZ V.heap.size V N D M E k)

theorem gauss_Mul {n1 n2 n3 n4 : Bool} {xs ys us vs : List Nat} {m1 m2 m3 m4 : Bool} {ps qs rs ts : List Nat} {N D M E k : Int} (C1 : BothC (.func (.func 155) #[] #[]) n1 n2 n3 n4 xs ys us vs m1 m2 m3 m4 ps qs rs ts N D M E k) (w : World) (v_x v_y : Value) (g_x : ZR w v_x n1 n2 n3 n4 xs ys us vs) (g_y : ZR w v_y m1 m2 m3 m4 ps qs rs ts)  :
  Calls Tryz.prog 86 #[v_x, v_y] w (ZZ w.heap.size w N D M E k) := by
 obtain ⟨Ax1, cx1, Ax2, cx2, Ax3, cx3, Ax4, cx4, rfl, -⟩ := g_x.form
 obtain ⟨Ay1, cy1, Ay2, cy2, Ay3, cy3, Ay4, cy4, rfl, -⟩ := g_y.form
 have H1 := Hd C1
 clear C1
 have G_x := Hd g_x
 have G_y := Hd g_y
 clear g_x g_y
 go_enter Tryz.func86, Tryz.ntmps86
 go_upto_region 1 with fail
 refine boxes3 (P := fun W => Code.wp _ _ _ _ W) fun W p0 p1 p2 b0 => ?_
 have P_x := Hd (Yl.mk p0)
 have P_y := Hd (Yl.mk p1)
 have PR := Hd (Yl.mk p2)
 have HB := Hd b0
 clear b0 p0 p1 p2
 obtain ⟨-, x0, x1, x2, x3, x4, x5, x6, x7⟩ := P_x.out.facts
 obtain ⟨-, y0, y1, y2, y3, y4, y5, y6, y7⟩ := P_y.out.facts
 go_wp2_with fail
 refine (H1.out W _ _ (G_x.out.below HB.out) (G_y.out.below HB.out)).mono ?_
 rintro e w9 ⟨v, rfl, hI, hb⟩
 clear x0 x1 x2 x3 x4 x5 x6 x7 y0 y1 y2 y3 y4 y5 y6 y7
 obtain ⟨A6, c6, A7, c7, A8, c8, A9, c9, rfl, -⟩ := hI.form
 have pr := PR.out.below hb
 have hb9 := Zb HB.out hb
 obtain ⟨l_r, r0, r1, r2, r3, r4, r5, r6, r7⟩ := pr.facts
 obtain ⟨f0, f1, f2, f3, f4, f5, f6, f7⟩ := pr.free
 have H9 := Hd (gstore hI pr hb9 (show w.heap.size <= w.heap.size + 1 + 1 by omega) (by decide))
 clear hb hb9 pr hI
 go_wp2_with fail
 obtain ⟨_, k0, k1, k2, k3, k4, k5, k6, k7⟩ := H9.out.1.facts
 exact bodyPost_ret (by simp [results, Tryz.results86, go_sem, k0, k1, k2, k3, k4, k5, k6, k7]) rfl ⟨_, rfl, H9.out.2.2.base HB.out.size, H9.out.2.1⟩

theorem gauss_Quo_nought {n d m f p q r s : Int} (C0 : MayG 20 (decide (n < 0)) (decide (d < 0)) (decide (m < 0)) (decide (f < 0)) (Za n.natAbs) (Za d.natAbs) (Za m.natAbs) (Za f.natAbs) true) (C2 : MayG 20 (decide (p < 0)) (decide (q < 0)) (decide (r < 0)) (decide (s < 0)) (Za p.natAbs) (Za q.natAbs) (Za r.natAbs) (Za s.natAbs) true) (C3 : NoughtG 156 p q r s true) (w : World) (v_x v_y : Value) (g_x : Zq w v_x n d m f) (g_y : Zq w v_y p q r s)  :
  Calls Tryz.prog 88 #[v_x, v_y] w (ZZ w.heap.size w 0 0 0 0 3) := by
 obtain ⟨Ax1, cx1, Ax2, cx2, Ax3, cx3, Ax4, cx4, rfl, -⟩ := g_x.form
 obtain ⟨Ay1, cy1, Ay2, cy2, Ay3, cy3, Ay4, cy4, rfl, -⟩ := g_y.form
 have H0 := Hd C0
 have H2 := Hd C2
 have H3 := Hd C3
 clear C0 C2 C3
 have G_x := Hd g_x
 have G_y := Hd g_y
 clear g_x g_y
 go_enter Tryz.func88, Tryz.ntmps88
 go_upto_region 1 with fail
 refine boxes3 (P := fun W => Code.wp _ _ _ _ W) fun W p0 p1 p2 b0 => ?_
 have P_x := Hd (Yl.mk p0)
 have P_y := Hd (Yl.mk p1)
 have PR := Hd (Yl.mk p2)
 have HB := Hd b0
 clear b0 p0 p1 p2
 obtain ⟨-, x0, x1, x2, x3, x4, x5, x6, x7⟩ := P_x.out.facts
 go_wp2_with fail
 refine (H0.out W _ (G_x.out.below HB.out).raw).mono ?_
 rintro e wx1 ⟨rfl, hb⟩
 clear x0 x1 x2 x3 x4 x5 x6 x7
 have P_x := Hd (P_x.out.below hb)
 have P_y := Hd (P_y.out.below hb)
 have PR := Hd (PR.out.below hb)
 have HB := Hd (Zb HB.out hb)
 clear hb
 obtain ⟨-, y0, y1, y2, y3, y4, y5, y6, y7⟩ := P_y.out.facts
 go_wp2_with fail
 refine (H2.out wx1 _ (G_y.out.below HB.out).raw).mono ?_
 rintro e wx2 ⟨rfl, hb⟩
 clear y0 y1 y2 y3 y4 y5 y6 y7
 have P_x := Hd (P_x.out.below hb)
 have P_y := Hd (P_y.out.below hb)
 have PR := Hd (PR.out.below hb)
 have HB := Hd (Zb HB.out hb)
 clear hb
 obtain ⟨-, y0, y1, y2, y3, y4, y5, y6, y7⟩ := P_y.out.facts
 go_wp2_with fail
 refine (H3.out wx2 _ (G_y.out.below HB.out)).mono ?_
 rintro e wx3 ⟨rfl, hb⟩
 clear y0 y1 y2 y3 y4 y5 y6 y7
 have P_x := Hd (P_x.out.below hb)
 have P_y := Hd (P_y.out.below hb)
 have PR := Hd (PR.out.below hb)
 have HB := Hd (Zb HB.out hb)
 clear hb
 obtain ⟨l_r, r0, r1, r2, r3, r4, r5, r6, r7⟩ := PR.out.facts
 obtain ⟨f0, f1, f2, f3, f4, f5, f6, f7⟩ := PR.out.free
 have HQ := Hd (gzero PR.out HB.out (show w.heap.size <= w.heap.size + 1 + 1 by omega))
 go_wp2_with fail
 obtain ⟨_, k0, k1, k2, k3, k4, k5, k6, k7⟩ := HQ.out.1.facts
 exact bodyPost_ret (by simp [results, Tryz.results88, go_sem, k0, k1, k2, k3, k4, k5, k6, k7]) rfl ⟨_, rfl, Zo.nought _ _, HQ.out.2⟩

theorem argand_Nought_re {n d m f s0 : Int} (C1 : XE 21 n d s0) (g1 : (s0 == 0) = false) (w : World) (v_x : Value) (g_x : Zq w v_x n d m f)  :
  Calls Tryz.prog 156 #[v_x] w fun e w' => e = .returned (.bool false) /\ Below w.heap.size w w' := by
 obtain ⟨Ax1, cx1, Ax2, cx2, Ax3, cx3, Ax4, cx4, rfl, -⟩ := g_x.form
 have H1 := Hd C1
 clear C1
 have G_x := Hd g_x
 clear g_x
 go_enter Tryz.func156, Tryz.ntmps156
 go_upto_region 1 with fail
 refine Zp (P := fun W => Code.wp _ _ _ _ W) fun W p0 b0 => ?_
 have P_x := Hd (Yl.mk p0)
 have HB := Hd b0
 clear b0 p0
 obtain ⟨-, x0, x1, x2, x3, x4, x5, x6, x7⟩ := P_x.out.facts
 go_wp2_with fail
 refine (H1.out W _ (G_x.out.below HB.out).re).mono ?_
 rintro e wx1 ⟨rfl, hb⟩
 clear x0 x1 x2 x3 x4 x5 x6 x7
 have P_x := Hd (P_x.out.below hb)
 have HB := Hd (Zb HB.out hb)
 clear hb
 go_wp2_with fail
 go_ret
 exact ⟨rfl, HB.out⟩

theorem argand_Nought_im {n d m f s0 s1 : Int} (C1 : XE 21 n d s0) (g1 : (s0 == 0) = true) (C2 : XE 21 m f s1) (g2 : (s1 == 0) = false) (w : World) (v_x : Value) (g_x : Zq w v_x n d m f)  :
  Calls Tryz.prog 156 #[v_x] w fun e w' => e = .returned (.bool false) /\ Below w.heap.size w w' := by
 obtain ⟨Ax1, cx1, Ax2, cx2, Ax3, cx3, Ax4, cx4, rfl, -⟩ := g_x.form
 have H1 := Hd C1
 have H2 := Hd C2
 clear C1 C2
 have G_x := Hd g_x
 clear g_x
 go_enter Tryz.func156, Tryz.ntmps156
 go_upto_region 1 with fail
 refine Zp (P := fun W => Code.wp _ _ _ _ W) fun W p0 b0 => ?_
 have P_x := Hd (Yl.mk p0)
 have HB := Hd b0
 clear b0 p0
 obtain ⟨-, x0, x1, x2, x3, x4, x5, x6, x7⟩ := P_x.out.facts
 go_wp2_with fail
 refine (H1.out W _ (G_x.out.below HB.out).re).mono ?_
 rintro e wx1 ⟨rfl, hb⟩
 clear x0 x1 x2 x3 x4 x5 x6 x7
 have P_x := Hd (P_x.out.below hb)
 have HB := Hd (Zb HB.out hb)
 clear hb
 obtain ⟨-, x0, x1, x2, x3, x4, x5, x6, x7⟩ := P_x.out.facts
 go_wp2_with fail
 refine (H2.out wx1 _ (G_x.out.below HB.out).im).mono ?_
 rintro e wx2 ⟨rfl, hb⟩
 clear x0 x1 x2 x3 x4 x5 x6 x7
 have P_x := Hd (P_x.out.below hb)
 have HB := Hd (Zb HB.out hb)
 clear hb
 go_wp2_with fail
 go_ret
 exact ⟨rfl, HB.out⟩

theorem argand_Nought_yes {n d m f s0 s1 : Int} (C1 : XE 21 n d s0) (g1 : (s0 == 0) = true) (C2 : XE 21 m f s1) (g2 : (s1 == 0) = true) (w : World) (v_x : Value) (g_x : Zq w v_x n d m f)  :
  Calls Tryz.prog 156 #[v_x] w fun e w' => e = .returned (.bool true) /\ Below w.heap.size w w' := by
 obtain ⟨Ax1, cx1, Ax2, cx2, Ax3, cx3, Ax4, cx4, rfl, -⟩ := g_x.form
 have H1 := Hd C1
 have H2 := Hd C2
 clear C1 C2
 have G_x := Hd g_x
 clear g_x
 go_enter Tryz.func156, Tryz.ntmps156
 go_upto_region 1 with fail
 refine Zp (P := fun W => Code.wp _ _ _ _ W) fun W p0 b0 => ?_
 have P_x := Hd (Yl.mk p0)
 have HB := Hd b0
 clear b0 p0
 obtain ⟨-, x0, x1, x2, x3, x4, x5, x6, x7⟩ := P_x.out.facts
 go_wp2_with fail
 refine (H1.out W _ (G_x.out.below HB.out).re).mono ?_
 rintro e wx1 ⟨rfl, hb⟩
 clear x0 x1 x2 x3 x4 x5 x6 x7
 have P_x := Hd (P_x.out.below hb)
 have HB := Hd (Zb HB.out hb)
 clear hb
 obtain ⟨-, x0, x1, x2, x3, x4, x5, x6, x7⟩ := P_x.out.facts
 go_wp2_with fail
 refine (H2.out wx1 _ (G_x.out.below HB.out).im).mono ?_
 rintro e wx2 ⟨rfl, hb⟩
 clear x0 x1 x2 x3 x4 x5 x6 x7
 have P_x := Hd (P_x.out.below hb)
 have HB := Hd (Zb HB.out hb)
 clear hb
 go_wp2_with fail
 go_ret
 exact ⟨rfl, HB.out⟩

theorem answered_fits {n d m f : Int} {base : Nat} (C1 : AnsG 109 n d m f 0) (w : World) (v_x : Value) (g_x : Zq w v_x n d m f) (hbw : base <= w.heap.size) (o_x : Zo w base v_x n d m f) :
  Calls Tryz.prog 30 #[v_x] w (ZZ base w n d m f 0) := by
 obtain ⟨Ax1, cx1, Ax2, cx2, Ax3, cx3, Ax4, cx4, rfl, -⟩ := g_x.form
 have l1 : (Za n.natAbs).length <= 9223372036854775807 := by have := g_x.raws.1.cap; have := g_x.raws.1.most; omega
 have l2 : (Za d.natAbs).length <= 9223372036854775807 := by have := g_x.raws.2.1.cap; have := g_x.raws.2.1.most; omega
 have l3 : (Za m.natAbs).length <= 9223372036854775807 := by have := g_x.raws.2.2.1.cap; have := g_x.raws.2.2.1.most; omega
 have l4 : (Za f.natAbs).length <= 9223372036854775807 := by have := g_x.raws.2.2.2.cap; have := g_x.raws.2.2.2.most; omega
 have HL := Hd (And.intro l1 (And.intro l2 (And.intro l3 l4)))
 have OX := Hd o_x
 have _ := hbw
 clear l1 l2 l3 l4 o_x
 have H1 := Hd C1
 clear C1
 have G_x := Hd g_x
 clear g_x
 go_enter Tryz.func30, Tryz.ntmps30
 go_upto_region 1 with fail
 refine boxes2 (P := fun W => Code.wp _ _ _ _ W) fun W p0 p1 b0 => ?_
 have P_x := Hd (Yl.mk p0)
 have PR := Hd (Yl.mk p1)
 have HB := Hd b0
 clear b0 p0 p1
 have OX := Hd (OX.out.below HB.out)
 obtain ⟨-, x0, x1, x2, x3, x4, x5, x6, x7⟩ := P_x.out.facts
 go_wp2_with fail
 refine (H1.out W _ _ Ax1 Ax2 Ax3 Ax4 cx1 cx2 cx3 cx4 rfl rfl HL.out.1 HL.out.2.1 HL.out.2.2.1 HL.out.2.2.2).mono ?_
 rintro e wx1 ⟨rfl, hb⟩
 have hb := ((Below.refl W.heap.size W).alloc (Nat.le_refl _) (.cells #[.bool (decide (n < 0)), .slice Ax1 (Za n.natAbs).length cx1, .bool (decide (d < 0)), .slice Ax2 (Za d.natAbs).length cx2, .bool (decide (m < 0)), .slice Ax3 (Za m.natAbs).length cx3, .bool (decide (f < 0)), .slice Ax4 (Za f.natAbs).length cx4] 28)).trans (hb.mono (by omega))
 clear x0 x1 x2 x3 x4 x5 x6 x7
 have P_x := Hd (P_x.out.below hb)
 have PR := Hd (PR.out.below hb)
 have OX := Hd (OX.out.below hb)
 have HB := Hd (Zb HB.out hb)
 clear hb
 obtain ⟨-, x0, x1, x2, x3, x4, x5, x6, x7⟩ := P_x.out.facts
 obtain ⟨l_r, r0, r1, r2, r3, r4, r5, r6, r7⟩ := PR.out.facts
 obtain ⟨f0, f1, f2, f3, f4, f5, f6, f7⟩ := PR.out.free
 have HQ := Hd (PR.out.store (.bool (decide (n < 0))) (.slice Ax1 (Za n.natAbs).length cx1) (.bool (decide (d < 0))) (.slice Ax2 (Za d.natAbs).length cx2) (.bool (decide (m < 0))) (.slice Ax3 (Za m.natAbs).length cx3) (.bool (decide (f < 0))) (.slice Ax4 (Za f.natAbs).length cx4))
 have HB9 := Hd (below8 HB.out (show w.heap.size <= w.heap.size + 1 by omega) (.bool (decide (n < 0))) (.slice Ax1 (Za n.natAbs).length cx1) (.bool (decide (d < 0))) (.slice Ax2 (Za d.natAbs).length cx2) (.bool (decide (m < 0))) (.slice Ax3 (Za m.natAbs).length cx3) (.bool (decide (f < 0))) (.slice Ax4 (Za f.natAbs).length cx4))
 have HF := Hd (OX.out.oct PR.out (by decide) (.bool (decide (n < 0))) (.slice Ax1 (Za n.natAbs).length cx1) (.bool (decide (d < 0))) (.slice Ax2 (Za d.natAbs).length cx2) (.bool (decide (m < 0))) (.slice Ax3 (Za m.natAbs).length cx3) (.bool (decide (f < 0))) (.slice Ax4 (Za f.natAbs).length cx4))
 go_wp2_with fail
 obtain ⟨_, k0, k1, k2, k3, k4, k5, k6, k7⟩ := HQ.out.facts
 exact bodyPost_ret (by simp [results, Tryz.results30, go_sem, k0, k1, k2, k3, k4, k5, k6, k7]) rfl ⟨_, rfl, HF.out, HB9.out⟩

theorem answered_long {n d m f : Int} {base : Nat} (C1 : AnsG 109 n d m f 4) (w : World) (v_x : Value) (g_x : Zq w v_x n d m f) (hbw : base <= w.heap.size) (o_x : Zo w base v_x n d m f) :
  Calls Tryz.prog 30 #[v_x] w (ZZ base w 0 0 0 0 4) := by
 obtain ⟨Ax1, cx1, Ax2, cx2, Ax3, cx3, Ax4, cx4, rfl, -⟩ := g_x.form
 have l1 : (Za n.natAbs).length <= 9223372036854775807 := by have := g_x.raws.1.cap; have := g_x.raws.1.most; omega
 have l2 : (Za d.natAbs).length <= 9223372036854775807 := by have := g_x.raws.2.1.cap; have := g_x.raws.2.1.most; omega
 have l3 : (Za m.natAbs).length <= 9223372036854775807 := by have := g_x.raws.2.2.1.cap; have := g_x.raws.2.2.1.most; omega
 have l4 : (Za f.natAbs).length <= 9223372036854775807 := by have := g_x.raws.2.2.2.cap; have := g_x.raws.2.2.2.most; omega
 have HL := Hd (And.intro l1 (And.intro l2 (And.intro l3 l4)))
 have OX := Hd o_x
 have _ := hbw
 clear l1 l2 l3 l4 o_x
 have H1 := Hd C1
 clear C1
 have G_x := Hd g_x
 clear g_x
 go_enter Tryz.func30, Tryz.ntmps30
 go_upto_region 1 with fail
 refine boxes2 (P := fun W => Code.wp _ _ _ _ W) fun W p0 p1 b0 => ?_
 have P_x := Hd (Yl.mk p0)
 have PR := Hd (Yl.mk p1)
 have HB := Hd b0
 clear b0 p0 p1
 have OX := Hd (OX.out.below HB.out)
 obtain ⟨-, x0, x1, x2, x3, x4, x5, x6, x7⟩ := P_x.out.facts
 go_wp2_with fail
 refine (H1.out W _ _ Ax1 Ax2 Ax3 Ax4 cx1 cx2 cx3 cx4 rfl rfl HL.out.1 HL.out.2.1 HL.out.2.2.1 HL.out.2.2.2).mono ?_
 rintro e wx1 ⟨rfl, hb⟩
 have hb := ((Below.refl W.heap.size W).alloc (Nat.le_refl _) (.cells #[.bool (decide (n < 0)), .slice Ax1 (Za n.natAbs).length cx1, .bool (decide (d < 0)), .slice Ax2 (Za d.natAbs).length cx2, .bool (decide (m < 0)), .slice Ax3 (Za m.natAbs).length cx3, .bool (decide (f < 0)), .slice Ax4 (Za f.natAbs).length cx4] 28)).trans (hb.mono (by omega))
 clear x0 x1 x2 x3 x4 x5 x6 x7
 have P_x := Hd (P_x.out.below hb)
 have PR := Hd (PR.out.below hb)
 have OX := Hd (OX.out.below hb)
 have HB := Hd (Zb HB.out hb)
 clear hb
 obtain ⟨l_r, r0, r1, r2, r3, r4, r5, r6, r7⟩ := PR.out.facts
 obtain ⟨f0, f1, f2, f3, f4, f5, f6, f7⟩ := PR.out.free
 have HQ := Hd (gzero PR.out HB.out (show w.heap.size <= w.heap.size + 1 by omega))
 go_wp2_with fail
 obtain ⟨_, k0, k1, k2, k3, k4, k5, k6, k7⟩ := HQ.out.1.facts
 exact bodyPost_ret (by simp [results, Tryz.results30, go_sem, k0, k1, k2, k3, k4, k5, k6, k7]) rfl ⟨_, rfl, Zo.nought _ _, HQ.out.2⟩

theorem allocGauss {o : Oper} (h : o.op = .alloc 28) : AllocF Tryz.prog o 28 8 := by
 refine ⟨#[.bool false, .slice none 0 0, .bool false, .slice none 0 0, .bool false, .slice none 0 0, .bool false, .slice none 0 0], rfl, fun ρ w => ?_⟩
 unfold execOp
 rw [h]
 kernel_rfl


theorem nought_i : OpI0 115 0 1 := fun V => (nought_ref 1 V rfl).mono fun _ _ ⟨v, he, h, hb⟩ => ⟨v, he, h.in_, hb⟩
section
variable {a b c e : Rat} {n d m f p q r s N D M E : Int}
end

theorem ratio_Long_two (n d m f : Int) (Ax1 Ax2 Ax3 Ax4 : Option Addr) (cx1 cx2 cx3 cx4 : Nat) (b : Bool) (l1 : (Za n.natAbs).length <= 9223372036854775807) (l2 : (Za d.natAbs).length <= 9223372036854775807) (l3 : (Za m.natAbs).length <= 9223372036854775807) (l4 : (Za f.natAbs).length <= 9223372036854775807) (hb : ((decide (2048 < (Za n.natAbs).length) || decide (2048 < (Za d.natAbs).length)) || (decide (2048 < (Za m.natAbs).length) || decide (2048 < (Za f.natAbs).length))) = b) (V : World) (g : Nat) (hg : V.heap.size = g) :
  Calls Tryz.prog 183 #[.slice (some ⟨g, 0, none⟩) 2 2] (V.alloc (.cells #[.bool (decide (n < 0)), .slice Ax1 (Za n.natAbs).length cx1, .bool (decide (d < 0)), .slice Ax2 (Za d.natAbs).length cx2, .bool (decide (m < 0)), .slice Ax3 (Za m.natAbs).length cx3, .bool (decide (f < 0)), .slice Ax4 (Za f.natAbs).length cx4] 26)) fun e w' => e = .returned (.bool b) /\ Below (V.alloc (.cells #[.bool (decide (n < 0)), .slice Ax1 (Za n.natAbs).length cx1, .bool (decide (d < 0)), .slice Ax2 (Za d.natAbs).length cx2, .bool (decide (m < 0)), .slice Ax3 (Za m.natAbs).length cx3, .bool (decide (f < 0)), .slice Ax4 (Za f.natAbs).length cx4] 26)).heap.size (V.alloc (.cells #[.bool (decide (n < 0)), .slice Ax1 (Za n.natAbs).length cx1, .bool (decide (d < 0)), .slice Ax2 (Za d.natAbs).length cx2, .bool (decide (m < 0)), .slice Ax3 (Za m.natAbs).length cx3, .bool (decide (f < 0)), .slice Ax4 (Za f.natAbs).length cx4] 26)) w' := by
 have := ratio_LongL [⟨decide (n < 0), Ax1, (Za n.natAbs).length, cx1, decide (d < 0), Ax2, (Za d.natAbs).length, cx2⟩, ⟨decide (m < 0), Ax3, (Za m.natAbs).length, cx3, decide (f < 0), Ax4, (Za f.natAbs).length, cx4⟩] (some ⟨g, 0, none⟩) 2 (by simp) (by simp; omega) (V.alloc (.cells #[.bool (decide (n < 0)), .slice Ax1 (Za n.natAbs).length cx1, .bool (decide (d < 0)), .slice Ax2 (Za d.natAbs).length cx2, .bool (decide (m < 0)), .slice Ax3 (Za m.natAbs).length cx3, .bool (decide (f < 0)), .slice Ax4 (Za f.natAbs).length cx4] 26))
  (by subst hg; exact ZD.blk (ZJ.new V 26 #[.bool (decide (n < 0)), .slice Ax1 (Za n.natAbs).length cx1, .bool (decide (d < 0)), .slice Ax2 (Za d.natAbs).length cx2, .bool (decide (m < 0)), .slice Ax3 (Za m.natAbs).length cx3, .bool (decide (f < 0)), .slice Ax4 (Za f.natAbs).length cx4]) rfl)
 rw [<- hb]
 simpa [XG.long] using this

theorem Kh (n d m f : Int) (Ax1 Ax2 Ax3 Ax4 : Option Addr) (cx1 cx2 cx3 cx4 : Nat) (b : Bool) (l1 : (Za n.natAbs).length <= 9223372036854775807) (l2 : (Za d.natAbs).length <= 9223372036854775807) (l3 : (Za m.natAbs).length <= 9223372036854775807) (l4 : (Za f.natAbs).length <= 9223372036854775807) (hb : ((decide (2048 < (Za n.natAbs).length) || decide (2048 < (Za d.natAbs).length)) || (decide (2048 < (Za m.natAbs).length) || decide (2048 < (Za f.natAbs).length))) = b) (V : World) (g : Nat) (hg : V.heap.size = g) :
  Calls Tryz.prog 118 #[.slice (some ⟨g, 0, none⟩) 2 2] (V.alloc (.cells #[.bool (decide (n < 0)), .slice Ax1 (Za n.natAbs).length cx1, .bool (decide (d < 0)), .slice Ax2 (Za d.natAbs).length cx2, .bool (decide (m < 0)), .slice Ax3 (Za m.natAbs).length cx3, .bool (decide (f < 0)), .slice Ax4 (Za f.natAbs).length cx4] 26)) fun e w' => e = .returned (.int .i64 (if b then 4 else 0)) /\ Below (V.alloc (.cells #[.bool (decide (n < 0)), .slice Ax1 (Za n.natAbs).length cx1, .bool (decide (d < 0)), .slice Ax2 (Za d.natAbs).length cx2, .bool (decide (m < 0)), .slice Ax3 (Za m.natAbs).length cx3, .bool (decide (f < 0)), .slice Ax4 (Za f.natAbs).length cx4] 26)).heap.size (V.alloc (.cells #[.bool (decide (n < 0)), .slice Ax1 (Za n.natAbs).length cx1, .bool (decide (d < 0)), .slice Ax2 (Za d.natAbs).length cx2, .bool (decide (m < 0)), .slice Ax3 (Za m.natAbs).length cx3, .bool (decide (f < 0)), .slice Ax4 (Za f.natAbs).length cx4] 26)) w' := by
 have := ref02_AnswerL [⟨decide (n < 0), Ax1, (Za n.natAbs).length, cx1, decide (d < 0), Ax2, (Za d.natAbs).length, cx2⟩, ⟨decide (m < 0), Ax3, (Za m.natAbs).length, cx3, decide (f < 0), Ax4, (Za f.natAbs).length, cx4⟩] (some ⟨g, 0, none⟩) 2 (by simp) (by simp; omega) (V.alloc (.cells #[.bool (decide (n < 0)), .slice Ax1 (Za n.natAbs).length cx1, .bool (decide (d < 0)), .slice Ax2 (Za d.natAbs).length cx2, .bool (decide (m < 0)), .slice Ax3 (Za m.natAbs).length cx3, .bool (decide (f < 0)), .slice Ax4 (Za f.natAbs).length cx4] 26))
  (by subst hg; exact ZD.blk (ZJ.new V 26 #[.bool (decide (n < 0)), .slice Ax1 (Za n.natAbs).length cx1, .bool (decide (d < 0)), .slice Ax2 (Za d.natAbs).length cx2, .bool (decide (m < 0)), .slice Ax3 (Za m.natAbs).length cx3, .bool (decide (f < 0)), .slice Ax4 (Za f.natAbs).length cx4]) rfl) b (by rw [<- hb]; simp [XG.long])
 simpa using this

theorem argand_Answer_true (n d m f : Int) (Ax1 Ax2 Ax3 Ax4 : Option Addr) (cx1 cx2 cx3 cx4 : Nat) (l1 : (Za n.natAbs).length <= 9223372036854775807) (l2 : (Za d.natAbs).length <= 9223372036854775807) (l3 : (Za m.natAbs).length <= 9223372036854775807) (l4 : (Za f.natAbs).length <= 9223372036854775807) (hb : ((decide (2048 < (Za n.natAbs).length) || decide (2048 < (Za d.natAbs).length)) || (decide (2048 < (Za m.natAbs).length) || decide (2048 < (Za f.natAbs).length))) = true) (w : World) (g : Nat) (q : Yl w g 28 (.bool (decide (n < 0))) (.slice Ax1 (Za n.natAbs).length cx1) (.bool (decide (d < 0))) (.slice Ax2 (Za d.natAbs).length cx2) (.bool (decide (m < 0))) (.slice Ax3 (Za m.natAbs).length cx3) (.bool (decide (f < 0))) (.slice Ax4 (Za f.natAbs).length cx4)) :
  Calls Tryz.prog 109 #[.slice (some ⟨g, 0, none⟩) 1 1] w fun e w' => e = .returned (.int .i64 4) /\ Below w.heap.size w w' := by
 have H1 := Hd (fun (V : World) (g' : Nat) (hg : V.heap.size = g') => ratio_Long_two n d m f Ax1 Ax2 Ax3 Ax4 cx1 cx2 cx3 cx4 true l1 l2 l3 l4 hb V g' hg)
 have HQ := Hd q
 clear hb q l1 l2 l3 l4
 go_enter Tryz.func109, Tryz.ntmps109
 go_wp2_with fail
 go_loopw [7] (fun s wr => ∃ i : Nat, s = .int .i64 i /\ i <= 0 /\ Below w.heap.size w wr) (fun s _ => 1 - (intOf s).toNat)
 case atStart => exact ⟨0, rfl, by omega, Below.refl _ _⟩
 case round =>
  obtain ⟨i, rfl, hi, hb⟩ := hrel
  obtain rfl : i = 0 := by omega
  clear hi
  obtain ⟨l_q, q0, q1, q2, q3, q4, q5, q6, q7⟩ := (HQ.out.below hb).facts
  have px := Yl.new wr 28 (.bool (decide (n < 0))) (.slice Ax1 (Za n.natAbs).length cx1) (.bool (decide (d < 0))) (.slice Ax2 (Za d.natAbs).length cx2) (.bool (decide (m < 0))) (.slice Ax3 (Za m.natAbs).length cx3) (.bool (decide (f < 0))) (.slice Ax4 (Za f.natAbs).length cx4)
  have hb2 := hb.alloc hb.size (.cells #[.bool (decide (n < 0)), .slice Ax1 (Za n.natAbs).length cx1, .bool (decide (d < 0)), .slice Ax2 (Za d.natAbs).length cx2, .bool (decide (m < 0)), .slice Ax3 (Za m.natAbs).length cx3, .bool (decide (f < 0)), .slice Ax4 (Za f.natAbs).length cx4] 28)
  go_upto_region 4 with fail
  obtain ⟨y, E⟩ : ∃ W, W = wr.alloc (.cells #[.bool (decide (n < 0)), .slice Ax1 (Za n.natAbs).length cx1, .bool (decide (d < 0)), .slice Ax2 (Za d.natAbs).length cx2, .bool (decide (m < 0)), .slice Ax3 (Za m.natAbs).length cx3, .bool (decide (f < 0)), .slice Ax4 (Za f.natAbs).length cx4] 28) := ⟨_, rfl⟩
  obtain ⟨bq, hq⟩ : ∃ q, q = wr.heap.size := ⟨_, rfl⟩
  rw [<- E] at hb2
  rw [<- E, <- hq] at px ⊢
  have HB := Hd hb2
  clear hb hb2 E hq l_q q0 q1 q2 q3 q4 q5 q6 q7
  obtain ⟨l_x, x0, x1, x2, x3, x4, x5, x6, x7⟩ := px.facts
  clear px
  go_wp2_with fail
  refine (H1.out y _ rfl).mono ?_
  rintro e w1 ⟨rfl, hb1⟩
  have HB1 := Hd (Zb (HB.out.alloc HB.out.size (.cells #[.bool (decide (n < 0)), .slice Ax1 (Za n.natAbs).length cx1, .bool (decide (d < 0)), .slice Ax2 (Za d.natAbs).length cx2, .bool (decide (m < 0)), .slice Ax3 (Za m.natAbs).length cx3, .bool (decide (f < 0)), .slice Ax4 (Za f.natAbs).length cx4] 26)) hb1)
  clear hb1 HB l_x x0 x1 x2 x3 x4 x5 x6 x7
  go_wp2_with fail
  go_ret
  exact ⟨rfl, HB1.out⟩

theorem argand_Answer_false (n d m f : Int) (Ax1 Ax2 Ax3 Ax4 : Option Addr) (cx1 cx2 cx3 cx4 : Nat) (l1 : (Za n.natAbs).length <= 9223372036854775807) (l2 : (Za d.natAbs).length <= 9223372036854775807) (l3 : (Za m.natAbs).length <= 9223372036854775807) (l4 : (Za f.natAbs).length <= 9223372036854775807) (hb : ((decide (2048 < (Za n.natAbs).length) || decide (2048 < (Za d.natAbs).length)) || (decide (2048 < (Za m.natAbs).length) || decide (2048 < (Za f.natAbs).length))) = false) (w : World) (g : Nat) (q : Yl w g 28 (.bool (decide (n < 0))) (.slice Ax1 (Za n.natAbs).length cx1) (.bool (decide (d < 0))) (.slice Ax2 (Za d.natAbs).length cx2) (.bool (decide (m < 0))) (.slice Ax3 (Za m.natAbs).length cx3) (.bool (decide (f < 0))) (.slice Ax4 (Za f.natAbs).length cx4)) :
  Calls Tryz.prog 109 #[.slice (some ⟨g, 0, none⟩) 1 1] w fun e w' => e = .returned (.int .i64 0) /\ Below w.heap.size w w' := by
 have H1 := Hd (fun (V : World) (g' : Nat) (hg : V.heap.size = g') => ratio_Long_two n d m f Ax1 Ax2 Ax3 Ax4 cx1 cx2 cx3 cx4 false l1 l2 l3 l4 hb V g' hg)
 have HQ := Hd q
 clear hb q l1 l2 l3 l4
 go_enter Tryz.func109, Tryz.ntmps109
 go_wp2_with fail
 go_loopw [7] (fun s wr => ∃ i : Nat, s = .int .i64 i /\ i <= 1 /\ Below w.heap.size w wr) (fun s _ => 1 - (intOf s).toNat)
 case atStart => exact ⟨0, rfl, by omega, Below.refl _ _⟩
 case round =>
  obtain ⟨i, rfl, hi, hb⟩ := hrel
  by_cases hlt : i < 1
  . obtain rfl : i = 0 := by omega
    clear hlt
    clear hi
    obtain ⟨l_q, q0, q1, q2, q3, q4, q5, q6, q7⟩ := (HQ.out.below hb).facts
    have px := Yl.new wr 28 (.bool (decide (n < 0))) (.slice Ax1 (Za n.natAbs).length cx1) (.bool (decide (d < 0))) (.slice Ax2 (Za d.natAbs).length cx2) (.bool (decide (m < 0))) (.slice Ax3 (Za m.natAbs).length cx3) (.bool (decide (f < 0))) (.slice Ax4 (Za f.natAbs).length cx4)
    have hb2 := hb.alloc hb.size (.cells #[.bool (decide (n < 0)), .slice Ax1 (Za n.natAbs).length cx1, .bool (decide (d < 0)), .slice Ax2 (Za d.natAbs).length cx2, .bool (decide (m < 0)), .slice Ax3 (Za m.natAbs).length cx3, .bool (decide (f < 0)), .slice Ax4 (Za f.natAbs).length cx4] 28)
    go_upto_region 4 with fail
    obtain ⟨y, E⟩ : ∃ W, W = wr.alloc (.cells #[.bool (decide (n < 0)), .slice Ax1 (Za n.natAbs).length cx1, .bool (decide (d < 0)), .slice Ax2 (Za d.natAbs).length cx2, .bool (decide (m < 0)), .slice Ax3 (Za m.natAbs).length cx3, .bool (decide (f < 0)), .slice Ax4 (Za f.natAbs).length cx4] 28) := ⟨_, rfl⟩
    obtain ⟨bq, hq⟩ : ∃ q, q = wr.heap.size := ⟨_, rfl⟩
    rw [<- E] at hb2
    rw [<- E, <- hq] at px ⊢
    have HB := Hd hb2
    clear hb hb2 E hq l_q q0 q1 q2 q3 q4 q5 q6 q7
    obtain ⟨l_x, x0, x1, x2, x3, x4, x5, x6, x7⟩ := px.facts
    clear px
    go_wp2_with fail
    refine (H1.out y _ rfl).mono ?_
    rintro e w1 ⟨rfl, hb1⟩
    have HB1 := Hd (Zb (HB.out.alloc HB.out.size (.cells #[.bool (decide (n < 0)), .slice Ax1 (Za n.natAbs).length cx1, .bool (decide (d < 0)), .slice Ax2 (Za d.natAbs).length cx2, .bool (decide (m < 0)), .slice Ax3 (Za m.natAbs).length cx3, .bool (decide (f < 0)), .slice Ax4 (Za f.natAbs).length cx4] 26)) hb1)
    clear hb1 HB l_x x0 x1 x2 x3 x4 x5 x6 x7
    go_wp2_with fail
    go_roundw
    case rel => exact ⟨1, by go_num, Nat.le_refl _, HB1.out⟩
    case measure => simp [intOf]
  . obtain rfl : i = 1 := by omega
    have HB := Hd hb
    clear hb hi hlt
    go_wp2_with fail
    go_ret
    exact ⟨rfl, HB.out⟩
end Go.Proofs.YtdonecnhdkjniaaGreatDoor
