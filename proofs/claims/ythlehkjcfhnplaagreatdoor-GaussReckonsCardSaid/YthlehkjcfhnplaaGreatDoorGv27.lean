/- Several texts in one: Reck, GaussC, Parts, PartsLaw, GOfs. -/
import Derived.Test.YthlehkjcfhnplaaGreatDoorGv26
set_option maxRecDepth 100000
set_option maxHeartbeats 8000000
namespace Go.Proofs.YthlehkjcfhnplaaGreatDoor
open Go.RowKit

theorem ansG_of {n d m f : Int} (b : Bool) (h : ((decide (2048 < (Za n.natAbs).length) || decide (2048 < (Za d.natAbs).length)) || (decide (2048 < (Za m.natAbs).length) || decide (2048 < (Za f.natAbs).length))) = b) : AnsG 204 n d m f (if b then 4 else 0) := by
 intro V g v A1 A2 A3 A4 c1 c2 c3 c4 hg _ l1 l2 l3 l4
 rw [show V.heap.size + 1 = (V.alloc (.cells #[.bool (decide (n < 0)), .slice A1 (Za n.natAbs).length c1, .bool (decide (d < 0)), .slice A2 (Za d.natAbs).length c2, .bool (decide (m < 0)), .slice A3 (Za m.natAbs).length c3, .bool (decide (f < 0)), .slice A4 (Za f.natAbs).length c4] 28)).heap.size by simp]
 cases b with
 | true => exact argand_Answer_true n d m f A1 A2 A3 A4 c1 c2 c3 c4 l1 l2 l3 l4 h _ g (by subst hg; exact ZF.new _ _ _ _ _ _ _ _ _ _)
 | false => exact argand_Answer_false n d m f A1 A2 A3 A4 c1 c2 c3 c4 l1 l2 l3 l4 h _ g (by subst hg; exact ZF.new _ _ _ _ _ _ _ _ _ _)
theorem YA {n d m f : Int} (f1 : XN n d) (f2 : XN m f) : (YV (decide (n < 0)) (decide (d < 0)) (Za n.natAbs) (Za d.natAbs) == 0 && YV (decide (m < 0)) (decide (f < 0)) (Za m.natAbs) (Za f.natAbs) == 0) = true := by
 rw [f1.chk, f2.chk]; rfl
theorem may_cases {n1 n2 n3 n4 : Bool} {xs ys us vs : List Nat} (h1 : Zm xs) (h2 : Zm ys) (h3 : Zm us) (h4 : Zm vs) :
  (YV n1 n2 xs ys == 0 && YV n3 n4 us vs == 0) = false ∨ ∃ n d m f, XN n d /\ XN m f /\ n1 = decide (n < 0) /\ n2 = decide (d < 0) /\ xs = Za n.natAbs /\ ys = Za d.natAbs /\ n3 = decide (m < 0) /\ n4 = decide (f < 0) /\ us = Za m.natAbs /\ vs = Za f.natAbs := by
 cases hc : (YV n1 n2 xs ys == 0 && YV n3 n4 us vs == 0) with
 | false => exact .inl rfl
 | true =>
  rw [Bool.and_eq_true] at hc
  obtain ⟨n, d, f1, a1, a2, a3, a4⟩ := fine_of h1 h2 (by simpa using hc.1)
  obtain ⟨m, f, f2, b1, b2, b3, b4⟩ := fine_of h3 h4 (by simpa using hc.2)
  exact .inr ⟨n, d, m, f, f1, f2, a1, a2, a3, a4, b1, b2, b3, b4⟩
theorem ans_g (n d m f : Int) : ∃ N D M E k, (lz N <= 2048 /\ lz D <= 2048 /\ lz M <= 2048 /\ lz E <= 2048) /\ Jf n d m f N D M E k /\ AnsIG n d m f N D M E k := by
 by_cases hl : (lz n <= 2048 /\ lz d <= 2048) /\ lz m <= 2048 /\ lz f <= 2048
 . have hb : ((decide (2048 < (Za n.natAbs).length) || decide (2048 < (Za d.natAbs).length)) || (decide (2048 < (Za m.natAbs).length) || decide (2048 < (Za f.natAbs).length))) = false := by
     unfold lz at hl
     rw [decide_eq_false (by omega), decide_eq_false (by omega), decide_eq_false (by omega), decide_eq_false (by omega)]
     rfl
   refine ⟨n, d, m, f, 0, ⟨hl.1.1, hl.1.2, hl.2.1, hl.2.2⟩, fun V base v hbase ho => ?_, fun V v ho => ?_⟩
   . exact answered_fits (ansG_of false hb) V v ho.in_.at_ hbase ho
   . exact ref03_Answer_fits hb V v ho.at_ ho
 . have hb : ((decide (2048 < (Za n.natAbs).length) || decide (2048 < (Za d.natAbs).length)) || (decide (2048 < (Za m.natAbs).length) || decide (2048 < (Za f.natAbs).length))) = true := by
     unfold lz at hl
     simp only [Bool.or_eq_true, decide_eq_true_eq]
     omega
   refine ⟨0, 0, 0, 0, 4, by decide +kernel, fun V base v hbase ho => ?_, fun V v ho => ?_⟩
   . exact answered_long (ansG_of true hb) V v ho.in_.at_ hbase ho
   . exact ref03_Answer_long hb V v ho.at_ ho

theorem reckoned_1 {n1 n2 n3 n4 : Bool} {xs ys us vs : List Nat} {m1 m2 m3 m4 : Bool} {ps qs rs ts : List Nat} {N D M E k : Int} (C1 : OpGR2 106 n1 n2 n3 n4 xs ys us vs m1 m2 m3 m4 ps qs rs ts N D M E k) (w : World) (v_x v_y : Value) (g_x : Zn w v_x n1 n2 n3 n4 xs ys us vs) (g_y : Zn w v_y m1 m2 m3 m4 ps qs rs ts)  :
  Calls Tryz.prog 22 #[.int .i64 1, v_x, v_y] w (ZC w.heap.size w N D M E k) := by
 obtain ⟨Ax1, cx1, Ax2, cx2, Ax3, cx3, Ax4, cx4, rfl, -⟩ := g_x.form
 obtain ⟨Ay1, cy1, Ay2, cy2, Ay3, cy3, Ay4, cy4, rfl, -⟩ := g_y.form
 have H1 := Hd C1
 clear C1
 have G_x := Hd g_x
 have G_y := Hd g_y
 clear g_x g_y
 go_enter Tryz.func22, Tryz.ntmps22
 go_upto_region 1 with fail
 refine Z0 (P := fun W => Code.wp _ _ _ _ W) fun W p0 p1 p2 b0 => ?_
 have P_x := Hd (ZF.mk p0)
 have P_y := Hd (ZF.mk p1)
 have PR := Hd (ZF.mk p2)
 have HB := Hd b0
 clear b0 p0 p1 p2
 obtain ⟨-, x0, x1, x2, x3, x4, x5, x6, x7⟩ := P_x.out.facts
 obtain ⟨-, y0, y1, y2, y3, y4, y5, y6, y7⟩ := P_y.out.facts
 go_wp2_with fail
 refine (H1.out W _ _ (G_x.out.below HB.out) (G_y.out.below HB.out)).mono ?_
 rintro e w9 ⟨v, rfl, hI, hb⟩
 clear x0 x1 x2 x3 x4 x5 x6 x7 y0 y1 y2 y3 y4 y5 y6 y7
 obtain ⟨A6, c6, A7, c7, A8, c8, A9, c9, rfl, -⟩ := hI.form
 have pr := PR.out.below hb
 have hb9 := Zb HB.out hb
 obtain ⟨l_r, r0, r1, r2, r3, r4, r5, r6, r7⟩ := pr.facts
 obtain ⟨f0, f1, f2, f3, f4, f5, f6, f7⟩ := pr.free
 have H9 := Hd (Y0 hI pr hb9 (show w.heap.size <= w.heap.size + 1 + 1 by omega) (by decide))
 clear hb hb9 pr hI
 go_wp2_with fail
 obtain ⟨_, k0, k1, k2, k3, k4, k5, k6, k7⟩ := H9.out.1.facts
 exact bodyPost_ret (by simp [results, Tryz.results22, go_sem, k0, k1, k2, k3, k4, k5, k6, k7]) rfl ⟨_, rfl, H9.out.2.2.base HB.out.size, H9.out.2.1⟩

theorem reckoned_2 {n1 n2 n3 n4 : Bool} {xs ys us vs : List Nat} {m1 m2 m3 m4 : Bool} {ps qs rs ts : List Nat} {N D M E k : Int} (C1 : OpGR2 28 n1 n2 n3 n4 xs ys us vs m1 m2 m3 m4 ps qs rs ts N D M E k) (w : World) (v_x v_y : Value) (g_x : Zn w v_x n1 n2 n3 n4 xs ys us vs) (g_y : Zn w v_y m1 m2 m3 m4 ps qs rs ts)  :
  Calls Tryz.prog 22 #[.int .i64 2, v_x, v_y] w (ZC w.heap.size w N D M E k) := by
 obtain ⟨Ax1, cx1, Ax2, cx2, Ax3, cx3, Ax4, cx4, rfl, -⟩ := g_x.form
 obtain ⟨Ay1, cy1, Ay2, cy2, Ay3, cy3, Ay4, cy4, rfl, -⟩ := g_y.form
 have H1 := Hd C1
 clear C1
 have G_x := Hd g_x
 have G_y := Hd g_y
 clear g_x g_y
 go_enter Tryz.func22, Tryz.ntmps22
 go_upto_region 1 with fail
 refine Z0 (P := fun W => Code.wp _ _ _ _ W) fun W p0 p1 p2 b0 => ?_
 have P_x := Hd (ZF.mk p0)
 have P_y := Hd (ZF.mk p1)
 have PR := Hd (ZF.mk p2)
 have HB := Hd b0
 clear b0 p0 p1 p2
 obtain ⟨-, x0, x1, x2, x3, x4, x5, x6, x7⟩ := P_x.out.facts
 obtain ⟨-, y0, y1, y2, y3, y4, y5, y6, y7⟩ := P_y.out.facts
 go_wp2_with fail
 refine (H1.out W _ _ (G_x.out.below HB.out) (G_y.out.below HB.out)).mono ?_
 rintro e w9 ⟨v, rfl, hI, hb⟩
 clear x0 x1 x2 x3 x4 x5 x6 x7 y0 y1 y2 y3 y4 y5 y6 y7
 obtain ⟨A6, c6, A7, c7, A8, c8, A9, c9, rfl, -⟩ := hI.form
 have pr := PR.out.below hb
 have hb9 := Zb HB.out hb
 obtain ⟨l_r, r0, r1, r2, r3, r4, r5, r6, r7⟩ := pr.facts
 obtain ⟨f0, f1, f2, f3, f4, f5, f6, f7⟩ := pr.free
 have H9 := Hd (Y0 hI pr hb9 (show w.heap.size <= w.heap.size + 1 + 1 by omega) (by decide))
 clear hb hb9 pr hI
 go_wp2_with fail
 obtain ⟨_, k0, k1, k2, k3, k4, k5, k6, k7⟩ := H9.out.1.facts
 exact bodyPost_ret (by simp [results, Tryz.results22, go_sem, k0, k1, k2, k3, k4, k5, k6, k7]) rfl ⟨_, rfl, H9.out.2.2.base HB.out.size, H9.out.2.1⟩

theorem reckoned_3 {n1 n2 n3 n4 : Bool} {xs ys us vs : List Nat} {m1 m2 m3 m4 : Bool} {ps qs rs ts : List Nat} {N D M E k : Int} (C1 : OpGR2 104 n1 n2 n3 n4 xs ys us vs m1 m2 m3 m4 ps qs rs ts N D M E k) (w : World) (v_x v_y : Value) (g_x : Zn w v_x n1 n2 n3 n4 xs ys us vs) (g_y : Zn w v_y m1 m2 m3 m4 ps qs rs ts)  :
  Calls Tryz.prog 22 #[.int .i64 3, v_x, v_y] w (ZC w.heap.size w N D M E k) := by
 obtain ⟨Ax1, cx1, Ax2, cx2, Ax3, cx3, Ax4, cx4, rfl, -⟩ := g_x.form
 obtain ⟨Ay1, cy1, Ay2, cy2, Ay3, cy3, Ay4, cy4, rfl, -⟩ := g_y.form
 have H1 := Hd C1
 clear C1
 have G_x := Hd g_x
 have G_y := Hd g_y
 clear g_x g_y
 go_enter Tryz.func22, Tryz.ntmps22
 go_upto_region 1 with fail
 refine Z0 (P := fun W => Code.wp _ _ _ _ W) fun W p0 p1 p2 b0 => ?_
 have P_x := Hd (ZF.mk p0)
 have P_y := Hd (ZF.mk p1)
 have PR := Hd (ZF.mk p2)
 have HB := Hd b0
 clear b0 p0 p1 p2
 obtain ⟨-, x0, x1, x2, x3, x4, x5, x6, x7⟩ := P_x.out.facts
 obtain ⟨-, y0, y1, y2, y3, y4, y5, y6, y7⟩ := P_y.out.facts
 go_wp2_with fail
 refine (H1.out W _ _ (G_x.out.below HB.out) (G_y.out.below HB.out)).mono ?_
 rintro e w9 ⟨v, rfl, hI, hb⟩
 clear x0 x1 x2 x3 x4 x5 x6 x7 y0 y1 y2 y3 y4 y5 y6 y7
 obtain ⟨A6, c6, A7, c7, A8, c8, A9, c9, rfl, -⟩ := hI.form
 have pr := PR.out.below hb
 have hb9 := Zb HB.out hb
 obtain ⟨l_r, r0, r1, r2, r3, r4, r5, r6, r7⟩ := pr.facts
 obtain ⟨f0, f1, f2, f3, f4, f5, f6, f7⟩ := pr.free
 have H9 := Hd (Y0 hI pr hb9 (show w.heap.size <= w.heap.size + 1 + 1 by omega) (by decide))
 clear hb hb9 pr hI
 go_wp2_with fail
 obtain ⟨_, k0, k1, k2, k3, k4, k5, k6, k7⟩ := H9.out.1.facts
 exact bodyPost_ret (by simp [results, Tryz.results22, go_sem, k0, k1, k2, k3, k4, k5, k6, k7]) rfl ⟨_, rfl, H9.out.2.2.base HB.out.size, H9.out.2.1⟩

theorem reckoned_4 {n1 n2 n3 n4 : Bool} {xs ys us vs : List Nat} {m1 m2 m3 m4 : Bool} {ps qs rs ts : List Nat} {N D M E k : Int} (C1 : OpGR2 29 n1 n2 n3 n4 xs ys us vs m1 m2 m3 m4 ps qs rs ts N D M E k) (w : World) (v_x v_y : Value) (g_x : Zn w v_x n1 n2 n3 n4 xs ys us vs) (g_y : Zn w v_y m1 m2 m3 m4 ps qs rs ts)  :
  Calls Tryz.prog 22 #[.int .i64 4, v_x, v_y] w (ZC w.heap.size w N D M E k) := by
 obtain ⟨Ax1, cx1, Ax2, cx2, Ax3, cx3, Ax4, cx4, rfl, -⟩ := g_x.form
 obtain ⟨Ay1, cy1, Ay2, cy2, Ay3, cy3, Ay4, cy4, rfl, -⟩ := g_y.form
 have H1 := Hd C1
 clear C1
 have G_x := Hd g_x
 have G_y := Hd g_y
 clear g_x g_y
 go_enter Tryz.func22, Tryz.ntmps22
 go_upto_region 1 with fail
 refine Z0 (P := fun W => Code.wp _ _ _ _ W) fun W p0 p1 p2 b0 => ?_
 have P_x := Hd (ZF.mk p0)
 have P_y := Hd (ZF.mk p1)
 have PR := Hd (ZF.mk p2)
 have HB := Hd b0
 clear b0 p0 p1 p2
 obtain ⟨-, x0, x1, x2, x3, x4, x5, x6, x7⟩ := P_x.out.facts
 obtain ⟨-, y0, y1, y2, y3, y4, y5, y6, y7⟩ := P_y.out.facts
 go_wp2_with fail
 refine (H1.out W _ _ (G_x.out.below HB.out) (G_y.out.below HB.out)).mono ?_
 rintro e w9 ⟨v, rfl, hI, hb⟩
 clear x0 x1 x2 x3 x4 x5 x6 x7 y0 y1 y2 y3 y4 y5 y6 y7
 obtain ⟨A6, c6, A7, c7, A8, c8, A9, c9, rfl, -⟩ := hI.form
 have pr := PR.out.below hb
 have hb9 := Zb HB.out hb
 obtain ⟨l_r, r0, r1, r2, r3, r4, r5, r6, r7⟩ := pr.facts
 obtain ⟨f0, f1, f2, f3, f4, f5, f6, f7⟩ := pr.free
 have H9 := Hd (Y0 hI pr hb9 (show w.heap.size <= w.heap.size + 1 + 1 by omega) (by decide))
 clear hb hb9 pr hI
 go_wp2_with fail
 obtain ⟨_, k0, k1, k2, k3, k4, k5, k6, k7⟩ := H9.out.1.facts
 exact bodyPost_ret (by simp [results, Tryz.results22, go_sem, k0, k1, k2, k3, k4, k5, k6, k7]) rfl ⟨_, rfl, H9.out.2.2.base HB.out.size, H9.out.2.1⟩

theorem reck_1 {n d m f p q r s : Int} (f1 : XN n d) (f2 : XN m f) (f3 : XN p q) (f4 : XN r s) : ∃ N D M E k, (lz N <= 2048 /\ lz D <= 2048 /\ lz M <= 2048 /\ lz E <= 2048) /\ OpGR2 106 (decide (n < 0)) (decide (d < 0)) (decide (m < 0)) (decide (f < 0)) (Za n.natAbs) (Za d.natAbs) (Za m.natAbs) (Za f.natAbs) (decide (p < 0)) (decide (q < 0)) (decide (r < 0)) (decide (s < 0)) (Za p.natAbs) (Za q.natAbs) (Za r.natAbs) (Za s.natAbs) N D M E k /\
   (∀ (V : World) (v1 v2 : Value), Zh V v1 n d m f -> Zh V v2 p q r s -> Calls Tryz.prog 23 #[.int .i64 1, v1, v2] V (Z5 V N D M E k)) := by
 obtain ⟨i1, z1⟩ := f1.is_
 obtain ⟨i2, z2⟩ := f2.is_
 obtain ⟨i3, z3⟩ := f3.is_
 obtain ⟨i4, z4⟩ := f4.is_
 generalize Rat.divInt n d = a at i1 z1
 generalize Rat.divInt m f = b at i2 z2
 generalize Rat.divInt p q = c at i3 z3
 generalize Rat.divInt r s = e at i4 z4
 have h1 := Is.of (a + c)
 have h2 := Is.of (b + e)
 obtain ⟨N, D, M, E, k, hz, h3, h4⟩ := ans_g (a + c).num (a + c).den (b + e).num (b + e).den
 have up : ∀ {q : Rat} {l : Nat}, Sz q 2048 -> 2048 <= l -> Sz q l := fun h k => h.mono k
 refine ⟨N, D, M, E, k, hz, fun V v1 v2 g1 g2 => ?_, fun V v1 v2 g1 g2 => ?_⟩
 . have C : BothC (.func (.func 192) #[] #[]) (decide (n < 0)) (decide (d < 0)) (decide (m < 0)) (decide (f < 0)) (Za n.natAbs) (Za d.natAbs) (Za m.natAbs) (Za f.natAbs) (decide (p < 0)) (decide (q < 0)) (decide (r < 0)) (decide (s < 0)) (Za p.natAbs) (Za q.natAbs) (Za r.natAbs) (Za s.natAbs) N D M E k := fun V v1 v2 g1 g2 => by
    exact both_Plus (by have h := Xx (decide (n < 0)) (decide (d < 0)) (decide (m < 0)) (decide (f < 0)) (Za n.natAbs) (Za d.natAbs) (Za m.natAbs) (Za f.natAbs); rw [YA f1 f2] at h; exact h) (by have h := Xx (decide (p < 0)) (decide (q < 0)) (decide (r < 0)) (decide (s < 0)) (Za p.natAbs) (Za q.natAbs) (Za r.natAbs) (Za s.natAbs); rw [YA f3 f4] at h; exact h) (plus_g i1 i2 i3 i4 (up z1 (by omega)) (up z2 (by omega)) (up z3 (by omega)) (up z4 (by omega)) h1 h2) h3 V v1 v2 ⟨g1.form⟩ ⟨g2.form⟩
   exact gauss_Add C V v1 v2 g1 g2
 . exact ref03_Reckoned_Plus (by have h := YY (decide (n < 0)) (decide (d < 0)) (decide (m < 0)) (decide (f < 0)) (Za n.natAbs) (Za d.natAbs) (Za m.natAbs) (Za f.natAbs); rw [YA f1 f2] at h; exact h) (by have h := YY (decide (p < 0)) (decide (q < 0)) (decide (r < 0)) (decide (s < 0)) (Za p.natAbs) (Za q.natAbs) (Za r.natAbs) (Za s.natAbs); rw [YA f3 f4] at h; exact h) (plus_gi i1 i2 i3 i4 (up z1 (by omega)) (up z2 (by omega)) (up z3 (by omega)) (up z4 (by omega)) h1 h2) h4 V v1 v2 g1 g2

theorem reck_2 {n d m f p q r s : Int} (f1 : XN n d) (f2 : XN m f) (f3 : XN p q) (f4 : XN r s) : ∃ N D M E k, (lz N <= 2048 /\ lz D <= 2048 /\ lz M <= 2048 /\ lz E <= 2048) /\ OpGR2 28 (decide (n < 0)) (decide (d < 0)) (decide (m < 0)) (decide (f < 0)) (Za n.natAbs) (Za d.natAbs) (Za m.natAbs) (Za f.natAbs) (decide (p < 0)) (decide (q < 0)) (decide (r < 0)) (decide (s < 0)) (Za p.natAbs) (Za q.natAbs) (Za r.natAbs) (Za s.natAbs) N D M E k /\
   (∀ (V : World) (v1 v2 : Value), Zh V v1 n d m f -> Zh V v2 p q r s -> Calls Tryz.prog 23 #[.int .i64 2, v1, v2] V (Z5 V N D M E k)) := by
 obtain ⟨i1, z1⟩ := f1.is_
 obtain ⟨i2, z2⟩ := f2.is_
 obtain ⟨i3, z3⟩ := f3.is_
 obtain ⟨i4, z4⟩ := f4.is_
 generalize Rat.divInt n d = a at i1 z1
 generalize Rat.divInt m f = b at i2 z2
 generalize Rat.divInt p q = c at i3 z3
 generalize Rat.divInt r s = e at i4 z4
 have h1 := Is.of (a - c)
 have h2 := Is.of (b - e)
 obtain ⟨N, D, M, E, k, hz, h3, h4⟩ := ans_g (a - c).num (a - c).den (b - e).num (b - e).den
 have up : ∀ {q : Rat} {l : Nat}, Sz q 2048 -> 2048 <= l -> Sz q l := fun h k => h.mono k
 refine ⟨N, D, M, E, k, hz, fun V v1 v2 g1 g2 => ?_, fun V v1 v2 g1 g2 => ?_⟩
 . have C : BothC (.func (.func 115) #[] #[]) (decide (n < 0)) (decide (d < 0)) (decide (m < 0)) (decide (f < 0)) (Za n.natAbs) (Za d.natAbs) (Za m.natAbs) (Za f.natAbs) (decide (p < 0)) (decide (q < 0)) (decide (r < 0)) (decide (s < 0)) (Za p.natAbs) (Za q.natAbs) (Za r.natAbs) (Za s.natAbs) N D M E k := fun V v1 v2 g1 g2 => by
    exact both_Minus (by have h := Xx (decide (n < 0)) (decide (d < 0)) (decide (m < 0)) (decide (f < 0)) (Za n.natAbs) (Za d.natAbs) (Za m.natAbs) (Za f.natAbs); rw [YA f1 f2] at h; exact h) (by have h := Xx (decide (p < 0)) (decide (q < 0)) (decide (r < 0)) (decide (s < 0)) (Za p.natAbs) (Za q.natAbs) (Za r.natAbs) (Za s.natAbs); rw [YA f3 f4] at h; exact h) (minus_g i1 i2 i3 i4 (up z1 (by omega)) (up z2 (by omega)) (up z3 (by omega)) (up z4 (by omega)) h1 h2) h3 V v1 v2 ⟨g1.form⟩ ⟨g2.form⟩
   exact gauss_Sub C V v1 v2 g1 g2
 . exact ref03_Reckoned_Minus (by have h := YY (decide (n < 0)) (decide (d < 0)) (decide (m < 0)) (decide (f < 0)) (Za n.natAbs) (Za d.natAbs) (Za m.natAbs) (Za f.natAbs); rw [YA f1 f2] at h; exact h) (by have h := YY (decide (p < 0)) (decide (q < 0)) (decide (r < 0)) (decide (s < 0)) (Za p.natAbs) (Za q.natAbs) (Za r.natAbs) (Za s.natAbs); rw [YA f3 f4] at h; exact h) (minus_gi i1 i2 i3 i4 (up z1 (by omega)) (up z2 (by omega)) (up z3 (by omega)) (up z4 (by omega)) h1 h2) h4 V v1 v2 g1 g2

theorem reck_3 {n d m f p q r s : Int} (f1 : XN n d) (f2 : XN m f) (f3 : XN p q) (f4 : XN r s) : ∃ N D M E k, (lz N <= 2048 /\ lz D <= 2048 /\ lz M <= 2048 /\ lz E <= 2048) /\ OpGR2 104 (decide (n < 0)) (decide (d < 0)) (decide (m < 0)) (decide (f < 0)) (Za n.natAbs) (Za d.natAbs) (Za m.natAbs) (Za f.natAbs) (decide (p < 0)) (decide (q < 0)) (decide (r < 0)) (decide (s < 0)) (Za p.natAbs) (Za q.natAbs) (Za r.natAbs) (Za s.natAbs) N D M E k /\
   (∀ (V : World) (v1 v2 : Value), Zh V v1 n d m f -> Zh V v2 p q r s -> Calls Tryz.prog 23 #[.int .i64 3, v1, v2] V (Z5 V N D M E k)) := by
 obtain ⟨i1, z1⟩ := f1.is_
 obtain ⟨i2, z2⟩ := f2.is_
 obtain ⟨i3, z3⟩ := f3.is_
 obtain ⟨i4, z4⟩ := f4.is_
 generalize Rat.divInt n d = a at i1 z1
 generalize Rat.divInt m f = b at i2 z2
 generalize Rat.divInt p q = c at i3 z3
 generalize Rat.divInt r s = e at i4 z4
 have h1 := Is.of (a * c - b * e)
 have h2 := Is.of (a * e + b * c)
 obtain ⟨N, D, M, E, k, hz, h3, h4⟩ := ans_g (a * c - b * e).num (a * c - b * e).den (a * e + b * c).num (a * e + b * c).den
 have up : ∀ {q : Rat} {l : Nat}, Sz q 2048 -> 2048 <= l -> Sz q l := fun h k => h.mono k
 refine ⟨N, D, M, E, k, hz, fun V v1 v2 g1 g2 => ?_, fun V v1 v2 g1 g2 => ?_⟩
 . have C : BothC (.func (.func 191) #[] #[]) (decide (n < 0)) (decide (d < 0)) (decide (m < 0)) (decide (f < 0)) (Za n.natAbs) (Za d.natAbs) (Za m.natAbs) (Za f.natAbs) (decide (p < 0)) (decide (q < 0)) (decide (r < 0)) (decide (s < 0)) (Za p.natAbs) (Za q.natAbs) (Za r.natAbs) (Za s.natAbs) N D M E k := fun V v1 v2 g1 g2 => by
    exact both_Times (by have h := Xx (decide (n < 0)) (decide (d < 0)) (decide (m < 0)) (decide (f < 0)) (Za n.natAbs) (Za d.natAbs) (Za m.natAbs) (Za f.natAbs); rw [YA f1 f2] at h; exact h) (by have h := Xx (decide (p < 0)) (decide (q < 0)) (decide (r < 0)) (decide (s < 0)) (Za p.natAbs) (Za q.natAbs) (Za r.natAbs) (Za s.natAbs); rw [YA f3 f4] at h; exact h) (times_g i1 i2 i3 i4 (up z1 (by omega)) (up z2 (by omega)) (up z3 (by omega)) (up z4 (by omega)) h1 h2) h3 V v1 v2 ⟨g1.form⟩ ⟨g2.form⟩
   exact gauss_Mul C V v1 v2 g1 g2
 . exact ref03_Reckoned_Times (by have h := YY (decide (n < 0)) (decide (d < 0)) (decide (m < 0)) (decide (f < 0)) (Za n.natAbs) (Za d.natAbs) (Za m.natAbs) (Za f.natAbs); rw [YA f1 f2] at h; exact h) (by have h := YY (decide (p < 0)) (decide (q < 0)) (decide (r < 0)) (decide (s < 0)) (Za p.natAbs) (Za q.natAbs) (Za r.natAbs) (Za s.natAbs); rw [YA f3 f4] at h; exact h) (times_gi i1 i2 i3 i4 (up z1 (by omega)) (up z2 (by omega)) (up z3 (by omega)) (up z4 (by omega)) h1 h2) h4 V v1 v2 g1 g2
theorem nought_g {p q r s : Int} {c e : Rat} (i3 : Is c p q) (i4 : Is e r s) (b : Bool) (hb : decide (p = 0 /\ r = 0) = b) : NoughtG 116 p q r s b := by
 intro V v g1
 by_cases h1 : p = 0
 . by_cases h2 : r = 0
   . rw [decide_eq_true ⟨h1, h2⟩] at hb
     subst hb
     exact argand_Nought_yes (sgn_r i3) (YM p true (decide_eq_true h1)) (sgn_r i4) (YM r true (decide_eq_true h2)) V v g1
   . rw [decide_eq_false (fun h => h2 h.2)] at hb
     subst hb
     exact argand_Nought_im (sgn_r i3) (YM p true (decide_eq_true h1)) (sgn_r i4) (YM r false (decide_eq_false h2)) V v g1
 . rw [decide_eq_false (fun h => h1 h.1)] at hb
   subst hb
   exact argand_Nought_re (sgn_r i3) (YM p false (decide_eq_false h1)) V v g1
theorem sgn_i {a : Rat} {n d : Int} (_ha : Is a n d) : SgnF 196 n d n.sign := by
 intro V v1 g1
 obtain ⟨A, c, B, e0, rfl, a1, -⟩ := g1.form
 exact ref02_Sign n n.sign d A B c e0 V a1 rfl
theorem nought_gi {p q r s : Int} {c e : Rat} (i3 : Is c p q) (i4 : Is e r s) (b : Bool) (hb : decide (p = 0 /\ r = 0) = b) : NoughtG 111 p q r s b := by
 intro V v g1
 by_cases h1 : p = 0
 . by_cases h2 : r = 0
   . rw [decide_eq_true ⟨h1, h2⟩] at hb
     subst hb
     exact ref03_Nought_yes (sgn_i i3) (YM p true (decide_eq_true h1)) (sgn_i i4) (YM r true (decide_eq_true h2)) V v g1
   . rw [decide_eq_false (fun h => h2 h.2)] at hb
     subst hb
     exact ref03_Nought_im (sgn_i i3) (YM p true (decide_eq_true h1)) (sgn_i i4) (YM r false (decide_eq_false h2)) V v g1
 . rw [decide_eq_false (fun h => h1 h.1)] at hb
   subst hb
   exact ref03_Nought_re (sgn_i i3) (YM p false (decide_eq_false h1)) V v g1
theorem reck_4 {n d m f p q r s : Int} (f1 : XN n d) (f2 : XN m f) (f3 : XN p q) (f4 : XN r s) : ∃ N D M E k, (lz N <= 2048 /\ lz D <= 2048 /\ lz M <= 2048 /\ lz E <= 2048) /\ OpGR2 29 (decide (n < 0)) (decide (d < 0)) (decide (m < 0)) (decide (f < 0)) (Za n.natAbs) (Za d.natAbs) (Za m.natAbs) (Za f.natAbs) (decide (p < 0)) (decide (q < 0)) (decide (r < 0)) (decide (s < 0)) (Za p.natAbs) (Za q.natAbs) (Za r.natAbs) (Za s.natAbs) N D M E k /\
   (∀ (V : World) (v1 v2 : Value), Zh V v1 n d m f -> Zh V v2 p q r s -> Calls Tryz.prog 23 #[.int .i64 4, v1, v2] V (Z5 V N D M E k)) := by
 obtain ⟨i1, z1⟩ := f1.is_
 obtain ⟨i2, z2⟩ := f2.is_
 obtain ⟨i3, z3⟩ := f3.is_
 obtain ⟨i4, z4⟩ := f4.is_
 generalize Rat.divInt n d = a at i1 z1
 generalize Rat.divInt m f = b at i2 z2
 generalize Rat.divInt p q = c at i3 z3
 generalize Rat.divInt r s = e at i4 z4
 have up : ∀ {q : Rat} {l : Nat}, Sz q 2048 -> 2048 <= l -> Sz q l := fun h k => h.mono k
 have mx := Xx (decide (n < 0)) (decide (d < 0)) (decide (m < 0)) (decide (f < 0)) (Za n.natAbs) (Za d.natAbs) (Za m.natAbs) (Za f.natAbs)
 rw [YA f1 f2] at mx
 have my := Xx (decide (p < 0)) (decide (q < 0)) (decide (r < 0)) (decide (s < 0)) (Za p.natAbs) (Za q.natAbs) (Za r.natAbs) (Za s.natAbs)
 rw [YA f3 f4] at my
 have rx := YY (decide (n < 0)) (decide (d < 0)) (decide (m < 0)) (decide (f < 0)) (Za n.natAbs) (Za d.natAbs) (Za m.natAbs) (Za f.natAbs)
 rw [YA f1 f2] at rx
 have ry := YY (decide (p < 0)) (decide (q < 0)) (decide (r < 0)) (decide (s < 0)) (Za p.natAbs) (Za q.natAbs) (Za r.natAbs) (Za s.natAbs)
 rw [YA f3 f4] at ry
 by_cases h0 : p = 0 /\ r = 0
 . refine ⟨0, 0, 0, 0, 3, by decide +kernel, fun V v1 v2 g1 g2 => ?_, fun V v1 v2 g1 g2 => ?_⟩
   . exact JL mx my (nought_g i3 i4 true (decide_eq_true h0)) V v1 v2 ⟨g1.form⟩ ⟨g2.form⟩
   . exact ref03_Reckoned_zero rx ry (nought_gi i3 i4 true (decide_eq_true h0)) V v1 v2 g1 g2
 . have hce : ¬ (c = 0 /\ e = 0) := fun h => h0 ⟨i3.nought.2 h.1, i4.nought.2 h.2⟩
   have h1 := Is.of ((a * c + b * e) / (c * c + e * e))
   have h2 := Is.of ((b * c - a * e) / (c * c + e * e))
   obtain ⟨N, D, M, E, k, hz, h3, h4⟩ := ans_g ((a * c + b * e) / (c * c + e * e)).num ((a * c + b * e) / (c * c + e * e)).den ((b * c - a * e) / (c * c + e * e)).num ((b * c - a * e) / (c * c + e * e)).den
   refine ⟨N, D, M, E, k, hz, fun V v1 v2 g1 g2 => ?_, fun V v1 v2 g1 g2 => ?_⟩
   . have C : BothC (.func (.func 117) #[] #[]) (decide (n < 0)) (decide (d < 0)) (decide (m < 0)) (decide (f < 0)) (Za n.natAbs) (Za d.natAbs) (Za m.natAbs) (Za f.natAbs) (decide (p < 0)) (decide (q < 0)) (decide (r < 0)) (decide (s < 0)) (Za p.natAbs) (Za q.natAbs) (Za r.natAbs) (Za s.natAbs) N D M E k := fun V v1 v2 g1 g2 => by
      exact both_Over mx my (over_g i1 i2 i3 i4 (up z1 (by omega)) (up z2 (by omega)) (up z3 (by omega)) (up z4 (by omega)) hce h1 h2) h3 V v1 v2 ⟨g1.form⟩ ⟨g2.form⟩
     exact gauss_Quo_ok mx my (nought_g i3 i4 false (decide_eq_false h0)) C V v1 v2 ⟨g1.form⟩ ⟨g2.form⟩
   . exact ref03_Reckoned_Over rx ry (nought_gi i3 i4 false (decide_eq_false h0)) (over_gi i1 i2 i3 i4 z1 z2 z3 z4 hce h1 h2) h4 V v1 v2 g1 g2
theorem reck_spec (i : Nat) (hi : 1 <= i /\ i <= 4) (n1 n2 n3 n4 : Bool) (xs ys us vs : List Nat) (m1 m2 m3 m4 : Bool) (ps qs rs ts : List Nat) (hx1 : Zm xs) (hx2 : Zm ys) (hx3 : Zm us) (hx4 : Zm vs) (hy1 : Zm ps) (hy2 : Zm qs) (hy3 : Zm rs) (hy4 : Zm ts) : ∃ N D M E k, (lz N <= 2048 /\ lz D <= 2048 /\ lz M <= 2048 /\ lz E <= 2048) /\
   (∀ (V : World) (v1 v2 : Value), Zn V v1 n1 n2 n3 n4 xs ys us vs -> Zn V v2 m1 m2 m3 m4 ps qs rs ts -> Calls Tryz.prog 22 #[.int .i64 i, v1, v2] V (ZC V.heap.size V N D M E k)) /\
   (∀ (V : World) (v1 v2 : Value), Zn V v1 n1 n2 n3 n4 xs ys us vs -> Zn V v2 m1 m2 m3 m4 ps qs rs ts -> Calls Tryz.prog 23 #[.int .i64 i, v1, v2] V (Z5 V N D M E k)) := by
 have mx := Xx n1 n2 n3 n4 xs ys us vs
 have my := Xx m1 m2 m3 m4 ps qs rs ts
 have rx := YY n1 n2 n3 n4 xs ys us vs
 have ry := YY m1 m2 m3 m4 ps qs rs ts
 have bad : ((YV n1 n2 xs ys == 0 && YV n3 n4 us vs == 0) = false ∨ (YV n1 n2 xs ys == 0 && YV n3 n4 us vs == 0) = true /\ (YV m1 m2 ps qs == 0 && YV m3 m4 rs ts == 0) = false) -> ∃ N D M E k, (lz N <= 2048 /\ lz D <= 2048 /\ lz M <= 2048 /\ lz E <= 2048) /\
   (∀ (V : World) (v1 v2 : Value), Zn V v1 n1 n2 n3 n4 xs ys us vs -> Zn V v2 m1 m2 m3 m4 ps qs rs ts -> Calls Tryz.prog 22 #[.int .i64 i, v1, v2] V (ZC V.heap.size V N D M E k)) /\
   (∀ (V : World) (v1 v2 : Value), Zn V v1 n1 n2 n3 n4 xs ys us vs -> Zn V v2 m1 m2 m3 m4 ps qs rs ts -> Calls Tryz.prog 23 #[.int .i64 i, v1, v2] V (Z5 V N D M E k)) := by
   intro hb
   have C : ∀ fv, BothC fv n1 n2 n3 n4 xs ys us vs m1 m2 m3 m4 ps qs rs ts 0 0 0 0 1 := fun fv V v1 v2 g1 g2 => by
     rcases hb with h | ⟨h, h2⟩
     . rw [h] at mx
       exact both_bad_x mx V v1 v2 g1 g2
     . rw [h] at mx
       rw [h2] at my
       exact both_bad_y mx my V v1 v2 g1 g2
   refine ⟨0, 0, 0, 0, 1, by decide +kernel, fun V v1 v2 g1 g2 => ?_, fun V v1 v2 g1 g2 => ?_⟩
   . rcases (by omega : i = 1 ∨ i = 2 ∨ i = 3 ∨ i = 4) with rfl | rfl | rfl | rfl
     . refine reckoned_1 (fun V v1 v2 g1 g2 => ?_) V v1 v2 g1 g2
       exact gauss_Add (C _) V v1 v2 g1 g2
     . refine reckoned_2 (fun V v1 v2 g1 g2 => ?_) V v1 v2 g1 g2
       exact gauss_Sub (C _) V v1 v2 g1 g2
     . refine reckoned_3 (fun V v1 v2 g1 g2 => ?_) V v1 v2 g1 g2
       exact gauss_Mul (C _) V v1 v2 g1 g2
     . refine reckoned_4 (fun V v1 v2 g1 g2 => ?_) V v1 v2 g1 g2
       rcases hb with h | ⟨h, h2⟩
       . rw [h] at mx
         exact gauss_Quo_x mx (C _) V v1 v2 g1 g2
       . rw [h] at mx
         rw [h2] at my
         exact gauss_Quo_y mx my (C _) V v1 v2 g1 g2
   . rcases hb with h | ⟨h, h2⟩
     . rw [h] at rx
       exact ref03_Reckoned_bad_x rx V v1 v2 g1 g2
     . rw [h] at rx
       rw [h2] at ry
       exact ref03_Reckoned_bad_y rx ry V v1 v2 g1 g2
 rcases may_cases (n1 := n1) (n2 := n2) (n3 := n3) (n4 := n4) hx1 hx2 hx3 hx4 with h | ⟨n, d, m, f, f1, f2, e1, e2, e3, e4, e5, e6, e7, e8⟩
 . exact bad (.inl h)
 rcases may_cases (n1 := m1) (n2 := m2) (n3 := m3) (n4 := m4) hy1 hy2 hy3 hy4 with h | ⟨p, q, r, s, f3, f4, e9, e10, e11, e12, e13, e14, e15, e16⟩
 . cases hc : (YV n1 n2 xs ys == 0 && YV n3 n4 us vs == 0) with
   | false => exact bad (.inl hc)
   | true => exact bad (.inr ⟨hc, h⟩)
 subst e1 e2 e3 e4 e5 e6 e7 e8 e9 e10 e11 e12 e13 e14 e15 e16
 clear bad mx my rx ry
 rcases (by omega : i = 1 ∨ i = 2 ∨ i = 3 ∨ i = 4) with rfl | rfl | rfl | rfl
 . obtain ⟨N, D, M, E, k, hz, h1, h2⟩ := reck_1 f1 f2 f3 f4
   refine ⟨N, D, M, E, k, hz, fun V v1 v2 g1 g2 => ?_, fun V v1 v2 g1 g2 => h2 V v1 v2 ⟨g1.form⟩ ⟨g2.form⟩⟩
   exact reckoned_1 h1 V v1 v2 g1 g2
 . obtain ⟨N, D, M, E, k, hz, h1, h2⟩ := reck_2 f1 f2 f3 f4
   refine ⟨N, D, M, E, k, hz, fun V v1 v2 g1 g2 => ?_, fun V v1 v2 g1 g2 => h2 V v1 v2 ⟨g1.form⟩ ⟨g2.form⟩⟩
   exact reckoned_2 h1 V v1 v2 g1 g2
 . obtain ⟨N, D, M, E, k, hz, h1, h2⟩ := reck_3 f1 f2 f3 f4
   refine ⟨N, D, M, E, k, hz, fun V v1 v2 g1 g2 => ?_, fun V v1 v2 g1 g2 => h2 V v1 v2 ⟨g1.form⟩ ⟨g2.form⟩⟩
   exact reckoned_3 h1 V v1 v2 g1 g2
 . obtain ⟨N, D, M, E, k, hz, h1, h2⟩ := reck_4 f1 f2 f3 f4
   refine ⟨N, D, M, E, k, hz, fun V v1 v2 g1 g2 => ?_, fun V v1 v2 g1 g2 => h2 V v1 v2 ⟨g1.form⟩ ⟨g2.form⟩⟩
   exact reckoned_4 h1 V v1 v2 g1 g2

structure GIs (a b : Rat) (n d m f : Int) : Prop where
 re : Is a n d
 im : Is b m f
 f1 : XN n d
 f2 : XN m f
theorem GIs.sz {a b : Rat} {n d m f : Int} (h : GIs a b n d m f) : Sz a 2048 /\ Sz b 2048 := ⟨h.re.sz h.f1.num h.f1.den, h.im.sz h.f2.num h.f2.den⟩
theorem GIs.mk_ {a b : Rat} {n d m f : Int} (h1 : Is a n d) (h2 : Is b m f) (l1 : lz n <= 2048) (l2 : lz d <= 2048) (l3 : lz m <= 2048) (l4 : lz f <= 2048) : GIs a b n d m f := ⟨h1, h2, h1.fine l1 l2, h2.fine l3 l4⟩
theorem GIs.may {a b : Rat} {n d m f : Int} (h : GIs a b n d m f) : Xa 55 (decide (n < 0)) (decide (d < 0)) (decide (m < 0)) (decide (f < 0)) (Za n.natAbs) (Za d.natAbs) (Za m.natAbs) (Za f.natAbs) true := by
 have k := Xx (decide (n < 0)) (decide (d < 0)) (decide (m < 0)) (decide (f < 0)) (Za n.natAbs) (Za d.natAbs) (Za m.natAbs) (Za f.natAbs)
 rw [YA h.f1 h.f2] at k
 exact k
theorem GIs.fits {a b : Rat} {n d m f : Int} (h : GIs a b n d m f) : Jf n d m f n d m f 0 := fun V base v hbase ho => by
 have l1 : lz n <= 2048 := h.f1.num
 have l2 : lz d <= 2048 := h.f1.den
 have l3 : lz m <= 2048 := h.f2.num
 have l4 : lz f <= 2048 := h.f2.den
 have hb : ((decide (2048 < (Za n.natAbs).length) || decide (2048 < (Za d.natAbs).length)) || (decide (2048 < (Za m.natAbs).length) || decide (2048 < (Za f.natAbs).length))) = false := by
  unfold lz at l1 l2 l3 l4
  rw [decide_eq_false (by omega), decide_eq_false (by omega), decide_eq_false (by omega), decide_eq_false (by omega)]
  rfl
 exact answered_fits (ansG_of false hb) V v ho.in_.at_ hbase ho
section
variable {a b c e : Rat} {n d m f p q r s N D M E : Int}
theorem gmul_c (x : GIs a b n d m f) (y : GIs c e p q r s) (z : GIs (a * c - b * e) (a * e + b * c) N D M E) : OpG2 104 n d m f p q r s N D M E 0 := by
 intro V v1 v2 g1 g2
 have C : BothC (.func (.func 191) #[] #[]) (decide (n < 0)) (decide (d < 0)) (decide (m < 0)) (decide (f < 0)) (Za n.natAbs) (Za d.natAbs) (Za m.natAbs) (Za f.natAbs) (decide (p < 0)) (decide (q < 0)) (decide (r < 0)) (decide (s < 0)) (Za p.natAbs) (Za q.natAbs) (Za r.natAbs) (Za s.natAbs) N D M E 0 := fun V v1 v2 g1 g2 => by
  have up : ∀ {q : Rat} {l : Nat}, Sz q 2048 -> 2048 <= l -> Sz q l := fun h k => h.mono k
  exact both_Times x.may y.may (times_g x.re x.im y.re y.im (up x.sz.1 (by omega)) (up x.sz.2 (by omega)) (up y.sz.1 (by omega)) (up y.sz.2 (by omega)) z.re z.im) z.fits V v1 v2 ⟨g1.form⟩ ⟨g2.form⟩
 exact gauss_Mul C V v1 v2 g1.raw g2.raw
theorem gquo_zero (x : GIs a b n d m f) (y : GIs c e p q r s) (h0 : c = 0 /\ e = 0) : OpG2 29 n d m f p q r s 0 0 0 0 3 := by
 intro V v1 v2 g1 g2
 have hd : decide (p = 0 /\ r = 0) = true := decide_eq_true ⟨y.re.nought.2 h0.1, y.im.nought.2 h0.2⟩
 exact JL x.may y.may (nought_g y.re y.im true hd) V v1 v2 g1 g2
end

abbrev OpU (F : FuncId) (n d N D M E : Int) : Prop := ∀ (V : World) (v : Value), Yc V v n d -> Calls Tryz.prog F #[v] V (ZN V.heap.size V N D M E)
abbrev OpUI (F : FuncId) (n d N D M E : Int) : Prop := ∀ (V : World) (v : Value), Yc V v n d -> Calls Tryz.prog F #[v] V (Y9 V N D M E)
def RetFracIn2 (w : World) (n d k : Int) (e : Ending) (w' : World) : Prop := ∃ v, e = .returned (.tuple #[v, .int .i64 k]) /\ ZH w' 0 v n d /\ Below w.heap.size w w'



theorem low_int (z : Int) : YF z 1 = z /\ YB z 1 = 1 := by
 have h1 := is_low z (d := 1) (by decide)
 have h2 := is_of (n := z) (d := 1) (by decide) (by unfold ZX; simp)
 exact h1.uniq h2
abbrev Of2 (F : FuncId) (z0 z1 o : Int) : Prop := ∀ V : World, Calls Tryz.prog F #[.int .i64 z0, .int .i64 z1] V (ZN V.heap.size V z0 o z1 o)
abbrev Of2I (F : FuncId) (z0 z1 o : Int) : Prop := ∀ V : World, Calls Tryz.prog F #[.int .i64 z0, .int .i64 z1] V (Y9 V z0 o z1 o)
abbrev OfR (F : FuncId) (z o : Int) : Prop := ∀ V : World, Calls Tryz.prog F #[.int .i64 z, .int .i64 1] V (ZP V.heap.size V z o)
abbrev OfI (F : FuncId) (z o : Int) : Prop := ∀ V : World, Calls Tryz.prog F #[.int .i64 z, .int .i64 1] V (YJ V z o)

theorem argand_Small {z0 z1 o : Int} (C1 : OfR 156 z0 o) (C2 : OfR 156 z1 o) (w : World)   :
  Calls Tryz.prog 53 #[.int .i64 z0, .int .i64 z1] w (ZN w.heap.size w z0 o z1 o) := by
 have H1 := Hd C1
 have H2 := Hd C2
 clear C1 C2
 go_enter Tryz.func53, Tryz.ntmps53
 go_upto_region 1 with fail
 refine Y7 (P := fun W => Code.wp _ _ _ _ W) fun W p0 b0 => ?_
 have PR := Hd (ZF.mk p0)
 have HB := Hd b0
 clear b0 p0
 go_wp2_with fail
 refine (H1.out W).mono ?_
 rintro e wx1 ⟨v, rfl, hI, hb⟩
 obtain ⟨A6, c6, A7, c7, rfl, -⟩ := hI.form
 have I1 := Hd (hI.base HB.out.size)
 have M1 := Hd (show ∀ g, Yb (.agg #[.bool (decide (z0 < 0)), .slice A6 (Za z0.natAbs).length c6, .bool (decide (o < 0)), .slice A7 (Za o.natAbs).length c7]) g -> g < wx1.heap.size from fun g hg => (hI.mine g hg).2)
 clear hI
 have PR := Hd (PR.out.below hb)
 have HB := Hd (Zb HB.out hb)
 clear hb
 go_wp2_with fail
 refine (H2.out wx1).mono ?_
 rintro e wx2 ⟨v, rfl, hI, hb⟩
 obtain ⟨A8, c8, A9, c9, rfl, -⟩ := hI.form
 have I2 := Hd (hI.base HB.out.size)
 have AP := Hd (show ∀ g, Yb (.agg #[.bool (decide (z0 < 0)), .slice A6 (Za z0.natAbs).length c6, .bool (decide (o < 0)), .slice A7 (Za o.natAbs).length c7]) g -> ¬ Yb (.agg #[.bool (decide (z1 < 0)), .slice A8 (Za z1.natAbs).length c8, .bool (decide (o < 0)), .slice A9 (Za o.natAbs).length c9]) g from fun g hg hg2 => by have a := M1.out g hg; have b := (hI.mine g hg2).1; omega)
 clear hI
 have PR := Hd (PR.out.below hb)
 have I1 := Hd (I1.out.below hb)
 have HB := Hd (Zb HB.out hb)
 clear hb
 obtain ⟨l_r, r0, r1, r2, r3, r4, r5, r6, r7⟩ := PR.out.facts
 obtain ⟨f0, f1, f2, f3, f4, f5, f6, f7⟩ := PR.out.free
 have HQ := Hd (PR.out.store (.bool (decide (z0 < 0))) (.slice A6 (Za z0.natAbs).length c6) (.bool (decide (o < 0))) (.slice A7 (Za o.natAbs).length c7) (.bool (decide (z1 < 0))) (.slice A8 (Za z1.natAbs).length c8) (.bool (decide (o < 0))) (.slice A9 (Za o.natAbs).length c9))
 have HB9 := Hd (below8 HB.out (show w.heap.size <= w.heap.size by omega) (.bool (decide (z0 < 0))) (.slice A6 (Za z0.natAbs).length c6) (.bool (decide (o < 0))) (.slice A7 (Za o.natAbs).length c7) (.bool (decide (z1 < 0))) (.slice A8 (Za z1.natAbs).length c8) (.bool (decide (o < 0))) (.slice A9 (Za o.natAbs).length c9))
 have HF := Hd ((show Zt wx2 w.heap.size (.agg #[.bool (decide (z0 < 0)), .slice A6 (Za z0.natAbs).length c6, .bool (decide (o < 0)), .slice A7 (Za o.natAbs).length c7, .bool (decide (z1 < 0)), .slice A8 (Za z1.natAbs).length c8, .bool (decide (o < 0)), .slice A9 (Za o.natAbs).length c9]) z0 o z1 o from ⟨_, _, _, _, _, _, _, _, rfl, I1.out, I2.out, AP.out⟩).oct PR.out (by decide) (.bool (decide (z0 < 0))) (.slice A6 (Za z0.natAbs).length c6) (.bool (decide (o < 0))) (.slice A7 (Za o.natAbs).length c7) (.bool (decide (z1 < 0))) (.slice A8 (Za z1.natAbs).length c8) (.bool (decide (o < 0))) (.slice A9 (Za o.natAbs).length c9))
 go_wp2_with fail
 obtain ⟨_, k0, k1, k2, k3, k4, k5, k6, k7⟩ := HQ.out.facts
 exact bodyPost_ret (by simp [results, Tryz.results53, go_sem, k0, k1, k2, k3, k4, k5, k6, k7]) rfl ⟨_, rfl, HF.out, HB9.out⟩

theorem gauss_Of {N D M E z0 z1 : Int} (C1 : ∀ V : World, Calls Tryz.prog 53 #[.int .i64 z0, .int .i64 z1] V (ZN V.heap.size V N D M E)) (w : World)   :
  Calls Tryz.prog 11 #[.int .i64 z0, .int .i64 z1] w (ZN w.heap.size w N D M E) := by
 have H1 := Hd C1
 clear C1
 go_enter Tryz.func11, Tryz.ntmps11
 go_upto_region 1 with fail
 refine Y7 (P := fun W => Code.wp _ _ _ _ W) fun W p0 b0 => ?_
 have PR := Hd (ZF.mk p0)
 have HB := Hd b0
 clear b0 p0
 go_wp2_with fail
 refine (H1.out W).mono ?_
 rintro e w9 ⟨v, rfl, hI, hb⟩
 obtain ⟨A6, c6, A7, c7, A8, c8, A9, c9, rfl, -⟩ := hI.form
 have pr := PR.out.below hb
 have hb9 := Zb HB.out hb
 obtain ⟨l_r, r0, r1, r2, r3, r4, r5, r6, r7⟩ := pr.facts
 obtain ⟨f0, f1, f2, f3, f4, f5, f6, f7⟩ := pr.free
 have H9 := Hd (Y0 hI pr hb9 (show w.heap.size <= w.heap.size by omega) (by decide))
 clear hb hb9 pr hI
 go_wp2_with fail
 obtain ⟨_, k0, k1, k2, k3, k4, k5, k6, k7⟩ := H9.out.1.facts
 exact bodyPost_ret (by simp [results, Tryz.results11, go_sem, k0, k1, k2, k3, k4, k5, k6, k7]) rfl ⟨_, rfl, H9.out.2.2.base HB.out.size, H9.out.2.1⟩

section
variable {z0 z1 : Int} (o : Int) (ho : o = 1) (h1 : -9223372036854775808 <= z0) (h2 : z0 <= 9223372036854775807) (h3 : -9223372036854775808 <= z1) (h4 : z1 <= 9223372036854775807)
include ho h1 h2 h3 h4
theorem of_g : Of2 11 z0 z1 o := by
 subst ho
 have C1 : OfR 156 z0 1 := fun V => by have k := small_own (n := z0) (d := 1) h1 h2 (by decide) (by decide) (by decide) V; rw [(low_int z0).1, (low_int z0).2] at k; exact k
 have C2 : OfR 156 z1 1 := fun V => by have k := small_own (n := z1) (d := 1) h3 h4 (by decide) (by decide) (by decide) V; rw [(low_int z1).1, (low_int z1).2] at k; exact k
 exact gauss_Of (argand_Small C1 C2)
end
theorem gis_int (z0 z1 : Int) (h1 : -9223372036854775808 <= z0) (h2 : z0 <= 9223372036854775807) (h3 : -9223372036854775808 <= z1) (h4 : z1 <= 9223372036854775807) : GIs (z0 : Rat) (z1 : Rat) z0 1 z1 1 :=
 GIs.mk_ (is_int z0) (is_int z1) (Nat.le_trans (lz_i64 h1 h2) (by decide)) (by decide +kernel) (Nat.le_trans (lz_i64 h3 h4) (by decide)) (by decide +kernel)
end Go.Proofs.YthlehkjcfhnplaaGreatDoor
