/- Several texts in one: Reck, GaussC, Parts, PartsLaw, GOfs. -/
import Derived.Test.YthlehkjcfhnplaaGreatDoorGw26
set_option maxRecDepth 100000
set_option maxHeartbeats 8000000
/- reckoned of the laws: both sides' answers. (Written by wip/gauss/genreck.py.) -/
namespace Go.Proofs.YthlehkjcfhnplaaGreatDoor
open Go.RowKit

theorem ansG_of {n d m f : Int} (b : Bool) (h : ((decide (2048 < (Za n.natAbs).length) || decide (2048 < (Za d.natAbs).length)) || (decide (2048 < (Za m.natAbs).length) || decide (2048 < (Za f.natAbs).length))) = b) : AnsG 204 n d m f (if b then 4 else 0) := by
 intro V g v A1 A2 A3 A4 c1 c2 c3 c4 hg _ l1 l2 l3 l4
 rw [show V.heap.size + 1 = (V.alloc (.cells #[.bool (decide (n < 0)), .slice A1 (Za n.natAbs).length c1, .bool (decide (d < 0)), .slice A2 (Za d.natAbs).length c2, .bool (decide (m < 0)), .slice A3 (Za m.natAbs).length c3, .bool (decide (f < 0)), .slice A4 (Za f.natAbs).length c4] 28)).heap.size by simp]
 cases b with
 | true => exact argand_Answer_true n d m f A1 A2 A3 A4 c1 c2 c3 c4 l1 l2 l3 l4 h _ g (by subst hg; exact Z6.new _ _ _ _ _ _ _ _ _ _)
 | false => exact argand_Answer_false n d m f A1 A2 A3 A4 c1 c2 c3 c4 l1 l2 l3 l4 h _ g (by subst hg; exact Z6.new _ _ _ _ _ _ _ _ _ _)
theorem may_true {n d m f : Int} (f1 : Fine n d) (f2 : Fine m f) : (YU (decide (n < 0)) (decide (d < 0)) (Za n.natAbs) (Za d.natAbs) == 0 && YU (decide (m < 0)) (decide (f < 0)) (Za m.natAbs) (Za f.natAbs) == 0) = true := by
 rw [f1.chk, f2.chk]; rfl
theorem may_cases {n1 n2 n3 n4 : Bool} {xs ys us vs : List Nat} (h1 : Zk xs) (h2 : Zk ys) (h3 : Zk us) (h4 : Zk vs) :
   (YU n1 n2 xs ys == 0 && YU n3 n4 us vs == 0) = false ∨ ∃ n d m f, Fine n d /\ Fine m f /\ n1 = decide (n < 0) /\ n2 = decide (d < 0) /\ xs = Za n.natAbs /\ ys = Za d.natAbs /\ n3 = decide (m < 0) /\ n4 = decide (f < 0) /\ us = Za m.natAbs /\ vs = Za f.natAbs := by
 cases hc : (YU n1 n2 xs ys == 0 && YU n3 n4 us vs == 0) with
 | false => exact .inl rfl
 | true =>
   rw [Bool.and_eq_true] at hc
   obtain ⟨n, d, f1, a1, a2, a3, a4⟩ := fine_of h1 h2 (by simpa using hc.1)
   obtain ⟨m, f, f2, b1, b2, b3, b4⟩ := fine_of h3 h4 (by simpa using hc.2)
   exact .inr ⟨n, d, m, f, f1, f2, a1, a2, a3, a4, b1, b2, b3, b4⟩
theorem ans_g (n d m f : Int) : ∃ N D M E k, (lz N <= 2048 /\ lz D <= 2048 /\ lz M <= 2048 /\ lz E <= 2048) /\ JT n d m f N D M E k /\ AnsIG n d m f N D M E k := by
 by_cases hl : (lz n <= 2048 /\ lz d <= 2048) /\ lz m <= 2048 /\ lz f <= 2048
 . have hb : ((decide (2048 < (Za n.natAbs).length) || decide (2048 < (Za d.natAbs).length)) || (decide (2048 < (Za m.natAbs).length) || decide (2048 < (Za f.natAbs).length))) = false := by
     unfold lz at hl
     rw [decide_eq_false (by omega), decide_eq_false (by omega), decide_eq_false (by omega), decide_eq_false (by omega)]
     rfl
   refine ⟨n, d, m, f, 0, ⟨hl.1.1, hl.1.2, hl.2.1, hl.2.2⟩, fun V base v hbase ho => ?_, fun V v ho => ?_⟩
   . exact answered_fits (ansG_of false hb) V v ho.in_.at_ hbase ho
   . exact ref03_Answer_fits hb V v ho.at_ ho
 . have hb : ((decide (2048 < (Za n.natAbs).length) || decide (2048 < (Za d.natAbs).length)) || (decide (2048 < (Za m.natAbs).length) || decide (2048 < (Za f.natAbs).length))) = true := by
     unfold lz at hl
     simp only [Bool.or_eq_true, decide_eq_true_eq]
     omega
   refine ⟨0, 0, 0, 0, 4, by decide +kernel, fun V base v hbase ho => ?_, fun V v ho => ?_⟩
   . exact answered_long (ansG_of true hb) V v ho.in_.at_ hbase ho
   . exact ref03_Answer_long hb V v ho.at_ ho

theorem nought_g {p q r s : Int} {c e : Rat} (i3 : Is c p q) (i4 : Is e r s) (b : Bool) (hb : decide (p = 0 /\ r = 0) = b) : NoughtG 116 p q r s b := by
 intro V v g1
 by_cases h1 : p = 0
 . by_cases h2 : r = 0
   . rw [decide_eq_true ⟨h1, h2⟩] at hb
     subst hb
     exact argand_Nought_yes (sgn_r i3) (Xs p true (decide_eq_true h1)) (sgn_r i4) (Xs r true (decide_eq_true h2)) V v g1
   . rw [decide_eq_false (fun h => h2 h.2)] at hb
     subst hb
     exact argand_Nought_im (sgn_r i3) (Xs p true (decide_eq_true h1)) (sgn_r i4) (Xs r false (decide_eq_false h2)) V v g1
 . rw [decide_eq_false (fun h => h1 h.1)] at hb
   subst hb
   exact argand_Nought_re (sgn_r i3) (Xs p false (decide_eq_false h1)) V v g1
/- The calls of package gauss over numbers that may be, where nothing is refused. (Written by wip/gauss/gengaussc.py.) -/

structure GIs (a b : Rat) (n d m f : Int) : Prop where
 re : Is a n d
 im : Is b m f
 f1 : Fine n d
 f2 : Fine m f
theorem GIs.sz {a b : Rat} {n d m f : Int} (h : GIs a b n d m f) : Sz a 2048 /\ Sz b 2048 := ⟨h.re.sz h.f1.num h.f1.den, h.im.sz h.f2.num h.f2.den⟩
theorem GIs.mk_ {a b : Rat} {n d m f : Int} (h1 : Is a n d) (h2 : Is b m f) (l1 : lz n <= 2048) (l2 : lz d <= 2048) (l3 : lz m <= 2048) (l4 : lz f <= 2048) : GIs a b n d m f := ⟨h1, h2, h1.fine l1 l2, h2.fine l3 l4⟩
theorem GIs.of {n d m f : Int} (f1 : Fine n d) (f2 : Fine m f) : GIs (Rat.divInt n d) (Rat.divInt m f) n d m f := ⟨f1.is_.1, f2.is_.1, f1, f2⟩
theorem GIs.may {a b : Rat} {n d m f : Int} (h : GIs a b n d m f) : MayG 55 (decide (n < 0)) (decide (d < 0)) (decide (m < 0)) (decide (f < 0)) (Za n.natAbs) (Za d.natAbs) (Za m.natAbs) (Za f.natAbs) true := by
 have k := may_raw (decide (n < 0)) (decide (d < 0)) (decide (m < 0)) (decide (f < 0)) (Za n.natAbs) (Za d.natAbs) (Za m.natAbs) (Za f.natAbs)
 rw [may_true h.f1 h.f2] at k
 exact k
theorem GIs.fits {a b : Rat} {n d m f : Int} (h : GIs a b n d m f) : JT n d m f n d m f 0 := fun V base v hbase ho => by
 have l1 : lz n <= 2048 := h.f1.num
 have l2 : lz d <= 2048 := h.f1.den
 have l3 : lz m <= 2048 := h.f2.num
 have l4 : lz f <= 2048 := h.f2.den
 have hb : ((decide (2048 < (Za n.natAbs).length) || decide (2048 < (Za d.natAbs).length)) || (decide (2048 < (Za m.natAbs).length) || decide (2048 < (Za f.natAbs).length))) = false := by
   unfold lz at l1 l2 l3 l4
   rw [decide_eq_false (by omega), decide_eq_false (by omega), decide_eq_false (by omega), decide_eq_false (by omega)]
   rfl
 exact answered_fits (ansG_of false hb) V v ho.in_.at_ hbase ho
section
variable {a b c e : Rat} {n d m f p q r s N D M E : Int}
theorem gmul_c (x : GIs a b n d m f) (y : GIs c e p q r s) (z : GIs (a * c - b * e) (a * e + b * c) N D M E) : OpG2 104 n d m f p q r s N D M E 0 := by
 intro V v1 v2 g1 g2
 have C : BothC (.func (.func 191) #[] #[]) (decide (n < 0)) (decide (d < 0)) (decide (m < 0)) (decide (f < 0)) (Za n.natAbs) (Za d.natAbs) (Za m.natAbs) (Za f.natAbs) (decide (p < 0)) (decide (q < 0)) (decide (r < 0)) (decide (s < 0)) (Za p.natAbs) (Za q.natAbs) (Za r.natAbs) (Za s.natAbs) N D M E 0 := fun V v1 v2 g1 g2 => by
   have up : ∀ {q : Rat} {l : Nat}, Sz q 2048 -> 2048 <= l -> Sz q l := fun h k => h.mono k
   exact both_Times x.may y.may (times_g x.re x.im y.re y.im (up x.sz.1 (by omega)) (up x.sz.2 (by omega)) (up y.sz.1 (by omega)) (up y.sz.2 (by omega)) z.re z.im) z.fits V v1 v2 ⟨g1.form⟩ ⟨g2.form⟩
 exact gauss_Mul C V v1 v2 g1.raw g2.raw
theorem gquo_zero (x : GIs a b n d m f) (y : GIs c e p q r s) (h0 : c = 0 /\ e = 0) : OpG2 29 n d m f p q r s 0 0 0 0 3 := by
 intro V v1 v2 g1 g2
 have hd : decide (p = 0 /\ r = 0) = true := decide_eq_true ⟨y.re.nought.2 h0.1, y.im.nought.2 h0.2⟩
 exact gauss_Quo_nought x.may y.may (nought_g y.re y.im true hd) V v1 v2 g1 g2
end
/- Conj, Norm, Unit of gauss; Mirrored, Square, OnCircle, Unit of the references. (Written by wip/gauss/genparts.py.) -/

abbrev OpU (F : FuncId) (n d N D M E : Int) : Prop := ∀ (V : World) (v : Value), ZX V v n d -> Calls Tryz.prog F #[v] V (ZQ V.heap.size V N D M E)
abbrev OpUI (F : FuncId) (n d N D M E : Int) : Prop := ∀ (V : World) (v : Value), ZX V v n d -> Calls Tryz.prog F #[v] V (XO V N D M E)
def RetFracIn2 (w : World) (n d k : Int) (e : Ending) (w' : World) : Prop := ∃ v, e = .returned (.tuple #[v, .int .i64 k]) /\ ZG w' 0 v n d /\ Below w.heap.size w w'

theorem conj_clos {n d m f p q r s N D M E : Int} (C1 : OpG1 121 n d m f N D M E) (w : World) (v_x v_y : Value) (g_x : Zp w v_x n d m f) (g_y : Zp w v_y p q r s)  :
   Calls Tryz.prog 120 #[v_x, v_y] w (ZQ w.heap.size w N D M E) := by
 obtain ⟨Ax1, cx1, Ax2, cx2, Ax3, cx3, Ax4, cx4, rfl, -⟩ := g_x.form
 obtain ⟨Ay1, cy1, Ay2, cy2, Ay3, cy3, Ay4, cy4, rfl, -⟩ := g_y.form
 have H1 := Hd C1
 clear C1
 have G_x := Hd g_x
 have G_y := Hd g_y
 clear g_x g_y
 go_enter Tryz.func120, Tryz.ntmps120
 go_upto_region 1 with fail
 refine XZ (P := fun W => Code.wp _ _ _ _ W) fun W p0 p1 p2 b0 => ?_
 have P_x := Hd (Z6.mk p0)
 have P_y := Hd (Z6.mk p1)
 have PR := Hd (Z6.mk p2)
 have HB := Hd b0
 clear b0 p0 p1 p2
 obtain ⟨-, x0, x1, x2, x3, x4, x5, x6, x7⟩ := P_x.out.facts
 obtain ⟨-, y0, y1, y2, y3, y4, y5, y6, y7⟩ := P_y.out.facts
 go_wp2_with fail
 refine (H1.out W _ (G_x.out.below HB.out)).mono ?_
 rintro e w9 ⟨v, rfl, hI, hb⟩
 clear x0 x1 x2 x3 x4 x5 x6 x7 y0 y1 y2 y3 y4 y5 y6 y7
 obtain ⟨A6, c6, A7, c7, A8, c8, A9, c9, rfl, -⟩ := hI.form
 have pr := PR.out.below hb
 have hb9 := Zb HB.out hb
 obtain ⟨l_r, r0, r1, r2, r3, r4, r5, r6, r7⟩ := pr.facts
 obtain ⟨f0, f1, f2, f3, f4, f5, f6, f7⟩ := pr.free
 have H9 := Hd (JD hI pr hb9 (show w.heap.size <= w.heap.size + 1 + 1 by omega) (by decide))
 clear hb hb9 pr hI
 go_wp2_with fail
 obtain ⟨_, k0, k1, k2, k3, k4, k5, k6, k7⟩ := H9.out.1.facts
 exact bodyPost_ret (by simp [results, Tryz.results120, go_sem, k0, k1, k2, k3, k4, k5, k6, k7]) rfl ⟨_, rfl, H9.out.2.2.base HB.out.size, H9.out.2.1⟩

theorem gauss_Conj {n1 n2 n3 n4 : Bool} {xs ys us vs : List Nat} {N D M E k : Int} (C1 : BothC (.func (.func 120) #[] #[]) n1 n2 n3 n4 xs ys us vs n1 n2 n3 n4 xs ys us vs N D M E k) (w : World) (v_x : Value) (g_x : ZI w v_x n1 n2 n3 n4 xs ys us vs)  :
   Calls Tryz.prog 32 #[v_x] w (ZS w.heap.size w N D M E k) := by
 obtain ⟨Ax1, cx1, Ax2, cx2, Ax3, cx3, Ax4, cx4, rfl, -⟩ := g_x.form
 have H1 := Hd C1
 clear C1
 have G_x := Hd g_x
 clear g_x
 go_enter Tryz.func32, Tryz.ntmps32
 go_upto_region 1 with fail
 refine Yp (P := fun W => Code.wp _ _ _ _ W) fun W p0 p1 b0 => ?_
 have P_x := Hd (Z6.mk p0)
 have PR := Hd (Z6.mk p1)
 have HB := Hd b0
 clear b0 p0 p1
 obtain ⟨-, x0, x1, x2, x3, x4, x5, x6, x7⟩ := P_x.out.facts
 go_wp2_with fail
 refine (H1.out W _ _ (G_x.out.below HB.out) (G_x.out.below HB.out)).mono ?_
 rintro e w9 ⟨v, rfl, hI, hb⟩
 clear x0 x1 x2 x3 x4 x5 x6 x7
 obtain ⟨A6, c6, A7, c7, A8, c8, A9, c9, rfl, -⟩ := hI.form
 have pr := PR.out.below hb
 have hb9 := Zb HB.out hb
 obtain ⟨l_r, r0, r1, r2, r3, r4, r5, r6, r7⟩ := pr.facts
 obtain ⟨f0, f1, f2, f3, f4, f5, f6, f7⟩ := pr.free
 have H9 := Hd (JD hI pr hb9 (show w.heap.size <= w.heap.size + 1 by omega) (by decide))
 clear hb hb9 pr hI
 go_wp2_with fail
 obtain ⟨_, k0, k1, k2, k3, k4, k5, k6, k7⟩ := H9.out.1.facts
 exact bodyPost_ret (by simp [results, Tryz.results32, go_sem, k0, k1, k2, k3, k4, k5, k6, k7]) rfl ⟨_, rfl, H9.out.2.2.base HB.out.size, H9.out.2.1⟩

theorem gauss_Norm_bad {n1 n2 n3 n4 : Bool} {xs ys us vs : List Nat} (C1 : MayG 55 n1 n2 n3 n4 xs ys us vs false) (w : World) (v_x : Value) (g_x : ZI w v_x n1 n2 n3 n4 xs ys us vs)  :
   Calls Tryz.prog 33 #[v_x] w (XX w.heap.size w 0 0 1) := by
 obtain ⟨Ax1, cx1, Ax2, cx2, Ax3, cx3, Ax4, cx4, rfl, -⟩ := g_x.form
 have H1 := Hd C1
 clear C1
 have G_x := Hd g_x
 clear g_x
 go_enter Tryz.func33, Tryz.ntmps33
 go_upto_region 1 with fail
 refine Yp (P := fun W => Code.wp _ _ _ _ W) fun W p0 p1 b0 => ?_
 have P_x := Hd (Z6.mk p0)
 have PR := Hd (Zo.mk p1)
 have HB := Hd b0
 clear b0 p0 p1
 obtain ⟨-, x0, x1, x2, x3, x4, x5, x6, x7⟩ := P_x.out.facts
 go_wp2_with fail
 refine (H1.out W _ (G_x.out.below HB.out)).mono ?_
 rintro e wx1 ⟨rfl, hb⟩
 clear x0 x1 x2 x3 x4 x5 x6 x7
 have P_x := Hd (P_x.out.below hb)
 have PR := Hd (PR.out.below hb)
 have HB := Hd (Zb HB.out hb)
 clear hb
 obtain ⟨l_r, r0, r1, r2, r3, f0, f1, f2, f3⟩ := PR.out.facts
 have HQ := Hd (PR.out.store (.bool false) (.slice none 0 0) (.bool false) (.slice none 0 0))
 have HB9 := Hd (Xj HB.out (show w.heap.size <= w.heap.size + 1 by omega) (.bool false) (.slice none 0 0) (.bool false) (.slice none 0 0))
 go_wp2_with fail
 obtain ⟨_, k0, k1, k2, k3, _, _, _, _⟩ := HQ.out.facts
 exact bodyPost_ret (by simp [results, Tryz.results33, go_sem, k0, k1, k2, k3]) rfl ⟨_, rfl, Zj.nought _ _, HB9.out⟩

theorem gauss_Norm_fits {n d m f N D : Int} (C1 : MayG 55 (decide (n < 0)) (decide (d < 0)) (decide (m < 0)) (decide (f < 0)) (Za n.natAbs) (Za d.natAbs) (Za m.natAbs) (Za f.natAbs) true) (C2 : OpN 122 n d m f N D) (hb : (decide (2048 < (Za N.natAbs).length) || decide (2048 < (Za D.natAbs).length)) = false) (w : World) (v_x : Value) (g_x : Zp w v_x n d m f)  :
   Calls Tryz.prog 33 #[v_x] w (XX w.heap.size w N D 0) := by
 obtain ⟨Ax1, cx1, Ax2, cx2, Ax3, cx3, Ax4, cx4, rfl, -⟩ := g_x.form
 have HLB := Hd hb
 clear hb
 have H1 := Hd C1
 have H2 := Hd C2
 clear C1 C2
 have G_x := Hd g_x
 clear g_x
 go_enter Tryz.func33, Tryz.ntmps33
 go_upto_region 1 with fail
 refine Yp (P := fun W => Code.wp _ _ _ _ W) fun W p0 p1 b0 => ?_
 have P_x := Hd (Z6.mk p0)
 have PR := Hd (Zo.mk p1)
 have HB := Hd b0
 clear b0 p0 p1
 obtain ⟨-, x0, x1, x2, x3, x4, x5, x6, x7⟩ := P_x.out.facts
 go_wp2_with fail
 refine (H1.out W _ (G_x.out.below HB.out).raw).mono ?_
 rintro e wx1 ⟨rfl, hb⟩
 clear x0 x1 x2 x3 x4 x5 x6 x7
 have P_x := Hd (P_x.out.below hb)
 have PR := Hd (PR.out.below hb)
 have HB := Hd (Zb HB.out hb)
 clear hb
 obtain ⟨-, x0, x1, x2, x3, x4, x5, x6, x7⟩ := P_x.out.facts
 go_wp2_with fail
 refine (H2.out wx1 _ (G_x.out.below HB.out)).mono ?_
 rintro e wx2 ⟨v, rfl, hI, hb⟩
 clear x0 x1 x2 x3 x4 x5 x6 x7
 have hi := hI.in_
 obtain ⟨Ann1, cnn1, Ann2, cnn2, rfl, -⟩ := hI.form
 have HS_nn := Hd HB.out.size
 have ha := (Below.refl wx2.heap.size wx2).alloc (Nat.le_refl _) (.cells #[.bool (decide (N < 0)), .slice Ann1 (Za N.natAbs).length cnn1, .bool (decide (D < 0)), .slice Ann2 (Za D.natAbs).length cnn2] 26)
 have hq := Zo.new wx2 (.bool (decide (N < 0))) (.slice Ann1 (Za N.natAbs).length cnn1) (.bool (decide (D < 0))) (.slice Ann2 (Za D.natAbs).length cnn2)
 have hi := hi.below ha
 have ho := hI.below ha
 have P_x := Hd (P_x.out.below hb)
 have PR := Hd (PR.out.below hb)
 have HB := Hd (Zb HB.out hb)
 have P_x := Hd (P_x.out.below ha)
 have PR := Hd (PR.out.below ha)
 have HB := Hd (Zb HB.out ha)
 go_upto_region 4 with fail
 obtain ⟨wy2, E⟩ : ∃ W, W = wx2.alloc (.cells #[.bool (decide (N < 0)), .slice Ann1 (Za N.natAbs).length cnn1, .bool (decide (D < 0)), .slice Ann2 (Za D.natAbs).length cnn2] 26) := ⟨_, rfl⟩
 obtain ⟨b_nn, hbq⟩ : ∃ q, q = wx2.heap.size := ⟨_, rfl⟩
 rw [<- E] at hi ho P_x PR HB
 rw [<- E, <- hbq] at hq ⊢
 have P_nn := Hd hq
 have O_nn := Hd hi
 have Q_nn := Hd ho
 clear ho
 clear hI hi hb ha hq hbq E
 have l1 : (Za N.natAbs).length <= 9223372036854775807 := by have := O_nn.out.at_.raws.1.cap; have := O_nn.out.at_.raws.1.most; omega
 have l2 : (Za D.natAbs).length <= 9223372036854775807 := by have := O_nn.out.at_.raws.2.cap; have := O_nn.out.at_.raws.2.most; omega
 obtain ⟨-, a_nn0, a_nn1, a_nn2, a_nn3, -, -, -, -⟩ := P_nn.out.facts
 go_wp2_with fail
 refine (ratio_Answer_false _ _ _ _ _ _ _ _ wy2.heap.size l1 l2 HLB.out (wy2.alloc (.cells #[.bool (decide (N < 0)), .slice Ann1 (Za N.natAbs).length cnn1, .bool (decide (D < 0)), .slice Ann2 (Za D.natAbs).length cnn2] 26)) (Zo.new wy2 _ _ _ _)).mono ?_
 rintro e wx9 ⟨rfl, hb⟩
 have hb := ((Below.refl wy2.heap.size wy2).alloc (Nat.le_refl _) (.cells #[.bool (decide (N < 0)), .slice Ann1 (Za N.natAbs).length cnn1, .bool (decide (D < 0)), .slice Ann2 (Za D.natAbs).length cnn2] 26)).trans (hb.mono (by simp))
 clear a_nn0 a_nn1 a_nn2 a_nn3
 have P_x := Hd (P_x.out.below hb)
 have P_nn := Hd (P_nn.out.below hb)
 have O_nn := Hd (O_nn.out.below hb)
 have PR := Hd (PR.out.below hb)
 have Q_nn := Hd (Q_nn.out.below hb)
 have HB := Hd (Zb HB.out hb)
 clear hb l1 l2
 obtain ⟨-, a_nn0, a_nn1, a_nn2, a_nn3, -, -, -, -⟩ := P_nn.out.facts
 obtain ⟨l_r, r0, r1, r2, r3, f0, f1, f2, f3⟩ := PR.out.facts
 have HQ := Hd (PR.out.store (.bool (decide (N < 0))) (.slice Ann1 (Za N.natAbs).length cnn1) (.bool (decide (D < 0))) (.slice Ann2 (Za D.natAbs).length cnn2))
 have HB9 := Hd (Xj HB.out (show w.heap.size <= w.heap.size + 1 by omega) (.bool (decide (N < 0))) (.slice Ann1 (Za N.natAbs).length cnn1) (.bool (decide (D < 0))) (.slice Ann2 (Za D.natAbs).length cnn2))
 have HF := Hd (Q_nn.out.quad PR.out (.bool (decide (N < 0))) (.slice Ann1 (Za N.natAbs).length cnn1) (.bool (decide (D < 0))) (.slice Ann2 (Za D.natAbs).length cnn2))
 go_wp2_with fail
 obtain ⟨_, k0, k1, k2, k3, _, _, _, _⟩ := HQ.out.facts
 exact bodyPost_ret (by simp [results, Tryz.results33, go_sem, k0, k1, k2, k3]) rfl ⟨_, rfl, HF.out.base HS_nn.out, HB9.out⟩

theorem gauss_Norm_long {n d m f N D : Int} (C1 : MayG 55 (decide (n < 0)) (decide (d < 0)) (decide (m < 0)) (decide (f < 0)) (Za n.natAbs) (Za d.natAbs) (Za m.natAbs) (Za f.natAbs) true) (C2 : OpN 122 n d m f N D) (hb : (decide (2048 < (Za N.natAbs).length) || decide (2048 < (Za D.natAbs).length)) = true) (w : World) (v_x : Value) (g_x : Zp w v_x n d m f)  :
   Calls Tryz.prog 33 #[v_x] w (XX w.heap.size w 0 0 4) := by
 obtain ⟨Ax1, cx1, Ax2, cx2, Ax3, cx3, Ax4, cx4, rfl, -⟩ := g_x.form
 have HLB := Hd hb
 clear hb
 have H1 := Hd C1
 have H2 := Hd C2
 clear C1 C2
 have G_x := Hd g_x
 clear g_x
 go_enter Tryz.func33, Tryz.ntmps33
 go_upto_region 1 with fail
 refine Yp (P := fun W => Code.wp _ _ _ _ W) fun W p0 p1 b0 => ?_
 have P_x := Hd (Z6.mk p0)
 have PR := Hd (Zo.mk p1)
 have HB := Hd b0
 clear b0 p0 p1
 obtain ⟨-, x0, x1, x2, x3, x4, x5, x6, x7⟩ := P_x.out.facts
 go_wp2_with fail
 refine (H1.out W _ (G_x.out.below HB.out).raw).mono ?_
 rintro e wx1 ⟨rfl, hb⟩
 clear x0 x1 x2 x3 x4 x5 x6 x7
 have P_x := Hd (P_x.out.below hb)
 have PR := Hd (PR.out.below hb)
 have HB := Hd (Zb HB.out hb)
 clear hb
 obtain ⟨-, x0, x1, x2, x3, x4, x5, x6, x7⟩ := P_x.out.facts
 go_wp2_with fail
 refine (H2.out wx1 _ (G_x.out.below HB.out)).mono ?_
 rintro e wx2 ⟨v, rfl, hI, hb⟩
 clear x0 x1 x2 x3 x4 x5 x6 x7
 have hi := hI.in_
 obtain ⟨Ann1, cnn1, Ann2, cnn2, rfl, -⟩ := hI.form
 have HS_nn := Hd HB.out.size
 have ha := (Below.refl wx2.heap.size wx2).alloc (Nat.le_refl _) (.cells #[.bool (decide (N < 0)), .slice Ann1 (Za N.natAbs).length cnn1, .bool (decide (D < 0)), .slice Ann2 (Za D.natAbs).length cnn2] 26)
 have hq := Zo.new wx2 (.bool (decide (N < 0))) (.slice Ann1 (Za N.natAbs).length cnn1) (.bool (decide (D < 0))) (.slice Ann2 (Za D.natAbs).length cnn2)
 have hi := hi.below ha
 have ho := hI.below ha
 have P_x := Hd (P_x.out.below hb)
 have PR := Hd (PR.out.below hb)
 have HB := Hd (Zb HB.out hb)
 have P_x := Hd (P_x.out.below ha)
 have PR := Hd (PR.out.below ha)
 have HB := Hd (Zb HB.out ha)
 go_upto_region 4 with fail
 obtain ⟨wy2, E⟩ : ∃ W, W = wx2.alloc (.cells #[.bool (decide (N < 0)), .slice Ann1 (Za N.natAbs).length cnn1, .bool (decide (D < 0)), .slice Ann2 (Za D.natAbs).length cnn2] 26) := ⟨_, rfl⟩
 obtain ⟨b_nn, hbq⟩ : ∃ q, q = wx2.heap.size := ⟨_, rfl⟩
 rw [<- E] at hi ho P_x PR HB
 rw [<- E, <- hbq] at hq ⊢
 have P_nn := Hd hq
 have O_nn := Hd hi
 have Q_nn := Hd ho
 clear ho
 clear hI hi hb ha hq hbq E
 have l1 : (Za N.natAbs).length <= 9223372036854775807 := by have := O_nn.out.at_.raws.1.cap; have := O_nn.out.at_.raws.1.most; omega
 have l2 : (Za D.natAbs).length <= 9223372036854775807 := by have := O_nn.out.at_.raws.2.cap; have := O_nn.out.at_.raws.2.most; omega
 obtain ⟨-, a_nn0, a_nn1, a_nn2, a_nn3, -, -, -, -⟩ := P_nn.out.facts
 go_wp2_with fail
 refine (ratio_Answer_true _ _ _ _ _ _ _ _ wy2.heap.size l1 l2 HLB.out (wy2.alloc (.cells #[.bool (decide (N < 0)), .slice Ann1 (Za N.natAbs).length cnn1, .bool (decide (D < 0)), .slice Ann2 (Za D.natAbs).length cnn2] 26)) (Zo.new wy2 _ _ _ _)).mono ?_
 rintro e wx9 ⟨rfl, hb⟩
 have hb := ((Below.refl wy2.heap.size wy2).alloc (Nat.le_refl _) (.cells #[.bool (decide (N < 0)), .slice Ann1 (Za N.natAbs).length cnn1, .bool (decide (D < 0)), .slice Ann2 (Za D.natAbs).length cnn2] 26)).trans (hb.mono (by simp))
 clear a_nn0 a_nn1 a_nn2 a_nn3
 have P_x := Hd (P_x.out.below hb)
 have P_nn := Hd (P_nn.out.below hb)
 have O_nn := Hd (O_nn.out.below hb)
 have PR := Hd (PR.out.below hb)
 have Q_nn := Hd (Q_nn.out.below hb)
 have HB := Hd (Zb HB.out hb)
 clear hb l1 l2
 obtain ⟨l_r, r0, r1, r2, r3, f0, f1, f2, f3⟩ := PR.out.facts
 have HQ := Hd (PR.out.store (.bool false) (.slice none 0 0) (.bool false) (.slice none 0 0))
 have HB9 := Hd (Xj HB.out (show w.heap.size <= w.heap.size + 1 by omega) (.bool false) (.slice none 0 0) (.bool false) (.slice none 0 0))
 go_wp2_with fail
 obtain ⟨_, k0, k1, k2, k3, _, _, _, _⟩ := HQ.out.facts
 exact bodyPost_ret (by simp [results, Tryz.results33, go_sem, k0, k1, k2, k3]) rfl ⟨_, rfl, Zj.nought _ _, HB9.out⟩

theorem ref03_Square_bad {n1 n2 n3 n4 : Bool} {xs ys us vs : List Nat} (C1 : MayG 105 n1 n2 n3 n4 xs ys us vs false) (w : World) (v_x : Value) (g_x : ZI w v_x n1 n2 n3 n4 xs ys us vs)  :
   Calls Tryz.prog 36 #[v_x] w (RetFracIn2 w 0 0 1) := by
 obtain ⟨Ax1, cx1, Ax2, cx2, Ax3, cx3, Ax4, cx4, rfl, -⟩ := g_x.form
 have H1 := Hd C1
 clear C1
 have G_x := Hd g_x
 clear g_x
 go_enter Tryz.func36, Tryz.ntmps36
 go_upto_region 1 with fail
 refine Yp (P := fun W => Code.wp _ _ _ _ W) fun W p0 p1 b0 => ?_
 have P_x := Hd (Z6.mk p0)
 have PR := Hd (Zo.mk p1)
 have HB := Hd b0
 clear b0 p0 p1
 obtain ⟨-, x0, x1, x2, x3, x4, x5, x6, x7⟩ := P_x.out.facts
 go_wp2_with fail
 refine (H1.out W _ (G_x.out.below HB.out)).mono ?_
 rintro e wx1 ⟨rfl, hb⟩
 clear x0 x1 x2 x3 x4 x5 x6 x7
 have P_x := Hd (P_x.out.below hb)
 have PR := Hd (PR.out.below hb)
 have HB := Hd (Zb HB.out hb)
 clear hb
 obtain ⟨l_r, r0, r1, r2, r3, f0, f1, f2, f3⟩ := PR.out.facts
 have HQ := Hd (PR.out.store (.bool false) (.slice none 0 0) (.bool false) (.slice none 0 0))
 have HB9 := Hd (Xj HB.out (show w.heap.size <= w.heap.size + 1 by omega) (.bool false) (.slice none 0 0) (.bool false) (.slice none 0 0))
 go_wp2_with fail
 obtain ⟨_, k0, k1, k2, k3, _, _, _, _⟩ := HQ.out.facts
 exact bodyPost_ret (by simp [results, Tryz.results36, go_sem, k0, k1, k2, k3]) rfl ⟨_, rfl, ZG.nought _ _, HB9.out⟩

theorem ref03_Square_fits {n d m f N D : Int} (C1 : MayG 105 (decide (n < 0)) (decide (d < 0)) (decide (m < 0)) (decide (f < 0)) (Za n.natAbs) (Za d.natAbs) (Za m.natAbs) (Za f.natAbs) true) (C2 : OpNI 128 n d m f N D) (hb : (decide (2048 < (Za N.natAbs).length) || decide (2048 < (Za D.natAbs).length)) = false) (w : World) (v_x : Value) (g_x : Zp w v_x n d m f)  :
   Calls Tryz.prog 36 #[v_x] w (RetFracIn2 w N D 0) := by
 obtain ⟨Ax1, cx1, Ax2, cx2, Ax3, cx3, Ax4, cx4, rfl, -⟩ := g_x.form
 have HLB := Hd hb
 clear hb
 have H1 := Hd C1
 have H2 := Hd C2
 clear C1 C2
 have G_x := Hd g_x
 clear g_x
 go_enter Tryz.func36, Tryz.ntmps36
 go_upto_region 1 with fail
 refine Yp (P := fun W => Code.wp _ _ _ _ W) fun W p0 p1 b0 => ?_
 have P_x := Hd (Z6.mk p0)
 have PR := Hd (Zo.mk p1)
 have HB := Hd b0
 clear b0 p0 p1
 obtain ⟨-, x0, x1, x2, x3, x4, x5, x6, x7⟩ := P_x.out.facts
 go_wp2_with fail
 refine (H1.out W _ (G_x.out.below HB.out).raw).mono ?_
 rintro e wx1 ⟨rfl, hb⟩
 clear x0 x1 x2 x3 x4 x5 x6 x7
 have P_x := Hd (P_x.out.below hb)
 have PR := Hd (PR.out.below hb)
 have HB := Hd (Zb HB.out hb)
 clear hb
 obtain ⟨-, x0, x1, x2, x3, x4, x5, x6, x7⟩ := P_x.out.facts
 go_wp2_with fail
 refine (H2.out wx1 _ (G_x.out.below HB.out)).mono ?_
 rintro e wx2 ⟨v, rfl, hI, hb⟩
 clear x0 x1 x2 x3 x4 x5 x6 x7
 have hi := hI
 obtain ⟨Ann1, cnn1, Ann2, cnn2, rfl, -⟩ := hI.form
 have ha := (Below.refl wx2.heap.size wx2).alloc (Nat.le_refl _) (.cells #[.bool (decide (N < 0)), .slice Ann1 (Za N.natAbs).length cnn1, .bool (decide (D < 0)), .slice Ann2 (Za D.natAbs).length cnn2] 26)
 have hq := Zo.new wx2 (.bool (decide (N < 0))) (.slice Ann1 (Za N.natAbs).length cnn1) (.bool (decide (D < 0))) (.slice Ann2 (Za D.natAbs).length cnn2)
 have hi := hi.below ha
 have P_x := Hd (P_x.out.below hb)
 have PR := Hd (PR.out.below hb)
 have HB := Hd (Zb HB.out hb)
 have P_x := Hd (P_x.out.below ha)
 have PR := Hd (PR.out.below ha)
 have HB := Hd (Zb HB.out ha)
 go_upto_region 4 with fail
 obtain ⟨wy2, E⟩ : ∃ W, W = wx2.alloc (.cells #[.bool (decide (N < 0)), .slice Ann1 (Za N.natAbs).length cnn1, .bool (decide (D < 0)), .slice Ann2 (Za D.natAbs).length cnn2] 26) := ⟨_, rfl⟩
 obtain ⟨b_nn, hbq⟩ : ∃ q, q = wx2.heap.size := ⟨_, rfl⟩
 rw [<- E] at hi P_x PR HB
 rw [<- E, <- hbq] at hq ⊢
 have P_nn := Hd hq
 have O_nn := Hd hi
 clear hI hi hb ha hq hbq E
 have l1 : (Za N.natAbs).length <= 9223372036854775807 := by have := O_nn.out.at_.raws.1.cap; have := O_nn.out.at_.raws.1.most; omega
 have l2 : (Za D.natAbs).length <= 9223372036854775807 := by have := O_nn.out.at_.raws.2.cap; have := O_nn.out.at_.raws.2.most; omega
 obtain ⟨-, a_nn0, a_nn1, a_nn2, a_nn3, -, -, -, -⟩ := P_nn.out.facts
 go_wp2_with fail
 refine (JO N D _ _ _ _ false l1 l2 HLB.out wy2 _ rfl).mono ?_
 rintro e wx9 ⟨rfl, hb⟩
 have hb := ((Below.refl wy2.heap.size wy2).alloc (Nat.le_refl _) (.cells #[.bool (decide (N < 0)), .slice Ann1 (Za N.natAbs).length cnn1, .bool (decide (D < 0)), .slice Ann2 (Za D.natAbs).length cnn2] 26)).trans (hb.mono (by simp))
 clear a_nn0 a_nn1 a_nn2 a_nn3
 have P_x := Hd (P_x.out.below hb)
 have P_nn := Hd (P_nn.out.below hb)
 have O_nn := Hd (O_nn.out.below hb)
 have PR := Hd (PR.out.below hb)
 have HB := Hd (Zb HB.out hb)
 clear hb l1 l2
 obtain ⟨-, a_nn0, a_nn1, a_nn2, a_nn3, -, -, -, -⟩ := P_nn.out.facts
 obtain ⟨l_r, r0, r1, r2, r3, f0, f1, f2, f3⟩ := PR.out.facts
 have HQ := Hd (PR.out.store (.bool (decide (N < 0))) (.slice Ann1 (Za N.natAbs).length cnn1) (.bool (decide (D < 0))) (.slice Ann2 (Za D.natAbs).length cnn2))
 have HB9 := Hd (Xj HB.out (show w.heap.size <= w.heap.size + 1 by omega) (.bool (decide (N < 0))) (.slice Ann1 (Za N.natAbs).length cnn1) (.bool (decide (D < 0))) (.slice Ann2 (Za D.natAbs).length cnn2))
 have HF := Hd (O_nn.out.quad PR.out (.bool (decide (N < 0))) (.slice Ann1 (Za N.natAbs).length cnn1) (.bool (decide (D < 0))) (.slice Ann2 (Za D.natAbs).length cnn2))
 go_wp2_with fail
 obtain ⟨_, k0, k1, k2, k3, _, _, _, _⟩ := HQ.out.facts
 exact bodyPost_ret (by simp [results, Tryz.results36, go_sem, k0, k1, k2, k3]) rfl ⟨_, rfl, HF.out, HB9.out⟩

theorem ref03_Square_long {n d m f N D : Int} (C1 : MayG 105 (decide (n < 0)) (decide (d < 0)) (decide (m < 0)) (decide (f < 0)) (Za n.natAbs) (Za d.natAbs) (Za m.natAbs) (Za f.natAbs) true) (C2 : OpNI 128 n d m f N D) (hb : (decide (2048 < (Za N.natAbs).length) || decide (2048 < (Za D.natAbs).length)) = true) (w : World) (v_x : Value) (g_x : Zp w v_x n d m f)  :
   Calls Tryz.prog 36 #[v_x] w (RetFracIn2 w 0 0 4) := by
 obtain ⟨Ax1, cx1, Ax2, cx2, Ax3, cx3, Ax4, cx4, rfl, -⟩ := g_x.form
 have HLB := Hd hb
 clear hb
 have H1 := Hd C1
 have H2 := Hd C2
 clear C1 C2
 have G_x := Hd g_x
 clear g_x
 go_enter Tryz.func36, Tryz.ntmps36
 go_upto_region 1 with fail
 refine Yp (P := fun W => Code.wp _ _ _ _ W) fun W p0 p1 b0 => ?_
 have P_x := Hd (Z6.mk p0)
 have PR := Hd (Zo.mk p1)
 have HB := Hd b0
 clear b0 p0 p1
 obtain ⟨-, x0, x1, x2, x3, x4, x5, x6, x7⟩ := P_x.out.facts
 go_wp2_with fail
 refine (H1.out W _ (G_x.out.below HB.out).raw).mono ?_
 rintro e wx1 ⟨rfl, hb⟩
 clear x0 x1 x2 x3 x4 x5 x6 x7
 have P_x := Hd (P_x.out.below hb)
 have PR := Hd (PR.out.below hb)
 have HB := Hd (Zb HB.out hb)
 clear hb
 obtain ⟨-, x0, x1, x2, x3, x4, x5, x6, x7⟩ := P_x.out.facts
 go_wp2_with fail
 refine (H2.out wx1 _ (G_x.out.below HB.out)).mono ?_
 rintro e wx2 ⟨v, rfl, hI, hb⟩
 clear x0 x1 x2 x3 x4 x5 x6 x7
 have hi := hI
 obtain ⟨Ann1, cnn1, Ann2, cnn2, rfl, -⟩ := hI.form
 have ha := (Below.refl wx2.heap.size wx2).alloc (Nat.le_refl _) (.cells #[.bool (decide (N < 0)), .slice Ann1 (Za N.natAbs).length cnn1, .bool (decide (D < 0)), .slice Ann2 (Za D.natAbs).length cnn2] 26)
 have hq := Zo.new wx2 (.bool (decide (N < 0))) (.slice Ann1 (Za N.natAbs).length cnn1) (.bool (decide (D < 0))) (.slice Ann2 (Za D.natAbs).length cnn2)
 have hi := hi.below ha
 have P_x := Hd (P_x.out.below hb)
 have PR := Hd (PR.out.below hb)
 have HB := Hd (Zb HB.out hb)
 have P_x := Hd (P_x.out.below ha)
 have PR := Hd (PR.out.below ha)
 have HB := Hd (Zb HB.out ha)
 go_upto_region 4 with fail
 obtain ⟨wy2, E⟩ : ∃ W, W = wx2.alloc (.cells #[.bool (decide (N < 0)), .slice Ann1 (Za N.natAbs).length cnn1, .bool (decide (D < 0)), .slice Ann2 (Za D.natAbs).length cnn2] 26) := ⟨_, rfl⟩
 obtain ⟨b_nn, hbq⟩ : ∃ q, q = wx2.heap.size := ⟨_, rfl⟩
 rw [<- E] at hi P_x PR HB
 rw [<- E, <- hbq] at hq ⊢
 have P_nn := Hd hq
 have O_nn := Hd hi
 clear hI hi hb ha hq hbq E
 have l1 : (Za N.natAbs).length <= 9223372036854775807 := by have := O_nn.out.at_.raws.1.cap; have := O_nn.out.at_.raws.1.most; omega
 have l2 : (Za D.natAbs).length <= 9223372036854775807 := by have := O_nn.out.at_.raws.2.cap; have := O_nn.out.at_.raws.2.most; omega
 obtain ⟨-, a_nn0, a_nn1, a_nn2, a_nn3, -, -, -, -⟩ := P_nn.out.facts
 go_wp2_with fail
 refine (JO N D _ _ _ _ true l1 l2 HLB.out wy2 _ rfl).mono ?_
 rintro e wx9 ⟨rfl, hb⟩
 have hb := ((Below.refl wy2.heap.size wy2).alloc (Nat.le_refl _) (.cells #[.bool (decide (N < 0)), .slice Ann1 (Za N.natAbs).length cnn1, .bool (decide (D < 0)), .slice Ann2 (Za D.natAbs).length cnn2] 26)).trans (hb.mono (by simp))
 clear a_nn0 a_nn1 a_nn2 a_nn3
 have P_x := Hd (P_x.out.below hb)
 have P_nn := Hd (P_nn.out.below hb)
 have O_nn := Hd (O_nn.out.below hb)
 have PR := Hd (PR.out.below hb)
 have HB := Hd (Zb HB.out hb)
 clear hb l1 l2
 obtain ⟨l_r, r0, r1, r2, r3, f0, f1, f2, f3⟩ := PR.out.facts
 have HQ := Hd (PR.out.store (.bool false) (.slice none 0 0) (.bool false) (.slice none 0 0))
 have HB9 := Hd (Xj HB.out (show w.heap.size <= w.heap.size + 1 by omega) (.bool false) (.slice none 0 0) (.bool false) (.slice none 0 0))
 go_wp2_with fail
 obtain ⟨_, k0, k1, k2, k3, _, _, _, _⟩ := HQ.out.facts
 exact bodyPost_ret (by simp [results, Tryz.results36, go_sem, k0, k1, k2, k3]) rfl ⟨_, rfl, ZG.nought _ _, HB9.out⟩

theorem ref03_Mirrored_bad {n1 n2 n3 n4 : Bool} {xs ys us vs : List Nat} (C1 : MayG 105 n1 n2 n3 n4 xs ys us vs false) (w : World) (v_x : Value) (g_x : ZI w v_x n1 n2 n3 n4 xs ys us vs)  :
   Calls Tryz.prog 35 #[v_x] w (YQ w 0 0 0 0 1) := by
 obtain ⟨Ax1, cx1, Ax2, cx2, Ax3, cx3, Ax4, cx4, rfl, -⟩ := g_x.form
 have H1 := Hd C1
 clear C1
 have G_x := Hd g_x
 clear g_x
 go_enter Tryz.func35, Tryz.ntmps35
 go_upto_region 1 with fail
 refine Yp (P := fun W => Code.wp _ _ _ _ W) fun W p0 p1 b0 => ?_
 have P_x := Hd (Z6.mk p0)
 have PR := Hd (Z6.mk p1)
 have HB := Hd b0
 clear b0 p0 p1
 obtain ⟨-, x0, x1, x2, x3, x4, x5, x6, x7⟩ := P_x.out.facts
 go_wp2_with fail
 refine (H1.out W _ (G_x.out.below HB.out)).mono ?_
 rintro e wx1 ⟨rfl, hb⟩
 clear x0 x1 x2 x3 x4 x5 x6 x7
 have P_x := Hd (P_x.out.below hb)
 have PR := Hd (PR.out.below hb)
 have HB := Hd (Zb HB.out hb)
 clear hb
 obtain ⟨l_r, r0, r1, r2, r3, r4, r5, r6, r7⟩ := PR.out.facts
 obtain ⟨f0, f1, f2, f3, f4, f5, f6, f7⟩ := PR.out.free
 have HQ := Hd (gzero PR.out HB.out (show w.heap.size <= w.heap.size + 1 by omega))
 go_wp2_with fail
 obtain ⟨_, k0, k1, k2, k3, k4, k5, k6, k7⟩ := HQ.out.1.facts
 exact bodyPost_ret (by simp [results, Tryz.results35, go_sem, k0, k1, k2, k3, k4, k5, k6, k7]) rfl ⟨_, rfl, (Zv.nought _ 0).in_, HQ.out.2⟩

theorem ref03_Mirrored {n d m f T1 T2 T3 T4 N D M E k : Int} (C1 : MayG 105 (decide (n < 0)) (decide (d < 0)) (decide (m < 0)) (decide (f < 0)) (Za n.natAbs) (Za d.natAbs) (Za m.natAbs) (Za f.natAbs) true) (C3 : OpGI1 127 n d m f T1 T2 T3 T4) (C4 : AnsIG T1 T2 T3 T4 N D M E k) (w : World) (v_x : Value) (g_x : Zp w v_x n d m f)  :
   Calls Tryz.prog 35 #[v_x] w (YQ w N D M E k) := by
 obtain ⟨Ax1, cx1, Ax2, cx2, Ax3, cx3, Ax4, cx4, rfl, -⟩ := g_x.form
 have H1 := Hd C1
 have H3 := Hd C3
 have H4 := Hd C4
 clear C1 C3 C4
 have G_x := Hd g_x
 clear g_x
 go_enter Tryz.func35, Tryz.ntmps35
 go_upto_region 1 with fail
 refine Yp (P := fun W => Code.wp _ _ _ _ W) fun W p0 p1 b0 => ?_
 have P_x := Hd (Z6.mk p0)
 have PR := Hd (Z6.mk p1)
 have HB := Hd b0
 clear b0 p0 p1
 obtain ⟨-, x0, x1, x2, x3, x4, x5, x6, x7⟩ := P_x.out.facts
 go_wp2_with fail
 refine (H1.out W _ (G_x.out.below HB.out).raw).mono ?_
 rintro e wx1 ⟨rfl, hb⟩
 clear x0 x1 x2 x3 x4 x5 x6 x7
 have P_x := Hd (P_x.out.below hb)
 have PR := Hd (PR.out.below hb)
 have HB := Hd (Zb HB.out hb)
 clear hb
 obtain ⟨-, x0, x1, x2, x3, x4, x5, x6, x7⟩ := P_x.out.facts
 go_wp2_with fail
 refine (H3.out wx1 _ (G_x.out.below HB.out)).mono ?_
 rintro e wt ⟨v, rfl, hI, hb⟩
 clear x0 x1 x2 x3 x4 x5 x6 x7
 have HI0 := Hd hI
 have P_x := Hd (P_x.out.below hb)
 have PR := Hd (PR.out.below hb)
 have HB := Hd (Zb HB.out hb)
 clear hI hb
 go_wp2_with fail
 refine (H4.out wt _ HI0.out).mono ?_
 rintro e w9 ⟨v, rfl, hI, hb⟩
 obtain ⟨A6, c6, A7, c7, A8, c8, A9, c9, rfl, -⟩ := hI.form
 have pr := PR.out.below hb
 have hb9 := Zb HB.out hb
 obtain ⟨l_r, r0, r1, r2, r3, r4, r5, r6, r7⟩ := pr.facts
 obtain ⟨f0, f1, f2, f3, f4, f5, f6, f7⟩ := pr.free
 have H9 := Hd (istore hI pr hb9 (show w.heap.size <= w.heap.size + 1 by omega) (by decide))
 clear hb hb9 pr hI
 go_wp2_with fail
 obtain ⟨_, k0, k1, k2, k3, k4, k5, k6, k7⟩ := H9.out.1.facts
 exact bodyPost_ret (by simp [results, Tryz.results35, go_sem, k0, k1, k2, k3, k4, k5, k6, k7]) rfl ⟨_, rfl, H9.out.2.2, H9.out.2.1⟩
/- Conj and Norm: both sides' answers, of whatever comes in. -/

theorem conj_spec (n1 n2 n3 n4 : Bool) (xs ys us vs : List Nat) (hx1 : Zk xs) (hx2 : Zk ys) (hx3 : Zk us) (hx4 : Zk vs) : ∃ N D M E k, (lz N <= 2048 /\ lz D <= 2048 /\ lz M <= 2048 /\ lz E <= 2048) /\
   (∀ (V : World) (v : Value), ZI V v n1 n2 n3 n4 xs ys us vs -> Calls Tryz.prog 32 #[v] V (ZS V.heap.size V N D M E k)) /\
   (∀ (V : World) (v : Value), ZI V v n1 n2 n3 n4 xs ys us vs -> Calls Tryz.prog 35 #[v] V (YQ V N D M E k)) := by
 have mx := may_raw n1 n2 n3 n4 xs ys us vs
 have rx := ref03_May n1 n2 n3 n4 xs ys us vs
 rcases may_cases (n1 := n1) (n2 := n2) (n3 := n3) (n4 := n4) hx1 hx2 hx3 hx4 with h | ⟨n, d, m, f, f1, f2, e1, e2, e3, e4, e5, e6, e7, e8⟩
 . rw [h] at mx rx
   exact ⟨0, 0, 0, 0, 1, by decide +kernel, fun V v g => gauss_Conj (fun V v1 v2 g1 g2 => both_bad_x mx V v1 v2 g1 g2) V v g, fun V v g => ref03_Mirrored_bad rx V v g⟩
 . subst e1 e2 e3 e4 e5 e6 e7 e8
   rw [may_true f1 f2] at mx rx
   have x := GIs.of f1 f2
   have up : ∀ {q : Rat} {l : Nat}, Sz q 2048 -> 2048 <= l -> Sz q l := fun h k => h.mono k
   obtain ⟨N, D, M, E, k, hz, h3, h4⟩ := ans_g n d (-m) f
   exact ⟨N, D, M, E, k, hz, fun V v g => gauss_Conj (fun V v1 v2 g1 g2 => both_Conj mx mx (conj_clos (conj_g x.re x.im (up x.sz.1 (by omega)) (up x.sz.2 (by omega)))) h3 V v1 v2 ⟨g1.form⟩ ⟨g2.form⟩) V v g,
     fun V v g => ref03_Mirrored rx (conj_gi x.re x.im (up x.sz.1 (by omega)) (up x.sz.2 (by omega))) h4 V v ⟨g.form⟩⟩
theorem norm_spec (n1 n2 n3 n4 : Bool) (xs ys us vs : List Nat) (hx1 : Zk xs) (hx2 : Zk ys) (hx3 : Zk us) (hx4 : Zk vs) : ∃ N D k, (lz N <= 2048 /\ lz D <= 2048) /\
   (∀ (V : World) (v : Value), ZI V v n1 n2 n3 n4 xs ys us vs -> Calls Tryz.prog 33 #[v] V (XX V.heap.size V N D k)) /\
   (∀ (V : World) (v : Value), ZI V v n1 n2 n3 n4 xs ys us vs -> Calls Tryz.prog 36 #[v] V (RetFracIn2 V N D k)) := by
 have mx := may_raw n1 n2 n3 n4 xs ys us vs
 have rx := ref03_May n1 n2 n3 n4 xs ys us vs
 rcases may_cases (n1 := n1) (n2 := n2) (n3 := n3) (n4 := n4) hx1 hx2 hx3 hx4 with h | ⟨n, d, m, f, f1, f2, e1, e2, e3, e4, e5, e6, e7, e8⟩
 . rw [h] at mx rx
   exact ⟨0, 0, 1, by decide +kernel, fun V v g => gauss_Norm_bad mx V v g, fun V v g => ref03_Square_bad rx V v g⟩
 . subst e1 e2 e3 e4 e5 e6 e7 e8
   rw [may_true f1 f2] at mx rx
   have x := GIs.of f1 f2
   generalize Rat.divInt n d = a at x
   generalize Rat.divInt m f = b at x
   have up : ∀ {q : Rat} {l : Nat}, Sz q 2048 -> 2048 <= l -> Sz q l := fun h k => h.mono k
   have h1 := Is.of (a * a + b * b)
   have C := norm_g x.re x.im (up x.sz.1 (by omega)) (up x.sz.2 (by omega)) h1
   have C2 := norm_gi x.re x.im (up x.sz.1 (by omega)) (up x.sz.2 (by omega)) h1
   obtain ⟨N, hN⟩ : ∃ k : Int, k = (a * a + b * b).num := ⟨_, rfl⟩
   obtain ⟨D, hD⟩ : ∃ k : Int, k = ((a * a + b * b).den : Int) := ⟨_, rfl⟩
   rw [<- hN, <- hD] at C C2
   by_cases hl : lz N <= 2048 /\ lz D <= 2048
   . have hb : (decide (2048 < (Za N.natAbs).length) || decide (2048 < (Za D.natAbs).length)) = false := by
       unfold lz at hl
       rw [decide_eq_false (by omega), decide_eq_false (by omega)]
       rfl
     exact ⟨N, D, 0, hl, fun V v g => gauss_Norm_fits mx C hb V v ⟨g.form⟩, fun V v g => ref03_Square_fits rx C2 hb V v ⟨g.form⟩⟩
   . have hb : (decide (2048 < (Za N.natAbs).length) || decide (2048 < (Za D.natAbs).length)) = true := by
       unfold lz at hl
       simp only [Bool.or_eq_true, decide_eq_true_eq]
       omega
     exact ⟨0, 0, 4, by decide +kernel, fun V v g => gauss_Norm_long mx C hb V v ⟨g.form⟩, fun V v g => ref03_Square_long rx C2 hb V v ⟨g.form⟩⟩
/- Small and Of: numbers of two small parts. (Written by wip/gauss/genofs.py.) -/

theorem low_int (z : Int) : YA z 1 = z /\ Yu z 1 = 1 := by
 have h1 := is_low z (d := 1) (by decide)
 have h2 := is_of (n := z) (d := 1) (by decide) (by unfold ZV; simp)
 exact h1.uniq h2
abbrev Of2 (F : FuncId) (z0 z1 o : Int) : Prop := ∀ V : World, Calls Tryz.prog F #[.int .i64 z0, .int .i64 z1] V (ZQ V.heap.size V z0 o z1 o)
abbrev Of2I (F : FuncId) (z0 z1 o : Int) : Prop := ∀ V : World, Calls Tryz.prog F #[.int .i64 z0, .int .i64 z1] V (XO V z0 o z1 o)
abbrev OfR (F : FuncId) (z o : Int) : Prop := ∀ V : World, Calls Tryz.prog F #[.int .i64 z, .int .i64 1] V (ZL V.heap.size V z o)
abbrev OfI (F : FuncId) (z o : Int) : Prop := ∀ V : World, Calls Tryz.prog F #[.int .i64 z, .int .i64 1] V (Yk V z o)

theorem argand_Small {z0 z1 o : Int} (C1 : OfR 156 z0 o) (C2 : OfR 156 z1 o) (w : World)   :
   Calls Tryz.prog 53 #[.int .i64 z0, .int .i64 z1] w (ZQ w.heap.size w z0 o z1 o) := by
 have H1 := Hd C1
 have H2 := Hd C2
 clear C1 C2
 go_enter Tryz.func53, Tryz.ntmps53
 go_upto_region 1 with fail
 refine XF (P := fun W => Code.wp _ _ _ _ W) fun W p0 b0 => ?_
 have PR := Hd (Z6.mk p0)
 have HB := Hd b0
 clear b0 p0
 go_wp2_with fail
 refine (H1.out W).mono ?_
 rintro e wx1 ⟨v, rfl, hI, hb⟩
 obtain ⟨A6, c6, A7, c7, rfl, -⟩ := hI.form
 have I1 := Hd (hI.base HB.out.size)
 have M1 := Hd (show ∀ g, Yl (.agg #[.bool (decide (z0 < 0)), .slice A6 (Za z0.natAbs).length c6, .bool (decide (o < 0)), .slice A7 (Za o.natAbs).length c7]) g -> g < wx1.heap.size from fun g hg => (hI.mine g hg).2)
 clear hI
 have PR := Hd (PR.out.below hb)
 have HB := Hd (Zb HB.out hb)
 clear hb
 go_wp2_with fail
 refine (H2.out wx1).mono ?_
 rintro e wx2 ⟨v, rfl, hI, hb⟩
 obtain ⟨A8, c8, A9, c9, rfl, -⟩ := hI.form
 have I2 := Hd (hI.base HB.out.size)
 have AP := Hd (show ∀ g, Yl (.agg #[.bool (decide (z0 < 0)), .slice A6 (Za z0.natAbs).length c6, .bool (decide (o < 0)), .slice A7 (Za o.natAbs).length c7]) g -> ¬ Yl (.agg #[.bool (decide (z1 < 0)), .slice A8 (Za z1.natAbs).length c8, .bool (decide (o < 0)), .slice A9 (Za o.natAbs).length c9]) g from fun g hg hg2 => by have a := M1.out g hg; have b := (hI.mine g hg2).1; omega)
 clear hI
 have PR := Hd (PR.out.below hb)
 have I1 := Hd (I1.out.below hb)
 have HB := Hd (Zb HB.out hb)
 clear hb
 obtain ⟨l_r, r0, r1, r2, r3, r4, r5, r6, r7⟩ := PR.out.facts
 obtain ⟨f0, f1, f2, f3, f4, f5, f6, f7⟩ := PR.out.free
 have HQ := Hd (PR.out.store (.bool (decide (z0 < 0))) (.slice A6 (Za z0.natAbs).length c6) (.bool (decide (o < 0))) (.slice A7 (Za o.natAbs).length c7) (.bool (decide (z1 < 0))) (.slice A8 (Za z1.natAbs).length c8) (.bool (decide (o < 0))) (.slice A9 (Za o.natAbs).length c9))
 have HB9 := Hd (below8 HB.out (show w.heap.size <= w.heap.size by omega) (.bool (decide (z0 < 0))) (.slice A6 (Za z0.natAbs).length c6) (.bool (decide (o < 0))) (.slice A7 (Za o.natAbs).length c7) (.bool (decide (z1 < 0))) (.slice A8 (Za z1.natAbs).length c8) (.bool (decide (o < 0))) (.slice A9 (Za o.natAbs).length c9))
 have HF := Hd ((show Zv wx2 w.heap.size (.agg #[.bool (decide (z0 < 0)), .slice A6 (Za z0.natAbs).length c6, .bool (decide (o < 0)), .slice A7 (Za o.natAbs).length c7, .bool (decide (z1 < 0)), .slice A8 (Za z1.natAbs).length c8, .bool (decide (o < 0)), .slice A9 (Za o.natAbs).length c9]) z0 o z1 o from ⟨_, _, _, _, _, _, _, _, rfl, I1.out, I2.out, AP.out⟩).oct PR.out (by decide) (.bool (decide (z0 < 0))) (.slice A6 (Za z0.natAbs).length c6) (.bool (decide (o < 0))) (.slice A7 (Za o.natAbs).length c7) (.bool (decide (z1 < 0))) (.slice A8 (Za z1.natAbs).length c8) (.bool (decide (o < 0))) (.slice A9 (Za o.natAbs).length c9))
 go_wp2_with fail
 obtain ⟨_, k0, k1, k2, k3, k4, k5, k6, k7⟩ := HQ.out.facts
 exact bodyPost_ret (by simp [results, Tryz.results53, go_sem, k0, k1, k2, k3, k4, k5, k6, k7]) rfl ⟨_, rfl, HF.out, HB9.out⟩

theorem gauss_Of {N D M E z0 z1 : Int} (C1 : ∀ V : World, Calls Tryz.prog 53 #[.int .i64 z0, .int .i64 z1] V (ZQ V.heap.size V N D M E)) (w : World)   :
   Calls Tryz.prog 11 #[.int .i64 z0, .int .i64 z1] w (ZQ w.heap.size w N D M E) := by
 have H1 := Hd C1
 clear C1
 go_enter Tryz.func11, Tryz.ntmps11
 go_upto_region 1 with fail
 refine XF (P := fun W => Code.wp _ _ _ _ W) fun W p0 b0 => ?_
 have PR := Hd (Z6.mk p0)
 have HB := Hd b0
 clear b0 p0
 go_wp2_with fail
 refine (H1.out W).mono ?_
 rintro e w9 ⟨v, rfl, hI, hb⟩
 obtain ⟨A6, c6, A7, c7, A8, c8, A9, c9, rfl, -⟩ := hI.form
 have pr := PR.out.below hb
 have hb9 := Zb HB.out hb
 obtain ⟨l_r, r0, r1, r2, r3, r4, r5, r6, r7⟩ := pr.facts
 obtain ⟨f0, f1, f2, f3, f4, f5, f6, f7⟩ := pr.free
 have H9 := Hd (JD hI pr hb9 (show w.heap.size <= w.heap.size by omega) (by decide))
 clear hb hb9 pr hI
 go_wp2_with fail
 obtain ⟨_, k0, k1, k2, k3, k4, k5, k6, k7⟩ := H9.out.1.facts
 exact bodyPost_ret (by simp [results, Tryz.results11, go_sem, k0, k1, k2, k3, k4, k5, k6, k7]) rfl ⟨_, rfl, H9.out.2.2.base HB.out.size, H9.out.2.1⟩

section
variable {z0 z1 : Int} (o : Int) (ho : o = 1) (h1 : -9223372036854775808 <= z0) (h2 : z0 <= 9223372036854775807) (h3 : -9223372036854775808 <= z1) (h4 : z1 <= 9223372036854775807)
include ho h1 h2 h3 h4
theorem of_g : Of2 11 z0 z1 o := by
 subst ho
 have C1 : OfR 156 z0 1 := fun V => by have k := small_own (n := z0) (d := 1) h1 h2 (by decide) (by decide) (by decide) V; rw [(low_int z0).1, (low_int z0).2] at k; exact k
 have C2 : OfR 156 z1 1 := fun V => by have k := small_own (n := z1) (d := 1) h3 h4 (by decide) (by decide) (by decide) V; rw [(low_int z1).1, (low_int z1).2] at k; exact k
 exact gauss_Of (argand_Small C1 C2)
end
theorem gis_int (z0 z1 : Int) (h1 : -9223372036854775808 <= z0) (h2 : z0 <= 9223372036854775807) (h3 : -9223372036854775808 <= z1) (h4 : z1 <= 9223372036854775807) : GIs (z0 : Rat) (z1 : Rat) z0 1 z1 1 :=
 GIs.mk_ (JC z0) (JC z1) (Nat.le_trans (lz_i64 h1 h2) (by decide)) (by decide +kernel) (Nat.le_trans (lz_i64 h3 h4) (by decide)) (by decide +kernel)
end Go.Proofs.YthlehkjcfhnplaaGreatDoor
