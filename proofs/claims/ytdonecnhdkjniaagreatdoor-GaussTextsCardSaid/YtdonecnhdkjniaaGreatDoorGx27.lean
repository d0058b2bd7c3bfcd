/- Several texts in one: Ref03b, Reck, GaussC, Parts, PartsLaw. -/
import Derived.Test.YtdonecnhdkjniaaGreatDoorGx26
set_option maxRecDepth 100000
set_option maxHeartbeats 8000000
namespace Go.Proofs.YtdonecnhdkjniaaGreatDoor
open Go.RowKit

abbrev AnsIG (n d m f N D M E k : Int) : Prop := ∀ (V : World) (v : Value), ZV V v n d m f -> Calls Tryz.prog 34 #[v] V (Y6 V N D M E k)

theorem ref03_May_g {n1 n2 n3 n4 : Bool} {xs ys us vs : List Nat} {b : Bool} (hc : (XC n1 n2 xs ys == 0 && XC n3 n4 us vs == 0) = b) (w : World) (v_x : Value) (g_x : ZR w v_x n1 n2 n3 n4 xs ys us vs)  :
  Calls Tryz.prog 31 #[v_x] w fun e w' => e = .returned (.bool b) /\ Below w.heap.size w w' := by
 obtain ⟨Ax1, cx1, Ax2, cx2, Ax3, cx3, Ax4, cx4, rfl, -⟩ := g_x.form
 have D1 := fun (V : World) (g' : Nat) (a1 : Zm V Ax1 cx1 xs) (a2 : Zm V Ax2 cx2 ys) (a3 : Zm V Ax3 cx3 us) (a4 : Zm V Ax4 cx4 vs) (hg : V.heap.size = g') => rchecks_two n1 n2 n3 n4 Ax1 Ax2 Ax3 Ax4 cx1 cx2 cx3 cx4 xs ys us vs V g' a1 a2 a3 a4 hg
 rw [hc] at D1
 have H1 := Hd D1
 clear D1 hc
 have G_x := Hd g_x
 clear g_x
 go_enter Tryz.func31, Tryz.ntmps31
 go_upto_region 1 with fail
 refine Zp (P := fun W => Code.wp _ _ _ _ W) fun W p0 b0 => ?_
 have P_x := Hd (Yl.mk p0)
 have HB := Hd b0
 clear b0 p0
 obtain ⟨-, x0, x1, x2, x3, x4, x5, x6, x7⟩ := P_x.out.facts
 go_wp2_with fail
 obtain ⟨s1, s2, s3, s4⟩ := (G_x.out.below HB.out).raws
 refine (H1.out W _ s1 s2 s3 s4 rfl).mono ?_
 rintro e w9 ⟨rfl, hb⟩
 have HB9 := Hd (Zb (HB.out.alloc HB.out.size (.cells #[.bool n1, .slice Ax1 xs.length cx1, .bool n2, .slice Ax2 ys.length cx2, .bool n3, .slice Ax3 us.length cx3, .bool n4, .slice Ax4 vs.length cx4] 26)) hb)
 clear x0 x1 x2 x3 x4 x5 x6 x7
 clear hb s1 s2 s3 s4
 go_wp2_with fail
 go_ret
 exact ⟨rfl, HB9.out⟩

theorem ref03_May (n1 n2 n3 n4 : Bool) (xs ys us vs : List Nat) : MayG 31 n1 n2 n3 n4 xs ys us vs (XC n1 n2 xs ys == 0 && XC n3 n4 us vs == 0) := by
 intro V v g1
 exact ref03_May_g rfl V v g1

theorem ref03_Answer_fits {n d m f : Int} (hb : ((decide (2048 < (Za n.natAbs).length) || decide (2048 < (Za d.natAbs).length)) || (decide (2048 < (Za m.natAbs).length) || decide (2048 < (Za f.natAbs).length))) = false) (w : World) (v_x : Value) (g_x : Zq w v_x n d m f) (o_x : ZV w v_x n d m f) :
  Calls Tryz.prog 34 #[v_x] w (Y6 w n d m f 0) := by
 obtain ⟨Ax1, cx1, Ax2, cx2, Ax3, cx3, Ax4, cx4, rfl, -⟩ := g_x.form
 have l1 : (Za n.natAbs).length <= 9223372036854775807 := by have := g_x.raws.1.cap; have := g_x.raws.1.most; omega
 have l2 : (Za d.natAbs).length <= 9223372036854775807 := by have := g_x.raws.2.1.cap; have := g_x.raws.2.1.most; omega
 have l3 : (Za m.natAbs).length <= 9223372036854775807 := by have := g_x.raws.2.2.1.cap; have := g_x.raws.2.2.1.most; omega
 have l4 : (Za f.natAbs).length <= 9223372036854775807 := by have := g_x.raws.2.2.2.cap; have := g_x.raws.2.2.2.most; omega
 have H1 := Hd (fun (V : World) (g' : Nat) (hg : V.heap.size = g') => Kh n d m f Ax1 Ax2 Ax3 Ax4 cx1 cx2 cx3 cx4 false l1 l2 l3 l4 hb V g' hg)
 have OX := Hd o_x
 clear l1 l2 l3 l4 o_x hb
 have G_x := Hd g_x
 clear g_x
 go_enter Tryz.func34, Tryz.ntmps34
 go_upto_region 1 with fail
 refine boxes2 (P := fun W => Code.wp _ _ _ _ W) fun W p0 p1 b0 => ?_
 have P_x := Hd (Yl.mk p0)
 have PR := Hd (Yl.mk p1)
 have HB := Hd b0
 clear b0 p0 p1
 have OX := Hd (OX.out.below HB.out)
 obtain ⟨-, x0, x1, x2, x3, x4, x5, x6, x7⟩ := P_x.out.facts
 go_wp2_with fail
 refine (H1.out W _ rfl).mono ?_
 rintro e wx1 ⟨rfl, hb⟩
 have hb := ((Below.refl W.heap.size W).alloc (Nat.le_refl _) (.cells #[.bool (decide (n < 0)), .slice Ax1 (Za n.natAbs).length cx1, .bool (decide (d < 0)), .slice Ax2 (Za d.natAbs).length cx2, .bool (decide (m < 0)), .slice Ax3 (Za m.natAbs).length cx3, .bool (decide (f < 0)), .slice Ax4 (Za f.natAbs).length cx4] 26)).trans (hb.mono (by simp))
 clear x0 x1 x2 x3 x4 x5 x6 x7
 have P_x := Hd (P_x.out.below hb)
 have PR := Hd (PR.out.below hb)
 have OX := Hd (OX.out.below hb)
 have HB := Hd (Zb HB.out hb)
 clear hb
 obtain ⟨-, x0, x1, x2, x3, x4, x5, x6, x7⟩ := P_x.out.facts
 obtain ⟨l_r, r0, r1, r2, r3, r4, r5, r6, r7⟩ := PR.out.facts
 obtain ⟨f0, f1, f2, f3, f4, f5, f6, f7⟩ := PR.out.free
 have HQ := Hd (PR.out.store (.bool (decide (n < 0))) (.slice Ax1 (Za n.natAbs).length cx1) (.bool (decide (d < 0))) (.slice Ax2 (Za d.natAbs).length cx2) (.bool (decide (m < 0))) (.slice Ax3 (Za m.natAbs).length cx3) (.bool (decide (f < 0))) (.slice Ax4 (Za f.natAbs).length cx4))
 have HB9 := Hd (below8 HB.out (show w.heap.size <= w.heap.size + 1 by omega) (.bool (decide (n < 0))) (.slice Ax1 (Za n.natAbs).length cx1) (.bool (decide (d < 0))) (.slice Ax2 (Za d.natAbs).length cx2) (.bool (decide (m < 0))) (.slice Ax3 (Za m.natAbs).length cx3) (.bool (decide (f < 0))) (.slice Ax4 (Za f.natAbs).length cx4))
 have HF := Hd (OX.out.oct PR.out (by decide) (.bool (decide (n < 0))) (.slice Ax1 (Za n.natAbs).length cx1) (.bool (decide (d < 0))) (.slice Ax2 (Za d.natAbs).length cx2) (.bool (decide (m < 0))) (.slice Ax3 (Za m.natAbs).length cx3) (.bool (decide (f < 0))) (.slice Ax4 (Za f.natAbs).length cx4))
 go_wp2_with fail
 obtain ⟨_, k0, k1, k2, k3, k4, k5, k6, k7⟩ := HQ.out.facts
 exact bodyPost_ret (by simp [results, Tryz.results34, go_sem, k0, k1, k2, k3, k4, k5, k6, k7]) rfl ⟨_, rfl, HF.out, HB9.out⟩

theorem ref03_Answer_long {n d m f : Int} (hb : ((decide (2048 < (Za n.natAbs).length) || decide (2048 < (Za d.natAbs).length)) || (decide (2048 < (Za m.natAbs).length) || decide (2048 < (Za f.natAbs).length))) = true) (w : World) (v_x : Value) (g_x : Zq w v_x n d m f) (o_x : ZV w v_x n d m f) :
  Calls Tryz.prog 34 #[v_x] w (Y6 w 0 0 0 0 4) := by
 obtain ⟨Ax1, cx1, Ax2, cx2, Ax3, cx3, Ax4, cx4, rfl, -⟩ := g_x.form
 have l1 : (Za n.natAbs).length <= 9223372036854775807 := by have := g_x.raws.1.cap; have := g_x.raws.1.most; omega
 have l2 : (Za d.natAbs).length <= 9223372036854775807 := by have := g_x.raws.2.1.cap; have := g_x.raws.2.1.most; omega
 have l3 : (Za m.natAbs).length <= 9223372036854775807 := by have := g_x.raws.2.2.1.cap; have := g_x.raws.2.2.1.most; omega
 have l4 : (Za f.natAbs).length <= 9223372036854775807 := by have := g_x.raws.2.2.2.cap; have := g_x.raws.2.2.2.most; omega
 have H1 := Hd (fun (V : World) (g' : Nat) (hg : V.heap.size = g') => Kh n d m f Ax1 Ax2 Ax3 Ax4 cx1 cx2 cx3 cx4 true l1 l2 l3 l4 hb V g' hg)
 have OX := Hd o_x
 clear l1 l2 l3 l4 o_x hb
 have G_x := Hd g_x
 clear g_x
 go_enter Tryz.func34, Tryz.ntmps34
 go_upto_region 1 with fail
 refine boxes2 (P := fun W => Code.wp _ _ _ _ W) fun W p0 p1 b0 => ?_
 have P_x := Hd (Yl.mk p0)
 have PR := Hd (Yl.mk p1)
 have HB := Hd b0
 clear b0 p0 p1
 have OX := Hd (OX.out.below HB.out)
 obtain ⟨-, x0, x1, x2, x3, x4, x5, x6, x7⟩ := P_x.out.facts
 go_wp2_with fail
 refine (H1.out W _ rfl).mono ?_
 rintro e wx1 ⟨rfl, hb⟩
 have hb := ((Below.refl W.heap.size W).alloc (Nat.le_refl _) (.cells #[.bool (decide (n < 0)), .slice Ax1 (Za n.natAbs).length cx1, .bool (decide (d < 0)), .slice Ax2 (Za d.natAbs).length cx2, .bool (decide (m < 0)), .slice Ax3 (Za m.natAbs).length cx3, .bool (decide (f < 0)), .slice Ax4 (Za f.natAbs).length cx4] 26)).trans (hb.mono (by simp))
 clear x0 x1 x2 x3 x4 x5 x6 x7
 have P_x := Hd (P_x.out.below hb)
 have PR := Hd (PR.out.below hb)
 have OX := Hd (OX.out.below hb)
 have HB := Hd (Zb HB.out hb)
 clear hb
 obtain ⟨l_r, r0, r1, r2, r3, r4, r5, r6, r7⟩ := PR.out.facts
 obtain ⟨f0, f1, f2, f3, f4, f5, f6, f7⟩ := PR.out.free
 have HQ := Hd (gzero PR.out HB.out (show w.heap.size <= w.heap.size + 1 by omega))
 go_wp2_with fail
 obtain ⟨_, k0, k1, k2, k3, k4, k5, k6, k7⟩ := HQ.out.1.facts
 exact bodyPost_ret (by simp [results, Tryz.results34, go_sem, k0, k1, k2, k3, k4, k5, k6, k7]) rfl ⟨_, rfl, (Zo.nought _ 0).in_, HQ.out.2⟩


theorem ansG_of {n d m f : Int} (b : Bool) (h : ((decide (2048 < (Za n.natAbs).length) || decide (2048 < (Za d.natAbs).length)) || (decide (2048 < (Za m.natAbs).length) || decide (2048 < (Za f.natAbs).length))) = b) : AnsG 109 n d m f (if b then 4 else 0) := by
 intro V g v A1 A2 A3 A4 c1 c2 c3 c4 hg _ l1 l2 l3 l4
 rw [show V.heap.size + 1 = (V.alloc (.cells #[.bool (decide (n < 0)), .slice A1 (Za n.natAbs).length c1, .bool (decide (d < 0)), .slice A2 (Za d.natAbs).length c2, .bool (decide (m < 0)), .slice A3 (Za m.natAbs).length c3, .bool (decide (f < 0)), .slice A4 (Za f.natAbs).length c4] 28)).heap.size by simp]
 cases b with
 | true => exact argand_Answer_true n d m f A1 A2 A3 A4 c1 c2 c3 c4 l1 l2 l3 l4 h _ g (by subst hg; exact Yl.new _ _ _ _ _ _ _ _ _ _)
 | false => exact argand_Answer_false n d m f A1 A2 A3 A4 c1 c2 c3 c4 l1 l2 l3 l4 h _ g (by subst hg; exact Yl.new _ _ _ _ _ _ _ _ _ _)
theorem may_true {n d m f : Int} (f1 : Fine n d) (f2 : Fine m f) : (XC (decide (n < 0)) (decide (d < 0)) (Za n.natAbs) (Za d.natAbs) == 0 && XC (decide (m < 0)) (decide (f < 0)) (Za m.natAbs) (Za f.natAbs) == 0) = true := by
 rw [f1.chk, f2.chk]; rfl
theorem may_cases {n1 n2 n3 n4 : Bool} {xs ys us vs : List Nat} (h1 : Zj xs) (h2 : Zj ys) (h3 : Zj us) (h4 : Zj vs) :
  (XC n1 n2 xs ys == 0 && XC n3 n4 us vs == 0) = false ∨ ∃ n d m f, Fine n d /\ Fine m f /\ n1 = decide (n < 0) /\ n2 = decide (d < 0) /\ xs = Za n.natAbs /\ ys = Za d.natAbs /\ n3 = decide (m < 0) /\ n4 = decide (f < 0) /\ us = Za m.natAbs /\ vs = Za f.natAbs := by
 cases hc : (XC n1 n2 xs ys == 0 && XC n3 n4 us vs == 0) with
 | false => exact .inl rfl
 | true =>
  rw [Bool.and_eq_true] at hc
  obtain ⟨n, d, f1, a1, a2, a3, a4⟩ := fine_of h1 h2 (by simpa using hc.1)
  obtain ⟨m, f, f2, b1, b2, b3, b4⟩ := fine_of h3 h4 (by simpa using hc.2)
  exact .inr ⟨n, d, m, f, f1, f2, a1, a2, a3, a4, b1, b2, b3, b4⟩
theorem nought_g {p q r s : Int} {c e : Rat} (i3 : Is c p q) (i4 : Is e r s) (b : Bool) (hb : decide (p = 0 /\ r = 0) = b) : NoughtG 156 p q r s b := by
 intro V v g1
 by_cases h1 : p = 0
 . by_cases h2 : r = 0
   . rw [decide_eq_true ⟨h1, h2⟩] at hb
     subst hb
     exact argand_Nought_yes (sgn_r i3) (Ys p true (decide_eq_true h1)) (sgn_r i4) (Ys r true (decide_eq_true h2)) V v g1
   . rw [decide_eq_false (fun h => h2 h.2)] at hb
     subst hb
     exact argand_Nought_im (sgn_r i3) (Ys p true (decide_eq_true h1)) (sgn_r i4) (Ys r false (decide_eq_false h2)) V v g1
 . rw [decide_eq_false (fun h => h1 h.1)] at hb
   subst hb
   exact argand_Nought_re (sgn_r i3) (Ys p false (decide_eq_false h1)) V v g1

structure GIs (a b : Rat) (n d m f : Int) : Prop where
 re : Is a n d
 im : Is b m f
 f1 : Fine n d
 f2 : Fine m f
theorem GIs.mk_ {a b : Rat} {n d m f : Int} (h1 : Is a n d) (h2 : Is b m f) (l1 : lz n <= 2048) (l2 : lz d <= 2048) (l3 : lz m <= 2048) (l4 : lz f <= 2048) : GIs a b n d m f := ⟨h1, h2, h1.fine l1 l2, h2.fine l3 l4⟩
theorem GIs.of {n d m f : Int} (f1 : Fine n d) (f2 : Fine m f) : GIs (Rat.divInt n d) (Rat.divInt m f) n d m f := ⟨f1.is_.1, f2.is_.1, f1, f2⟩
theorem GIs.may {a b : Rat} {n d m f : Int} (h : GIs a b n d m f) : MayG 20 (decide (n < 0)) (decide (d < 0)) (decide (m < 0)) (decide (f < 0)) (Za n.natAbs) (Za d.natAbs) (Za m.natAbs) (Za f.natAbs) true := by
 have k := may_raw (decide (n < 0)) (decide (d < 0)) (decide (m < 0)) (decide (f < 0)) (Za n.natAbs) (Za d.natAbs) (Za m.natAbs) (Za f.natAbs)
 rw [may_true h.f1 h.f2] at k
 exact k
theorem GIs.fits {a b : Rat} {n d m f : Int} (h : GIs a b n d m f) : Ji n d m f n d m f 0 := fun V base v hbase ho => by
 have l1 : lz n <= 2048 := h.f1.num
 have l2 : lz d <= 2048 := h.f1.den
 have l3 : lz m <= 2048 := h.f2.num
 have l4 : lz f <= 2048 := h.f2.den
 have hb : ((decide (2048 < (Za n.natAbs).length) || decide (2048 < (Za d.natAbs).length)) || (decide (2048 < (Za m.natAbs).length) || decide (2048 < (Za f.natAbs).length))) = false := by
  unfold lz at l1 l2 l3 l4
  rw [decide_eq_false (by omega), decide_eq_false (by omega), decide_eq_false (by omega), decide_eq_false (by omega)]
  rfl
 exact answered_fits (ansG_of false hb) V v ho.in_.at_ hbase ho
section
variable {a b c e : Rat} {n d m f p q r s N D M E : Int}
theorem gquo_zero (x : GIs a b n d m f) (y : GIs c e p q r s) (h0 : c = 0 /\ e = 0) : OpG2 88 n d m f p q r s 0 0 0 0 3 := by
 intro V v1 v2 g1 g2
 have hd : decide (p = 0 /\ r = 0) = true := decide_eq_true ⟨y.re.nought.2 h0.1, y.im.nought.2 h0.2⟩
 exact gauss_Quo_nought x.may y.may (nought_g y.re y.im true hd) V v1 v2 g1 g2
end

abbrev OpU (F : FuncId) (n d N D M E : Int) : Prop := ∀ (V : World) (v : Value), Yq V v n d -> Calls Tryz.prog F #[v] V (ZQ V.heap.size V N D M E)
abbrev OpUI (F : FuncId) (n d N D M E : Int) : Prop := ∀ (V : World) (v : Value), Yq V v n d -> Calls Tryz.prog F #[v] V (RetGaussIn V N D M E)
def RetFracIn2 (w : World) (n d k : Int) (e : Ending) (w' : World) : Prop := ∃ v, e = .returned (.tuple #[v, .int .i64 k]) /\ ZE w' 0 v n d /\ Below w.heap.size w w'


end Go.Proofs.YtdonecnhdkjniaaGreatDoor
