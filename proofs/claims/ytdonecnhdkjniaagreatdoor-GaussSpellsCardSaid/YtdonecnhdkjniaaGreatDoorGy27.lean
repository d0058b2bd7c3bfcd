/- Several texts in one: Reck, GaussC, Parts, PartsLaw, GOfs. -/
import Derived.Test.YtdonecnhdkjniaaGreatDoorGy26
set_option maxRecDepth 100000
set_option maxHeartbeats 8000000
namespace Go.Proofs.YtdonecnhdkjniaaGreatDoor
open Go.RowKit

theorem ansG_of {n d m f : Int} (b : Bool) (h : ((decide (2048 < (Za n.natAbs).length) || decide (2048 < (Za d.natAbs).length)) || (decide (2048 < (Za m.natAbs).length) || decide (2048 < (Za f.natAbs).length))) = b) : AnsG 109 n d m f (if b then 4 else 0) := by
 intro V g v A1 A2 A3 A4 c1 c2 c3 c4 hg _ l1 l2 l3 l4
 rw [show V.heap.size + 1 = (V.alloc (.cells #[.bool (decide (n < 0)), .slice A1 (Za n.natAbs).length c1, .bool (decide (d < 0)), .slice A2 (Za d.natAbs).length c2, .bool (decide (m < 0)), .slice A3 (Za m.natAbs).length c3, .bool (decide (f < 0)), .slice A4 (Za f.natAbs).length c4] 28)).heap.size by simp]
 cases b with
 | true => exact argand_Answer_true n d m f A1 A2 A3 A4 c1 c2 c3 c4 l1 l2 l3 l4 h _ g (by subst hg; exact ZX.new _ _ _ _ _ _ _ _ _ _)
 | false => exact argand_Answer_false n d m f A1 A2 A3 A4 c1 c2 c3 c4 l1 l2 l3 l4 h _ g (by subst hg; exact ZX.new _ _ _ _ _ _ _ _ _ _)
theorem may_true {n d m f : Int} (f1 : Jh n d) (f2 : Jh m f) : (XU (decide (n < 0)) (decide (d < 0)) (Za n.natAbs) (Za d.natAbs) == 0 && XU (decide (m < 0)) (decide (f < 0)) (Za m.natAbs) (Za f.natAbs) == 0) = true := by
 rw [f1.chk, f2.chk]; rfl
theorem may_cases {n1 n2 n3 n4 : Bool} {xs ys us vs : List Nat} (h1 : Zj xs) (h2 : Zj ys) (h3 : Zj us) (h4 : Zj vs) :
  (XU n1 n2 xs ys == 0 && XU n3 n4 us vs == 0) = false ∨ ∃ n d m f, Jh n d /\ Jh m f /\ n1 = decide (n < 0) /\ n2 = decide (d < 0) /\ xs = Za n.natAbs /\ ys = Za d.natAbs /\ n3 = decide (m < 0) /\ n4 = decide (f < 0) /\ us = Za m.natAbs /\ vs = Za f.natAbs := by
 cases hc : (XU n1 n2 xs ys == 0 && XU n3 n4 us vs == 0) with
 | false => exact .inl rfl
 | true =>
  rw [Bool.and_eq_true] at hc
  obtain ⟨n, d, f1, a1, a2, a3, a4⟩ := fine_of h1 h2 (by simpa using hc.1)
  obtain ⟨m, f, f2, b1, b2, b3, b4⟩ := fine_of h3 h4 (by simpa using hc.2)
  exact .inr ⟨n, d, m, f, f1, f2, a1, a2, a3, a4, b1, b2, b3, b4⟩
theorem nought_g {p q r s : Int} {c e : Rat} (i3 : Is c p q) (i4 : Is e r s) (b : Bool) (hb : decide (p = 0 /\ r = 0) = b) : NoughtG 156 p q r s b := by
 intro V v g1
 by_cases h1 : p = 0
 . by_cases h2 : r = 0
   . rw [decide_eq_true ⟨h1, h2⟩] at hb
     subst hb
     exact argand_Nought_yes (sgn_r i3) (ZM p true (decide_eq_true h1)) (sgn_r i4) (ZM r true (decide_eq_true h2)) V v g1
   . rw [decide_eq_false (fun h => h2 h.2)] at hb
     subst hb
     exact argand_Nought_im (sgn_r i3) (ZM p true (decide_eq_true h1)) (sgn_r i4) (ZM r false (decide_eq_false h2)) V v g1
 . rw [decide_eq_false (fun h => h1 h.1)] at hb
   subst hb
   exact argand_Nought_re (sgn_r i3) (ZM p false (decide_eq_false h1)) V v g1

structure GIs (a b : Rat) (n d m f : Int) : Prop where
 re : Is a n d
 im : Is b m f
 f1 : Jh n d
 f2 : Jh m f
theorem GIs.sz {a b : Rat} {n d m f : Int} (h : GIs a b n d m f) : Sz a 2048 /\ Sz b 2048 := ⟨h.re.sz h.f1.num h.f1.den, h.im.sz h.f2.num h.f2.den⟩
theorem GIs.mk_ {a b : Rat} {n d m f : Int} (h1 : Is a n d) (h2 : Is b m f) (l1 : lz n <= 2048) (l2 : lz d <= 2048) (l3 : lz m <= 2048) (l4 : lz f <= 2048) : GIs a b n d m f := ⟨h1, h2, h1.fine l1 l2, h2.fine l3 l4⟩
theorem GIs.of {n d m f : Int} (f1 : Jh n d) (f2 : Jh m f) : GIs (Rat.divInt n d) (Rat.divInt m f) n d m f := ⟨f1.is_.1, f2.is_.1, f1, f2⟩
theorem GIs.may {a b : Rat} {n d m f : Int} (h : GIs a b n d m f) : Jt 20 (decide (n < 0)) (decide (d < 0)) (decide (m < 0)) (decide (f < 0)) (Za n.natAbs) (Za d.natAbs) (Za m.natAbs) (Za f.natAbs) true := by
 have k := may_raw (decide (n < 0)) (decide (d < 0)) (decide (m < 0)) (decide (f < 0)) (Za n.natAbs) (Za d.natAbs) (Za m.natAbs) (Za f.natAbs)
 rw [may_true h.f1 h.f2] at k
 exact k
theorem GIs.fits {a b : Rat} {n d m f : Int} (h : GIs a b n d m f) : Y5 n d m f n d m f 0 := fun V base v hbase ho => by
 have l1 : lz n <= 2048 := h.f1.num
 have l2 : lz d <= 2048 := h.f1.den
 have l3 : lz m <= 2048 := h.f2.num
 have l4 : lz f <= 2048 := h.f2.den
 have hb : ((decide (2048 < (Za n.natAbs).length) || decide (2048 < (Za d.natAbs).length)) || (decide (2048 < (Za m.natAbs).length) || decide (2048 < (Za f.natAbs).length))) = false := by
  unfold lz at l1 l2 l3 l4
  rw [decide_eq_false (by omega), decide_eq_false (by omega), decide_eq_false (by omega), decide_eq_false (by omega)]
  rfl
 exact answered_fits (ansG_of false hb) V v ho.in_.at_ hbase ho
section
variable {a b c e : Rat} {n d m f p q r s N D M E : Int}
theorem gmul_c (x : GIs a b n d m f) (y : GIs c e p q r s) (z : GIs (a * c - b * e) (a * e + b * c) N D M E) : OpG2 86 n d m f p q r s N D M E 0 := by
 intro V v1 v2 g1 g2
 have C : BothC (.func (.func 155) #[] #[]) (decide (n < 0)) (decide (d < 0)) (decide (m < 0)) (decide (f < 0)) (Za n.natAbs) (Za d.natAbs) (Za m.natAbs) (Za f.natAbs) (decide (p < 0)) (decide (q < 0)) (decide (r < 0)) (decide (s < 0)) (Za p.natAbs) (Za q.natAbs) (Za r.natAbs) (Za s.natAbs) N D M E 0 := fun V v1 v2 g1 g2 => by
  have up : ∀ {q : Rat} {l : Nat}, Sz q 2048 -> 2048 <= l -> Sz q l := fun h k => h.mono k
  exact both_Times x.may y.may (times_g x.re x.im y.re y.im (up x.sz.1 (by omega)) (up x.sz.2 (by omega)) (up y.sz.1 (by omega)) (up y.sz.2 (by omega)) z.re z.im) z.fits V v1 v2 ⟨g1.form⟩ ⟨g2.form⟩
 exact gauss_Mul C V v1 v2 g1.raw g2.raw
theorem gquo_zero (x : GIs a b n d m f) (y : GIs c e p q r s) (h0 : c = 0 /\ e = 0) : OpG2 88 n d m f p q r s 0 0 0 0 3 := by
 intro V v1 v2 g1 g2
 have hd : decide (p = 0 /\ r = 0) = true := decide_eq_true ⟨y.re.nought.2 h0.1, y.im.nought.2 h0.2⟩
 exact gauss_Quo_nought x.may y.may (nought_g y.re y.im true hd) V v1 v2 g1 g2
end

abbrev OpU (F : FuncId) (n d N D M E : Int) : Prop := ∀ (V : World) (v : Value), ZV V v n d -> Calls Tryz.prog F #[v] V (Zo V.heap.size V N D M E)
abbrev OpUI (F : FuncId) (n d N D M E : Int) : Prop := ∀ (V : World) (v : Value), ZV V v n d -> Calls Tryz.prog F #[v] V (RetGaussIn V N D M E)
def RetFracIn2 (w : World) (n d k : Int) (e : Ending) (w' : World) : Prop := ∃ v, e = .returned (.tuple #[v, .int .i64 k]) /\ ZG w' 0 v n d /\ Below w.heap.size w w'



theorem low_int (z : Int) : Yx z 1 = z /\ Yt z 1 = 1 := by
 have h1 := is_low z (d := 1) (by decide)
 have h2 := is_of (n := z) (d := 1) (by decide) (by unfold ZK; simp)
 exact h1.uniq h2
abbrev Of2 (F : FuncId) (z0 z1 o : Int) : Prop := ∀ V : World, Calls Tryz.prog F #[.int .i64 z0, .int .i64 z1] V (Zo V.heap.size V z0 o z1 o)
abbrev Of2I (F : FuncId) (z0 z1 o : Int) : Prop := ∀ V : World, Calls Tryz.prog F #[.int .i64 z0, .int .i64 z1] V (RetGaussIn V z0 o z1 o)
abbrev OfR (F : FuncId) (z o : Int) : Prop := ∀ V : World, Calls Tryz.prog F #[.int .i64 z, .int .i64 1] V (ZE V.heap.size V z o)
abbrev OfI (F : FuncId) (z o : Int) : Prop := ∀ V : World, Calls Tryz.prog F #[.int .i64 z, .int .i64 1] V (XO V z o)

theorem argand_Small {z0 z1 o : Int} (C1 : OfR 97 z0 o) (C2 : OfR 97 z1 o) (w : World)   :
  Calls Tryz.prog 24 #[.int .i64 z0, .int .i64 z1] w (Zo w.heap.size w z0 o z1 o) := by
 have H1 := Hd C1
 have H2 := Hd C2
 clear C1 C2
 go_enter Tryz.func24, Tryz.ntmps24
 go_upto_region 1 with fail
 refine Zy (P := fun W => Code.wp _ _ _ _ W) fun W p0 b0 => ?_
 have PR := Hd (ZX.mk p0)
 have HB := Hd b0
 clear b0 p0
 go_wp2_with fail
 refine (H1.out W).mono ?_
 rintro e wx1 ⟨v, rfl, hI, hb⟩
 obtain ⟨A6, c6, A7, c7, rfl, -⟩ := hI.form
 have I1 := Hd (hI.base HB.out.size)
 have M1 := Hd (show ∀ g, Yp (.agg #[.bool (decide (z0 < 0)), .slice A6 (Za z0.natAbs).length c6, .bool (decide (o < 0)), .slice A7 (Za o.natAbs).length c7]) g -> g < wx1.heap.size from fun g hg => (hI.mine g hg).2)
 clear hI
 have PR := Hd (PR.out.below hb)
 have HB := Hd (Zb HB.out hb)
 clear hb
 go_wp2_with fail
 refine (H2.out wx1).mono ?_
 rintro e wx2 ⟨v, rfl, hI, hb⟩
 obtain ⟨A8, c8, A9, c9, rfl, -⟩ := hI.form
 have I2 := Hd (hI.base HB.out.size)
 have AP := Hd (show ∀ g, Yp (.agg #[.bool (decide (z0 < 0)), .slice A6 (Za z0.natAbs).length c6, .bool (decide (o < 0)), .slice A7 (Za o.natAbs).length c7]) g -> ¬ Yp (.agg #[.bool (decide (z1 < 0)), .slice A8 (Za z1.natAbs).length c8, .bool (decide (o < 0)), .slice A9 (Za o.natAbs).length c9]) g from fun g hg hg2 => by have a := M1.out g hg; have b := (hI.mine g hg2).1; omega)
 clear hI
 have PR := Hd (PR.out.below hb)
 have I1 := Hd (I1.out.below hb)
 have HB := Hd (Zb HB.out hb)
 clear hb
 obtain ⟨l_r, r0, r1, r2, r3, r4, r5, r6, r7⟩ := PR.out.facts
 obtain ⟨f0, f1, f2, f3, f4, f5, f6, f7⟩ := PR.out.free
 have HQ := Hd (PR.out.store (.bool (decide (z0 < 0))) (.slice A6 (Za z0.natAbs).length c6) (.bool (decide (o < 0))) (.slice A7 (Za o.natAbs).length c7) (.bool (decide (z1 < 0))) (.slice A8 (Za z1.natAbs).length c8) (.bool (decide (o < 0))) (.slice A9 (Za o.natAbs).length c9))
 have HB9 := Hd (below8 HB.out (show w.heap.size <= w.heap.size by omega) (.bool (decide (z0 < 0))) (.slice A6 (Za z0.natAbs).length c6) (.bool (decide (o < 0))) (.slice A7 (Za o.natAbs).length c7) (.bool (decide (z1 < 0))) (.slice A8 (Za z1.natAbs).length c8) (.bool (decide (o < 0))) (.slice A9 (Za o.natAbs).length c9))
 have HF := Hd ((show Zk wx2 w.heap.size (.agg #[.bool (decide (z0 < 0)), .slice A6 (Za z0.natAbs).length c6, .bool (decide (o < 0)), .slice A7 (Za o.natAbs).length c7, .bool (decide (z1 < 0)), .slice A8 (Za z1.natAbs).length c8, .bool (decide (o < 0)), .slice A9 (Za o.natAbs).length c9]) z0 o z1 o from ⟨_, _, _, _, _, _, _, _, rfl, I1.out, I2.out, AP.out⟩).oct PR.out (by decide) (.bool (decide (z0 < 0))) (.slice A6 (Za z0.natAbs).length c6) (.bool (decide (o < 0))) (.slice A7 (Za o.natAbs).length c7) (.bool (decide (z1 < 0))) (.slice A8 (Za z1.natAbs).length c8) (.bool (decide (o < 0))) (.slice A9 (Za o.natAbs).length c9))
 go_wp2_with fail
 obtain ⟨_, k0, k1, k2, k3, k4, k5, k6, k7⟩ := HQ.out.facts
 exact bodyPost_ret (by simp [results, Tryz.results24, go_sem, k0, k1, k2, k3, k4, k5, k6, k7]) rfl ⟨_, rfl, HF.out, HB9.out⟩

theorem gauss_Of {N D M E z0 z1 : Int} (C1 : ∀ V : World, Calls Tryz.prog 24 #[.int .i64 z0, .int .i64 z1] V (Zo V.heap.size V N D M E)) (w : World)   :
  Calls Tryz.prog 87 #[.int .i64 z0, .int .i64 z1] w (Zo w.heap.size w N D M E) := by
 have H1 := Hd C1
 clear C1
 go_enter Tryz.func87, Tryz.ntmps87
 go_upto_region 1 with fail
 refine Zy (P := fun W => Code.wp _ _ _ _ W) fun W p0 b0 => ?_
 have PR := Hd (ZX.mk p0)
 have HB := Hd b0
 clear b0 p0
 go_wp2_with fail
 refine (H1.out W).mono ?_
 rintro e w9 ⟨v, rfl, hI, hb⟩
 obtain ⟨A6, c6, A7, c7, A8, c8, A9, c9, rfl, -⟩ := hI.form
 have pr := PR.out.below hb
 have hb9 := Zb HB.out hb
 obtain ⟨l_r, r0, r1, r2, r3, r4, r5, r6, r7⟩ := pr.facts
 obtain ⟨f0, f1, f2, f3, f4, f5, f6, f7⟩ := pr.free
 have H9 := Hd (Jb hI pr hb9 (show w.heap.size <= w.heap.size by omega) (by decide))
 clear hb hb9 pr hI
 go_wp2_with fail
 obtain ⟨_, k0, k1, k2, k3, k4, k5, k6, k7⟩ := H9.out.1.facts
 exact bodyPost_ret (by simp [results, Tryz.results87, go_sem, k0, k1, k2, k3, k4, k5, k6, k7]) rfl ⟨_, rfl, H9.out.2.2.base HB.out.size, H9.out.2.1⟩

section
variable {z0 z1 : Int} (o : Int) (ho : o = 1) (h1 : -9223372036854775808 <= z0) (h2 : z0 <= 9223372036854775807) (h3 : -9223372036854775808 <= z1) (h4 : z1 <= 9223372036854775807)
include ho h1 h2 h3 h4
theorem of_g : Of2 87 z0 z1 o := by
 subst ho
 have C1 : OfR 97 z0 1 := fun V => by have k := small_own (n := z0) (d := 1) h1 h2 (by decide) (by decide) (by decide) V; rw [(low_int z0).1, (low_int z0).2] at k; exact k
 have C2 : OfR 97 z1 1 := fun V => by have k := small_own (n := z1) (d := 1) h3 h4 (by decide) (by decide) (by decide) V; rw [(low_int z1).1, (low_int z1).2] at k; exact k
 exact gauss_Of (argand_Small C1 C2)
end
theorem gis_int (z0 z1 : Int) (h1 : -9223372036854775808 <= z0) (h2 : z0 <= 9223372036854775807) (h3 : -9223372036854775808 <= z1) (h4 : z1 <= 9223372036854775807) : GIs (z0 : Rat) (z1 : Rat) z0 1 z1 1 :=
 GIs.mk_ (is_int z0) (is_int z1) (Nat.le_trans (lz_i64 h1 h2) (by decide)) (by decide +kernel) (Nat.le_trans (lz_i64 h3 h4) (by decide)) (by decide +kernel)
end Go.Proofs.YtdonecnhdkjniaaGreatDoor
