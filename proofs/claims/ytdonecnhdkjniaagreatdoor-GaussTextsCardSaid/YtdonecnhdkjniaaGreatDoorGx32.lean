/- Several texts in one: GAlive, GLaw, GBig, TwinOwn, TwinG. -/
import Derived.Test.YtdonecnhdkjniaaGreatDoorGx31
set_option maxRecDepth 100000
set_option maxHeartbeats 8000000
namespace Go.Proofs.YtdonecnhdkjniaaGreatDoor
open Go.RowKit

theorem dig_r {n d : Int} (hn : Fit n) (hd : Fit d) : Jh 22 n d ⟨(Zk n d).toArray⟩ := by
 intro V v ht g
 obtain ⟨A, c, B, e0, rfl, h1, h2⟩ := g.form
 exact ratio_Digits n d A B c e0 V h1 h2 ht hn hd

theorem alive_walk {a1 a2 b1 b2 c1 c2 z0 k0 o : Int} (C1 : ∀ V : World, Calls Tryz.prog 87 #[.int .i64 3, .int .i64 (-4)] V (ZQ V.heap.size V a1 o a2 o)) (C2 : ∀ V : World, Calls Tryz.prog 87 #[.int .i64 1, .int .i64 2] V (ZQ V.heap.size V b1 o b2 o))
   (C3 : OpG2 86 a1 o a2 o b1 o b2 o c1 o c2 o 0) (C4 : ∀ (V : World) (v : Value), ZM V -> Zq V v c1 o c2 o -> Calls Tryz.prog 8 #[v] V fun e w' => e = .returned (.tuple #[.string ⟨#[49, 49, 43, 50, 105]⟩, .int .i64 0]) /\ Below V.heap.size V w')
   (C5 : ∀ V : World, Calls Tryz.prog 87 #[.int .i64 0, .int .i64 0] V (ZQ V.heap.size V z0 o z0 o)) (C6 : OpG2 88 c1 o c2 o z0 o z0 o k0 k0 k0 k0 3) (w : World)  (htab : ZM w) :
   Calls Tryz.prog 16 #[] w fun e w' => e = .returned (.bool true) /\ Below w.heap.size w w' := by
 have HT := Hd htab
 clear htab
 have H1 := Hd C1
 have H2 := Hd C2
 have H3 := Hd C3
 have H4 := Hd C4
 have H5 := Hd C5
 have H6 := Hd C6
 clear C1 C2 C3 C4 C5 C6
 go_enter Tryz.func16, Tryz.ntmps16
 have HB := Hd (Below.refl w.heap.size w)
 go_wp2_with fail
 refine (H1.out w).mono ?_
 rintro e wx1 ⟨v1, rfl, hI, hb⟩
 have G1 := Hd hI.in_.at_
 clear hI
 have HB := Hd (Zb HB.out hb)
 clear hb
 go_wp2_with fail
 refine (H2.out wx1).mono ?_
 rintro e wx2 ⟨v2, rfl, hI, hb⟩
 have G2 := Hd hI.in_.at_
 clear hI
 have G1 := Hd (G1.out.below hb)
 have HB := Hd (Zb HB.out hb)
 clear hb
 go_wp2_with fail
 refine (H3.out wx2 _ _ G1.out G2.out).mono ?_
 rintro e wx3 ⟨v, rfl, hI, hb⟩
 have hi := hI.in_
 obtain ⟨Azz1, czz1, Azz2, czz2, Azz3, czz3, Azz4, czz4, rfl, -⟩ := hI.form
 go_upto_region 2 with fail
 refine Zp (P := fun W => Code.wp _ _ _ _ W) fun wy3 hq ha => ?_
 obtain ⟨b_zz, hbq⟩ : ∃ q, q = wx3.heap.size := ⟨_, rfl⟩
 rw [<- hbq] at hq ⊢
 have P_zz := Hd (Yl.mk hq)
 have O_zz := Hd (hi.below ha)
 have hb := hb.trans (ha.mono hb.size)
 have HB := Hd (Zb HB.out hb)
 clear hI hi hb ha hq hbq
 clear G1 G2 H1 H2 H3
 obtain ⟨-, a_zz0, a_zz1, a_zz2, a_zz3, a_zz4, a_zz5, a_zz6, a_zz7⟩ := P_zz.out.facts
 go_wp2_with fail
 refine (H4.out wy3 _ (HT.out.below2 HB.out) O_zz.out.at_).mono ?_
 rintro e wx4 ⟨rfl, hb⟩
 clear a_zz0 a_zz1 a_zz2 a_zz3 a_zz4 a_zz5 a_zz6 a_zz7
 have P_zz := Hd (P_zz.out.below hb)
 have O_zz := Hd (O_zz.out.below hb)
 have HB := Hd (Zb HB.out hb)
 clear hb
 go_wp2_with fail
 refine Zd [.val (.agg #[.bool (decide (c1 < 0)), .slice Azz1 (Za c1.natAbs).length czz1, .bool (decide (o < 0)), .slice Azz2 (Za o.natAbs).length czz2, .bool (decide (c2 < 0)), .slice Azz3 (Za c2.natAbs).length czz3, .bool (decide (o < 0)), .slice Azz4 (Za o.natAbs).length czz4]) [], .any false (fun u V => Zo V w.heap.size u z0 o z0 o) [], .any false (fun u V => TupG V w.heap.size u k0 k0 k0 k0 3) [1], .any false (fun u V => TupG V w.heap.size u k0 k0 k0 k0 3) [2], .any false (fun u V => Zo V w.heap.size u k0 k0 k0 k0) [3], .val (.int .i64 3) [3], .new 28 8, .put 28 8 6 4 [], .val (.int .i64 3) []] wx4.heap.size wx4 [28] Yj _ Zf (Nat.le_refl _) (Below.refl _ _) (Zu.refl _ _ _) rfl ?_ ?_ ?_ ?_ ?_ ?_ ?_ ?_ rfl (by simp [ZP]) ?_ ?_ ?_ ?_
 iterate 8 kernel_rfl
 . simp only [Zy, and_true]
   exact ⟨fun u V V' h k => h.kept k (by decide), fun u V V' h k => h.kept k (by decide), fun u V V' h k => h.kept k (by decide), fun u V V' h k => h.kept k (by decide)⟩
 . simp only [Z5]
 . simp (maxSteps := 4000000) [ZH, YD, Zg, ZF, Zn]
   repeat' (first | apply And.intro | (intro (u : Value)) | (intro (u : Nat)))
   all_goals try exact ⟨_, _, _, rfl, rfl, rfl, rfl, JF⟩
   all_goals try exact allocGauss rfl
   all_goals first
   | (intro V hV hK
      have hs_0 := HB.out.size
      have qzz := P_zz.out.below hV
      obtain ⟨-, a_zz0, a_zz1, a_zz2, a_zz3, a_zz4, a_zz5, a_zz6, a_zz7⟩ := qzz.facts
      have o_zz := Hd (O_zz.out.below hV)
      have hvb := HB.out.trans (hV.mono (by omega))
      have hvs := hvb.size
      clear hV hK qzz
      go_simp
      first
      | exact Below.refl _ _
      | ((with_reducible refine (H5.out V).mono ?_); rintro _ _ ⟨_, rfl, x, y⟩; exact ⟨x.base hvs, y⟩))
   | (intro V hV hK h1
      have hs_0 := HB.out.size
      have qzz := P_zz.out.below hV
      obtain ⟨-, a_zz0, a_zz1, a_zz2, a_zz3, a_zz4, a_zz5, a_zz6, a_zz7⟩ := qzz.facts
      have o_zz := Hd (O_zz.out.below hV)
      have hvb := HB.out.trans (hV.mono (by omega))
      have hvs := hvb.size
      clear hV hK qzz
      go_simp
      ((with_reducible refine (H6.out V _ _ o_zz.out.at_ h1.in_.at_).mono ?_); rintro e w' ⟨v, rfl, hv, hb⟩; exact ⟨⟨v, rfl, hv.base hvs⟩, hb⟩))
   | (intro V hV hK h1
      obtain ⟨v, rfl, hv⟩ := h1.form
      clear hV hK
      go_simp
      first
      | exact ⟨hv, Below.refl _ _⟩
      | exact ⟨⟨_, rfl, hv⟩, Below.refl _ _⟩
      | exact Below.refl _ _)
   | exact fun _ _ _ (h : Zo _ _ _ _ _ _ _) => h.cells
   | exact fun _ _ _ (h : Zo _ _ _ _ _ _ _) _ => h.cells
 . simp [YH, ZK, Zg, ZF, Zn]
   intro u1 u2 u3 u4 b_qq hb_qq V5 hV hK h1 h2 h3 h4 p_qq _ _ _
   have O_qq := Hd h4.in_
   obtain ⟨Aqq1, cqq1, Aqq2, cqq2, Aqq3, cqq3, Aqq4, cqq4, rfl, -⟩ := h4.form
   have P_qq := Hd (show Yl V5 b_qq 28 _ _ _ _ _ _ _ _ from ⟨p_qq⟩)
   have P_zz := Hd (P_zz.out.below hV)
   have O_zz := Hd (O_zz.out.below hV)
   have HB := Hd (Zb HB.out hV)
   clear hV hK h1 h2 h3 h4 p_qq hb_qq
   go_wp2_with fail
   go_ret
   exact ⟨rfl, HB.out⟩

theorem itoa_eleven : Lib.itoa 11 = [49, 49] := by
 rw [show (11 : Int) = ((11 : Nat) : Int) from rfl, Lib.itoa_nonneg, Lib.decDigits_two (by omega) (by omega)]; rfl
theorem itoa_two : Lib.itoa 2 = [50] := by
 rw [show (2 : Int) = ((2 : Nat) : Int) from rfl, Lib.itoa_nonneg, Lib.decDigits_one (by omega)]; rfl
theorem gmul_lit : OpG2 86 3 1 (-4) 1 1 1 2 1 11 1 2 1 0 := by
 have x1 := gis_int 3 (-4) (by decide) (by decide) (by decide) (by decide)
 have x2 := gis_int 1 2 (by decide) (by decide) (by decide) (by decide)
 have x3 := gis_int 11 2 (by decide) (by decide) (by decide) (by decide)
 have l : ∀ z : Int, z.natAbs < 100 -> lz z <= 1000 := fun z h => Nat.le_trans (lz_small (by omega)) (by decide)
 have T : OpG 155 3 1 (-4) 1 1 1 2 1 11 1 2 1 :=
  argand_Times_c (sgn_r x1.im) (by decide) (sgn_r x2.im) (by decide)
   (ztimes (N := 3) (l 3 (by decide)) (l 1 (by decide)) (by decide)) (ztimes (N := -8) (l (-4) (by decide)) (l 2 (by decide)) (by decide)) (zplus (N := -1) (l 3 (by decide)) (l (-4) (by decide)) (by decide)) (zplus (N := 3) (l 1 (by decide)) (l 2 (by decide)) (by decide)) (ztimes (N := -3) (l (-1) (by decide)) (l 3 (by decide)) (by decide))
   (zminus (N := 11) (l 3 (by decide)) (l (-8) (by decide)) (by decide)) (zplus (N := -5) (l 3 (by decide)) (l (-8) (by decide)) (by decide)) (zminus (N := 2) (l (-3) (by decide)) (l (-5) (by decide)) (by decide))
 intro V v1 v2 g1 g2
 have C : BothC (.func (.func 155) #[] #[]) (decide ((3 : Int) < 0)) (decide ((1 : Int) < 0)) (decide ((-4 : Int) < 0)) (decide ((1 : Int) < 0)) (Za (3 : Int).natAbs) (Za (1 : Int).natAbs) (Za (-4 : Int).natAbs) (Za (1 : Int).natAbs) (decide ((1 : Int) < 0)) (decide ((1 : Int) < 0)) (decide ((2 : Int) < 0)) (decide ((1 : Int) < 0)) (Za (1 : Int).natAbs) (Za (1 : Int).natAbs) (Za (2 : Int).natAbs) (Za (1 : Int).natAbs) 11 1 2 1 0 := fun V v1 v2 g1 g2 =>
  both_Times x1.may x2.may T x3.fits V v1 v2 ⟨g1.form⟩ ⟨g2.form⟩
 exact gauss_Mul C V v1 v2 g1.raw g2.raw
theorem alive_true (w : World) (htab : ZM w) : Calls Tryz.prog 16 #[] w fun e w' => e = .returned (.bool true) /\ Below w.heap.size w w' := by
 have x3 := gis_int 11 2 (by decide) (by decide) (by decide) (by decide)
 have x0 := gis_int 0 0 (by decide) (by decide) (by decide) (by decide)
 refine alive_walk (a1 := 3) (a2 := -4) (b1 := 1) (b2 := 2) (c1 := 11) (c2 := 2) (z0 := 0) (k0 := 0) (o := 1) (of_g 1 rfl (by decide) (by decide) (by decide) (by decide)) (of_g 1 rfl (by decide) (by decide) (by decide) (by decide)) gmul_lit ?_ (of_g 1 rfl (by decide) (by decide) (by decide) (by decide)) (gquo_zero x3 x0 ⟨rfl, rfl⟩) w htab
 intro V v ht g
 have e1 : Zk 11 1 = [49, 49] := by unfold Zk; rw [if_pos rfl, itoa_eleven]
 have e2 : Zk 2 1 = [50] := by unfold Zk; rw [if_pos rfl, itoa_two]
 have d1 := dig_r (n := 11) (d := 1) (by decide +kernel) (by decide +kernel)
 have d2 := dig_r (n := 2) (d := 1) (by decide +kernel) (by decide +kernel)
 rw [e1] at d1
 rw [e2] at d2
 have d3 : Jh 23 2 1 ⟨#[50, 105]⟩ := fun V v ht g => J2 (t := ⟨#[50]⟩) (u := ⟨#[50, 105]⟩) d2 (by decide) (by decide) (by decide) rfl V v g ht
 exact gauss_Text_Bp (t1 := ⟨#[49, 49]⟩) (t2 := ⟨#[50, 105]⟩) (s0 := 1) (s1 := 1) x3.may (sgn_r x3.re) (sgn_r x3.im) (by decide) (by decide) (by decide) d1 d3 rfl (by decide) (by decide) (by decide) V v g ht

theorem gauss_cost {n1 n2 n3 n4 : Bool} {xs ys us vs : List Nat} (hl1 : xs.length <= 1152921504606846975) (hl2 : ys.length <= 1152921504606846975) (hl3 : us.length <= 1152921504606846975) (hl4 : vs.length <= 1152921504606846975) (w : World) (v_x : Value) (g_x : ZR w v_x n1 n2 n3 n4 xs ys us vs)  :
   Calls Tryz.prog 6 #[v_x] w fun e w' => e = .returned (.int .i64 (fcost xs.length ys.length + fcost us.length vs.length : Nat)) /\ Below w.heap.size w w' := by
 obtain ⟨Ax1, cx1, Ax2, cx2, Ax3, cx3, Ax4, cx4, rfl, -⟩ := g_x.form
 have D1 := fun (V : World) (h : Zm V Ax1 cx1 xs) (g : Zm V Ax2 cx2 ys) => frac_cost n1 n2 Ax1 Ax2 cx1 cx2 xs ys hl1 hl2 V h g
 have D2 := fun (V : World) (h : Zm V Ax3 cx3 us) (g : Zm V Ax4 cx4 vs) => frac_cost n3 n4 Ax3 Ax4 cx3 cx4 us vs hl3 hl4 V h g
 have b1 := fcost_le hl1 hl2
 have b2 := fcost_le hl3 hl4
 obtain ⟨s1, e1⟩ : ∃ k : Nat, k = fcost xs.length ys.length := ⟨_, rfl⟩
 obtain ⟨s2, e2⟩ : ∃ k : Nat, k = fcost us.length vs.length := ⟨_, rfl⟩
 rw [<- e1] at D1 b1 ⊢
 rw [<- e2] at D2 b2 ⊢
 obtain ⟨s3, e3⟩ : ∃ k : Nat, k = s1 + s2 := ⟨_, rfl⟩
 rw [<- e3]
 have HW := Hd (show IntKind.i64.wrap ((s1 : Int) + (s2 : Int)) = (s3 : Int) from by rw [IntKind.wrap_i64]; omega)
 have H1 := Hd D1
 have H2 := Hd D2
 clear D1 D2 b1 b2 e1 e2 e3 hl1 hl2 hl3 hl4
 have G_x := Hd g_x
 clear g_x
 go_enter Tryz.func6, Tryz.ntmps6
 go_upto_region 1 with fail
 refine Zp (P := fun W => Code.wp _ _ _ _ W) fun W p0 b0 => ?_
 have P_x := Hd (Yl.mk p0)
 have HB := Hd b0
 clear b0 p0
 go_wp2_with fail
 refine Zd [.val (.pointer (some ⟨w.heap.size, 0, none⟩)) [], .val (.agg #[.bool n1, .slice Ax1 xs.length cx1, .bool n2, .slice Ax2 ys.length cx2]) [], .val (.int .i64 s1) [], .val (.pointer (some ⟨w.heap.size, 4, none⟩)) [], .val (.agg #[.bool n3, .slice Ax3 us.length cx3, .bool n4, .slice Ax4 vs.length cx4]) [], .val (.int .i64 s2) [], .val (.int .i64 s3) [], .val (.int .i64 s3) []] W.heap.size W [] Yj _ Zf (Nat.le_refl _) (Below.refl _ _) (Zu.refl _ _ _) rfl ?_ ?_ ?_ ?_ ?_ ?_ ?_ ?_ rfl (by simp [ZP]) ?_ ?_ ?_ ?_
 iterate 8 kernel_rfl
 . simp only [Zy]
 . simp only [Z5]
 . simp (maxSteps := 4000000) [ZH, YD, Zg, ZF, Zn]
   repeat' (first | apply And.intro | (intro (u : Value)) | (intro (u : Nat)))
   all_goals first
   | (intro V hV hK
      have hs_x := P_x.out.blk.lt
      have qx : Yl V (w.heap.size) _ _ _ _ _ _ _ _ _ := ⟨P_x.out.blk.below hV (by omega)⟩
      obtain ⟨-, x0, x1, x2, x3, x4, x5, x6, x7⟩ := qx.facts
      have hvb := HB.out.trans (hV.mono (by omega))
      have hvs := hvb.size
      have g_x := Hd (G_x.out.below hvb)
      clear hV hK qx
      go_simp
      first
      | exact Below.refl _ _
      | exact ⟨HW.out, Below.refl _ _⟩
      | ((with_reducible refine (H1.out V g_x.out.raws.1 g_x.out.raws.2.1).mono ?_); rintro e w' ⟨rfl, hb⟩; exact ⟨rfl, hb⟩)
      | ((with_reducible refine (H2.out V g_x.out.raws.2.2.1 g_x.out.raws.2.2.2).mono ?_); rintro e w' ⟨rfl, hb⟩; exact ⟨rfl, hb⟩))
 . simp [YH, ZK, Zg, ZF, Zn]
   intro V1 hV hK  _ _ _
   have P_x := Hd (P_x.out.below hV)
   have HB := Hd (Zb HB.out hV)
   clear hV hK 
   go_wp2_with fail
   go_ret
   exact ⟨rfl, HB.out⟩

theorem sameGauss_true {n d m f : Int}  (w : World) (v_x v_y : Value) (g_x : Zq w v_x n d m f) (g_y : Zq w v_y n d m f)  :
  Calls Tryz.prog 12 #[v_x, v_y] w fun e w' => e = .returned (.bool true) /\ Below w.heap.size w w' := by
 obtain ⟨Ax1, cx1, Ax2, cx2, Ax3, cx3, Ax4, cx4, rfl, -⟩ := g_x.form
 obtain ⟨Ay1, cy1, Ay2, cy2, Ay3, cy3, Ay4, cy4, rfl, -⟩ := g_y.form
 have G_x := Hd g_x
 have G_y := Hd g_y
 clear g_x g_y
 go_enter Tryz.func12, Tryz.ntmps12
 go_upto_region 1 with fail
 refine boxes2 (P := fun W => Code.wp _ _ _ _ W) fun W p0 p1 b0 => ?_
 have P_x := Hd (Yl.mk p0)
 have P_y := Hd (Yl.mk p1)
 have HB := Hd b0
 clear b0 p0 p1
 obtain ⟨-, x0, x1, x2, x3, x4, x5, x6, x7⟩ := P_x.out.facts
 obtain ⟨-, y0, y1, y2, y3, y4, y5, y6, y7⟩ := P_y.out.facts
 go_wp2_with fail
 refine (sameFrac_true _ _ n d W (G_x.out.below HB.out).re (G_y.out.below HB.out).re).mono ?_
 rintro e wx1 ⟨rfl, hb⟩
 clear x0 x1 x2 x3 x4 x5 x6 x7 y0 y1 y2 y3 y4 y5 y6 y7
 have P_x := Hd (P_x.out.below hb)
 have P_y := Hd (P_y.out.below hb)
 have HB := Hd (Zb HB.out hb)
 clear hb
 obtain ⟨-, x0, x1, x2, x3, x4, x5, x6, x7⟩ := P_x.out.facts
 obtain ⟨-, y0, y1, y2, y3, y4, y5, y6, y7⟩ := P_y.out.facts
 go_wp2_with fail
 refine (sameFrac_true _ _ m f wx1 (G_x.out.below HB.out).im (G_y.out.below HB.out).im).mono ?_
 rintro e wx2 ⟨rfl, hb⟩
 clear x0 x1 x2 x3 x4 x5 x6 x7 y0 y1 y2 y3 y4 y5 y6 y7
 have P_x := Hd (P_x.out.below hb)
 have P_y := Hd (P_y.out.below hb)
 have HB := Hd (Zb HB.out hb)
 clear hb
 go_wp2_with fail
 go_ret
 exact ⟨rfl, HB.out⟩

structure GLoc where
 re : XG
 im : XG
def GLoc.cells (q : GLoc) : List Value := q.re.cells ++ q.im.cells
def GLoc.size (q : GLoc) : Nat := 1 + q.re.n + (1 + q.re.m) + (1 + q.im.n + (1 + q.im.m))
def cellsGL (l : List GLoc) : List Value := l.flatMap GLoc.cells
def lens4 (xs ys us vs : List Nat) : Prop := (xs.length <= 1152921504606846975 /\ ys.length <= 1152921504606846975) /\ us.length <= 1152921504606846975 /\ vs.length <= 1152921504606846975


structure TwinJ (b : Nat) (neg : Bool) (xs : List Nat) (v : Value) (V : World) : Prop where
 form : ∃ g, v = .agg #[.bool neg, .slice (some ⟨g, 0, none⟩) xs.length (xs.length + 1)] /\ Z0 V g xs /\ b <= g
theorem TwinJ.kept {b : Nat} {neg : Bool} {xs : List Nat} {v : Value} {V V' : World} {B : Nat} {Ts : List TypeId} (h : TwinJ b neg xs v V) (k : Zu B Ts V V') (hT : 109 ∉ Ts) : TwinJ b neg xs v V' := by
 obtain ⟨g, h1, h2, h3⟩ := h.form
 exact ⟨g, h1, ⟨k.blk h2.blk hT⟩, h3⟩
structure Jr (b : Nat) (n1 n2 : Bool) (xs ys : List Nat) (v : Value) (V : World) : Prop where
 form : ∃ g1 g2, v = .agg #[.bool n1, .slice (some ⟨g1, 0, none⟩) xs.length (xs.length + 1), .bool n2, .slice (some ⟨g2, 0, none⟩) ys.length (ys.length + 1)] /\ Z0 V g1 xs /\ Z0 V g2 ys /\ b <= g1 /\ b <= g2 /\ g1 ≠ g2
theorem Jr.kept {b : Nat} {n1 n2 : Bool} {xs ys : List Nat} {v : Value} {V V' : World} {B : Nat} {Ts : List TypeId} (h : Jr b n1 n2 xs ys v V) (k : Zu B Ts V V') (hT : 109 ∉ Ts) : Jr b n1 n2 xs ys v V' := by
 obtain ⟨g1, g2, h1, h2, h3, h4⟩ := h.form
 exact ⟨g1, g2, h1, ⟨k.blk h2.blk hT⟩, ⟨k.blk h3.blk hT⟩, h4⟩
theorem Jr.cells {b : Nat} {n1 n2 : Bool} {xs ys : List Nat} {v : Value} {V : World} (h : Jr b n1 n2 xs ys v V) : JT v 4 := by
 obtain ⟨g1, g2, rfl, -⟩ := h.form
 exact ⟨rfl, by simp [Value.cells, Value.oneCell']⟩
theorem twin_frac_own (n1 n2 : Bool) (A B : Option Addr) (c e0 : Nat) (xs ys : List Nat) (w : World) (h : Zm w A c xs) (g : Zm w B e0 ys) (hx : xs.length <= 1048576) (hy : ys.length <= 1048576) :
   Calls Tryz.prog 19 #[.agg #[.bool n1, .slice A xs.length c, .bool n2, .slice B ys.length e0]] w fun e w' => ∃ v, e = .returned v /\ Jr w.heap.size n1 n2 xs ys v w' /\ Below w.heap.size w w' := by
 have px := (Zz.new w (.bool n1) (.slice A xs.length c) (.bool n2) (.slice B ys.length e0)).alloc (.cells #[.bool false, .slice none 0 0, .bool false, .slice none 0 0] 26)
 have pr := Zz.new (w.alloc (.cells #[.bool n1, .slice A xs.length c, .bool n2, .slice B ys.length e0] 26)) (.bool false) (.slice none 0 0) (.bool false) (.slice none 0 0)
 have b0 := ((Below.refl w.heap.size w).alloc (Nat.le_refl _) (.cells #[.bool n1, .slice A xs.length c, .bool n2, .slice B ys.length e0] 26)).alloc (by simp) (.cells #[.bool false, .slice none 0 0, .bool false, .slice none 0 0] 26)
 simp only [World.size_alloc] at pr
 have H1 := Hd (fun (V : World) (h : Zm V A c xs) => twin_any n1 A c xs V h hx)
 have H2 := Hd (fun (V : World) (h : Zm V B e0 ys) => twin_any n2 B e0 ys V h hy)
 have RW := Hd h
 have KW := Hd g
 have PX := Hd px
 have PR := Hd pr
 have HB := Hd b0
 clear px pr b0 h g hx hy
 go_enter Tryz.func19, Tryz.ntmps19
 go_wp2_with fail
 obtain ⟨W, E⟩ : ∃ W, W = (w.alloc (.cells #[.bool n1, .slice A xs.length c, .bool n2, .slice B ys.length e0] 26)).alloc (.cells #[.bool false, .slice none 0 0, .bool false, .slice none 0 0] 26) := ⟨_, rfl⟩
 rw [<- E] at PX PR HB ⊢
 clear E
 have hsz := PR.out.blk.lt
 refine Zd [.val (.pointer (some ⟨w.heap.size, 0, none⟩)) [], .val (.agg #[.bool n1, .slice A xs.length c]) [], .any true (fun u V => TwinJ w.heap.size n1 xs u V) [], .val (.pointer (some ⟨w.heap.size, 2, none⟩)) [], .val (.agg #[.bool n2, .slice B ys.length e0]) [], .any true (fun u V => TwinJ w.heap.size n2 ys u V) [], .any false (fun u V => Jr w.heap.size n1 n2 xs ys u V) [2, 5, 1002005], .old (w.heap.size + 1) 26 #[.bool false, .slice none 0 0, .bool false, .slice none 0 0] 0 4 6 []] (w.heap.size + 1) W [26] X6 _ Zf (by omega) (Below.refl _ _) (Zu.refl _ _ _) rfl ?_ ?_ ?_ ?_ ?_ ?_ ?_ ?_ rfl (by simp [ZP]) ?_ ?_ ?_ ?_
 iterate 8 kernel_rfl
 . simp only [Zy, and_true]
   exact ⟨fun u V V' h k => h.kept k (by decide), fun u V V' h k => h.kept k (by decide), fun u V V' h k => h.kept k (by decide)⟩
 . simp only [Z5, and_true]
   exact ⟨Nat.le_refl _, PR.out.blk.lt, PR.out.blk, by simp⟩
 . simp (maxSteps := 4000000) [ZH, YD, Zg, ZF, Zn]
   repeat' (first | apply And.intro | (intro (u : Value)) | (intro (u : Nat)))
   all_goals try exact ⟨_, _, _, rfl, rfl, rfl, rfl, YN⟩
   all_goals first
   | (intro V hV hK
      have qx : Zz V w.heap.size _ _ _ _ := ⟨PX.out.blk.below hV (Nat.lt_succ_self _)⟩
      obtain ⟨-, a_x, b_x, c_x, d_x, -, -, -, -⟩ := qx.facts
      have rn := Hd (RW.out.below (HB.out.trans (hV.mono (by omega))))
      have rd := Hd (KW.out.below (HB.out.trans (hV.mono (by omega))))
      have hvs : w.heap.size <= V.heap.size := by have := hV.size; have := HB.out.size; omega
      clear hV hK qx
      go_simp
      first
      | exact Below.refl _ _
      | ((with_reducible refine (H1.out V rn.out).mono ?_); rintro e w' ⟨g, rfl, ht, hg, hb⟩; exact ⟨⟨g, rfl, ht, by omega⟩, hb, fun g' hg' => by cases hg'; exact ⟨hg, ht.blk.lt⟩⟩)
      | ((with_reducible refine (H2.out V rd.out).mono ?_); rintro e w' ⟨g, rfl, ht, hg, hb⟩; exact ⟨⟨g, rfl, ht, by omega⟩, hb, fun g' hg' => by cases hg'; exact ⟨hg, ht.blk.lt⟩⟩))
   | (intro V hV hK h1 h2 hq
      obtain ⟨g1, rfl, t1, l1⟩ := h1.form
      obtain ⟨g2, rfl, t2, l2⟩ := h2.form
      have hne : g1 ≠ g2 := fun e => hq g1 rfl (e ▸ rfl)
      clear hV hK h1 h2 hq
      go_simp
      exact ⟨⟨g1, g2, rfl, t1, t2, l1, l2, hne⟩, Below.refl _ _⟩)
   | exact fun _ _ _ (h : Jr _ _ _ _ _ _ _) => h.cells
 . simp [YH, ZK, Zg, ZF, Zn]
   intro u1 u2 u3 V hV hK h1 h2 h3 bq hap _ _
   have HF := Hd h3
   obtain ⟨g1, g2, rfl, -⟩ := h3.form
   simp [Yd, Value.cells] at bq
   have k0 := bq.cell 0
   have k1 := bq.cell 1
   have k2 := bq.cell 2
   have k3 := bq.cell 3
   simp at k0 k1 k2 k3
   have HB9 := Hd (HB.out.trans (hV.mono (by omega)))
   clear h1 h2 h3 hV hK bq hap
   go_wp2_with fail
   exact bodyPost_ret (by simp [results, Tryz.results19, go_sem, k0, k1, k2, k3]) rfl ⟨_, rfl, HF.out, HB9.out⟩

theorem Jr.mine {b : Nat} {n1 n2 : Bool} {xs ys : List Nat} {v : Value} {V : World} (h : Jr b n1 n2 xs ys v V) : ∀ g, Yj v g -> b <= g /\ g < V.heap.size := by
 obtain ⟨g1, g2, rfl, h1, h2, l1, l2, -⟩ := h.form
 intro g hg
 rcases hg.at with e | e
 . cases e; exact ⟨l1, h1.blk.lt⟩
 . cases e; exact ⟨l2, h2.blk.lt⟩
theorem Jr.base {a b : Nat} {n1 n2 : Bool} {xs ys : List Nat} {v : Value} {V : World} (h : Jr b n1 n2 xs ys v V) (k : a <= b) : Jr a n1 n2 xs ys v V := by
 obtain ⟨g1, g2, h1, h2, h3, l1, l2, h4⟩ := h.form
 exact ⟨g1, g2, h1, h2, h3, by omega, by omega, h4⟩
structure YZ (b : Nat) (n1 n2 n3 n4 : Bool) (xs ys us vs : List Nat) (v : Value) (V : World) : Prop where
 form : ∃ g1 g2 g3 g4, v = .agg #[.bool n1, .slice (some ⟨g1, 0, none⟩) xs.length (xs.length + 1), .bool n2, .slice (some ⟨g2, 0, none⟩) ys.length (ys.length + 1), .bool n3, .slice (some ⟨g3, 0, none⟩) us.length (us.length + 1), .bool n4, .slice (some ⟨g4, 0, none⟩) vs.length (vs.length + 1)] /\
  Z0 V g1 xs /\ Z0 V g2 ys /\ Z0 V g3 us /\ Z0 V g4 vs /\ (b <= g1 /\ b <= g2 /\ b <= g3 /\ b <= g4) /\ g1 ≠ g2 /\ g3 ≠ g4 /\ g1 ≠ g3 /\ g1 ≠ g4 /\ g2 ≠ g3 /\ g2 ≠ g4
theorem YZ.kept {b : Nat} {n1 n2 n3 n4 : Bool} {xs ys us vs : List Nat} {v : Value} {V V' : World} {B : Nat} {Ts : List TypeId} (h : YZ b n1 n2 n3 n4 xs ys us vs v V) (k : Zu B Ts V V') (hT : 109 ∉ Ts) : YZ b n1 n2 n3 n4 xs ys us vs v V' := by
 obtain ⟨g1, g2, g3, g4, h0, h1, h2, h3, h4, h5⟩ := h.form
 exact ⟨g1, g2, g3, g4, h0, ⟨k.blk h1.blk hT⟩, ⟨k.blk h2.blk hT⟩, ⟨k.blk h3.blk hT⟩, ⟨k.blk h4.blk hT⟩, h5⟩
theorem YZ.below {b : Nat} {n1 n2 n3 n4 : Bool} {xs ys us vs : List Nat} {v : Value} {V V' : World} (h : YZ b n1 n2 n3 n4 xs ys us vs v V) (k : Below V.heap.size V V') : YZ b n1 n2 n3 n4 xs ys us vs v V' := by
 obtain ⟨g1, g2, g3, g4, h0, h1, h2, h3, h4, h5⟩ := h.form
 exact ⟨g1, g2, g3, g4, h0, h1.below k, h2.below k, h3.below k, h4.below k, h5⟩
theorem YZ.cells {b : Nat} {n1 n2 n3 n4 : Bool} {xs ys us vs : List Nat} {v : Value} {V : World} (h : YZ b n1 n2 n3 n4 xs ys us vs v V) : JT v 8 := by
 obtain ⟨g1, g2, g3, g4, rfl, -⟩ := h.form
 exact ⟨rfl, by simp [Value.cells, Value.oneCell']⟩
theorem YZ.of {b : Nat} {n1 n2 n3 n4 : Bool} {xs ys us vs : List Nat} {g1 g2 g3 g4 : Nat} {V : World}
  (h : Jr b n1 n2 xs ys (.agg #[.bool n1, .slice (some ⟨g1, 0, none⟩) xs.length (xs.length + 1), .bool n2, .slice (some ⟨g2, 0, none⟩) ys.length (ys.length + 1)]) V)
  (k : Jr b n3 n4 us vs (.agg #[.bool n3, .slice (some ⟨g3, 0, none⟩) us.length (us.length + 1), .bool n4, .slice (some ⟨g4, 0, none⟩) vs.length (vs.length + 1)]) V)
  (hq : ∀ g, Yj (.agg #[.bool n1, .slice (some ⟨g1, 0, none⟩) xs.length (xs.length + 1), .bool n2, .slice (some ⟨g2, 0, none⟩) ys.length (ys.length + 1)]) g -> ¬ Yj (.agg #[.bool n3, .slice (some ⟨g3, 0, none⟩) us.length (us.length + 1), .bool n4, .slice (some ⟨g4, 0, none⟩) vs.length (vs.length + 1)]) g) :
  YZ b n1 n2 n3 n4 xs ys us vs (.agg #[.bool n1, .slice (some ⟨g1, 0, none⟩) xs.length (xs.length + 1), .bool n2, .slice (some ⟨g2, 0, none⟩) ys.length (ys.length + 1), .bool n3, .slice (some ⟨g3, 0, none⟩) us.length (us.length + 1), .bool n4, .slice (some ⟨g4, 0, none⟩) vs.length (vs.length + 1)]) V := by
 obtain ⟨a1, a2, e, h1, h2, l1, l2, h3⟩ := h.form
 obtain ⟨a3, a4, e', k1, k2, m1, m2, k3⟩ := k.form
 simp at e e'
 obtain ⟨rfl, rfl⟩ := e
 obtain ⟨rfl, rfl⟩ := e'
 have p1 := hq g1 (.of (.inl rfl))
 have p2 := hq g2 (.of (.inr rfl))
 exact ⟨g1, g2, g3, g4, rfl, h1, h2, k1, k2, ⟨l1, l2, m1, m2⟩, h3, k3, fun e => p1 (.of (.inl (e ▸ rfl))), fun e => p1 (.of (.inr (e ▸ rfl))), fun e => p2 (.of (.inl (e ▸ rfl))), fun e => p2 (.of (.inr (e ▸ rfl)))⟩

theorem twin_gauss_own (n1 n2 n3 n4 : Bool) (Ax1 Ax2 Ax3 Ax4 : Option Addr) (cx1 cx2 cx3 cx4 : Nat) (xs ys us vs : List Nat) (w : World) (r1 : Zm w Ax1 cx1 xs) (r2 : Zm w Ax2 cx2 ys) (r3 : Zm w Ax3 cx3 us) (r4 : Zm w Ax4 cx4 vs) (hx : xs.length <= 1048576) (hy : ys.length <= 1048576) (hu : us.length <= 1048576) (hv : vs.length <= 1048576) :
   Calls Tryz.prog 7 #[.agg #[.bool n1, .slice Ax1 xs.length cx1, .bool n2, .slice Ax2 ys.length cx2, .bool n3, .slice Ax3 us.length cx3, .bool n4, .slice Ax4 vs.length cx4]] w fun e w' => ∃ v, e = .returned v /\ YZ w.heap.size n1 n2 n3 n4 xs ys us vs v w' /\ Below w.heap.size w w' := by
 have C1 := fun (V : World) (h : Zm V Ax1 cx1 xs) (g : Zm V Ax2 cx2 ys) => twin_frac_own n1 n2 Ax1 Ax2 cx1 cx2 xs ys V h g hx hy
 have C2 := fun (V : World) (h : Zm V Ax3 cx3 us) (g : Zm V Ax4 cx4 vs) => twin_frac_own n3 n4 Ax3 Ax4 cx3 cx4 us vs V h g hu hv
 have H1 := Hd C1
 have H2 := Hd C2
 clear C1 C2
 have R1 := Hd r1
 have R2 := Hd r2
 have R3 := Hd r3
 have R4 := Hd r4
 clear r1 r2 r3 r4 hx hy hu hv
 go_enter Tryz.func7, Tryz.ntmps7
 go_upto_region 1 with fail
 refine boxes2 (P := fun W => Code.wp _ _ _ _ W) fun W p0 p1 b0 => ?_
 have P_x := Hd (Yl.mk p0)
 have PR := Hd (Yl.mk p1)
 have HB := Hd b0
 clear b0 p0 p1
 have hsz := PR.out.blk.lt
 go_wp2_with fail
 refine Zd [.val (.pointer (some ⟨w.heap.size, 0, none⟩)) [], .val (.agg #[.bool n1, .slice Ax1 xs.length cx1, .bool n2, .slice Ax2 ys.length cx2]) [], .any true (fun u V => Jr w.heap.size n1 n2 xs ys u V) [], .val (.pointer (some ⟨w.heap.size, 4, none⟩)) [], .val (.agg #[.bool n3, .slice Ax3 us.length cx3, .bool n4, .slice Ax4 vs.length cx4]) [], .any true (fun u V => Jr w.heap.size n3 n4 us vs u V) [], .any false (fun u V => YZ w.heap.size n1 n2 n3 n4 xs ys us vs u V) [2, 5, 1002005], .old (w.heap.size + 1) 28 #[.bool false, .slice none 0 0, .bool false, .slice none 0 0, .bool false, .slice none 0 0, .bool false, .slice none 0 0] 0 8 6 []] (w.heap.size + 1) W [28] Yj _ Zf (by omega) (Below.refl _ _) (Zu.refl _ _ _) rfl ?_ ?_ ?_ ?_ ?_ ?_ ?_ ?_ rfl (by simp [ZP]) ?_ ?_ ?_ ?_
 iterate 8 kernel_rfl
 . simp only [Zy, and_true]
   exact ⟨fun u V V' h k => h.kept k (by decide), fun u V V' h k => h.kept k (by decide), fun u V V' h k => h.kept k (by decide)⟩
 . simp only [Z5, and_true]
   exact ⟨Nat.le_refl _, PR.out.blk.lt, PR.out.blk, by simp⟩
 . simp (maxSteps := 4000000) [ZH, YD, Zg, ZF, Zn]
   repeat' (first | apply And.intro | (intro (u : Value)) | (intro (u : Nat)))
   all_goals try exact ⟨_, _, _, rfl, rfl, rfl, rfl, JF⟩
   all_goals first
   | (intro V hV hK
      have qx : Yl V (w.heap.size) _ _ _ _ _ _ _ _ _ := ⟨P_x.out.blk.below hV (by omega)⟩
      obtain ⟨-, x0, x1, x2, x3, x4, x5, x6, x7⟩ := qx.facts
      have hvb := HB.out.trans (hV.mono (by omega))
      have hvs := hvb.size
      have g1 := Hd (R1.out.below hvb)
      have g2 := Hd (R2.out.below hvb)
      have g3 := Hd (R3.out.below hvb)
      have g4 := Hd (R4.out.below hvb)
      clear hV hK qx
      go_simp
      first
      | exact Below.refl _ _
      | ((with_reducible refine (H1.out V g1.out g2.out).mono ?_); rintro _ _ ⟨_, rfl, x, y⟩; exact ⟨x.base hvs, y, x.mine⟩)
      | ((with_reducible refine (H2.out V g3.out g4.out).mono ?_); rintro _ _ ⟨_, rfl, x, y⟩; exact ⟨x.base hvs, y, x.mine⟩))
   | (intro V hV hK h1 h2 hq
      obtain ⟨a1, a2, rfl, -⟩ := h1.form
      obtain ⟨a3, a4, rfl, -⟩ := h2.form
      clear hV hK
      go_simp
      exact ⟨YZ.of h1 h2 hq, Below.refl _ _⟩)
   | exact fun _ _ _ (h : YZ _ _ _ _ _ _ _ _ _ _ _) => h.cells
 . simp [YH, ZK, Zg, ZF, Zn]
   intro u1 u2 u3 V hV hK h1 h2 h3 bq _ _ _
   have HF := Hd h3
   obtain ⟨a1, a2, a3, a4, rfl, -⟩ := h3.form
   simp [Yd, Value.cells] at bq
   have k0 := bq.cell 0
   have k1 := bq.cell 1
   have k2 := bq.cell 2
   have k3 := bq.cell 3
   have k4 := bq.cell 4
   have k5 := bq.cell 5
   have k6 := bq.cell 6
   have k7 := bq.cell 7
   simp at k0 k1 k2 k3 k4 k5 k6 k7
   have HB9 := Hd (HB.out.trans (hV.mono (by omega)))
   clear h1 h2 h3 hV hK bq
   go_wp2_with fail
   exact bodyPost_ret (by simp [results, Tryz.results7, go_sem, k0, k1, k2, k3, k4, k5, k6, k7]) rfl ⟨_, rfl, HF.out, HB9.out⟩
end Go.Proofs.YtdonecnhdkjniaaGreatDoor
