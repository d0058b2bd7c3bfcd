/- Several texts in one: FieldLawq1, LawSumq1, GLawq1, GBigq2. -/
import Derived.Test.YthlehkjcfhnplaaGreatDoorGn35
import Derived.Test.YthlehkjcfhnplaaGreatDoorGn33
import Derived.Test.YthlehkjcfhnplaaGreatDoorGn39
import Derived.Test.YthlehkjcfhnplaaGreatDoorGn30
import Derived.Test.YthlehkjcfhnplaaGreatDoorGn31
import Derived.Test.YthlehkjcfhnplaaGreatDoorGn19
import Derived.Test.YthlehkjcfhnplaaGreatDoorGn22
import Derived.Test.YthlehkjcfhnplaaGreatDoorGn29
import Derived.Test.YthlehkjcfhnplaaGreatDoorGn21
import Derived.Test.YthlehkjcfhnplaaGreatDoorGn18
import Derived.Test.YthlehkjcfhnplaaGreatDoorGn14
import Derived.Test.YthlehkjcfhnplaaGreatDoorGn13
import Derived.Test.YthlehkjcfhnplaaGreatDoorGn20
import Derived.Test.YthlehkjcfhnplaaGreatDoorGn07
import Derived.Test.YthlehkjcfhnplaaGreatDoorGn10
import Derived.Test.YthlehkjcfhnplaaGreatDoorGn03
import Derived.Test.YthlehkjcfhnplaaGreatDoorGn02
import Derived.Test.YthlehkjcfhnplaaGreatDoorGn01
import Derived.Test.YthlehkjcfhnplaaGreatDoorGn08
import Derived.Test.YthlehkjcfhnplaaGreatDoorGn09
import Derived.Test.YthlehkjcfhnplaaGreatDoorGn05
import Derived.Test.YthlehkjcfhnplaaGreatDoorGn04
import Derived.Test.YthlehkjcfhnplaaGreatDoorGn06
import Derived.Test.YthlehkjcfhnplaaGreatDoorGn12
import Derived.Test.YthlehkjcfhnplaaGreatDoorGn11
import Derived.Test.YthlehkjcfhnplaaGreatDoorGn17
import Derived.Test.YthlehkjcfhnplaaGreatDoorGn16
import Derived.Test.YthlehkjcfhnplaaGreatDoorGn15
import Derived.Test.YthlehkjcfhnplaaGreatDoorGn28
import Derived.Test.YthlehkjcfhnplaaGreatDoorGn23
import Derived.Test.YthlehkjcfhnplaaGreatDoorGn27
import Derived.Test.YthlehkjcfhnplaaGreatDoorGn24
import Derived.Test.YthlehkjcfhnplaaGreatDoorGn25
import Derived.Test.YthlehkjcfhnplaaGreatDoorGn26
import Derived.Test.YthlehkjcfhnplaaGreatDoorGn32
import Derived.Test.YthlehkjcfhnplaaGreatDoorGn38
import Derived.Test.YthlehkjcfhnplaaGreatDoorGnHd
import Derived.Test.YthlehkjcfhnplaaGreatDoorGn36
set_option maxRecDepth 100000
set_option maxHeartbeats 8000000
/- GaussField, GaussNorms, GaussCircle as laws of rational numbers: nothing is refused. -/
namespace Go.Proofs.YthlehkjcfhnplaaGreatDoor
open Go.RowKit

theorem gadd_len (a b c e : Rat) : ln (a + c) ≤ ln a + ld a + (ln c + ld c) + 1 ∧ ld (a + c) ≤ ld a + ld c ∧ ln (b + e) ≤ ln b + ld b + (ln e + ld e) + 1 ∧ ld (b + e) ≤ ld b + ld e := by
  have p1 := ln_add a c
  have p2 := ln_add b e
  omega
theorem gmul_len2 {a b g h : Rat} {k l : Nat} (h1 : ln a ≤ k + 1) (h2 : ld a ≤ k) (h3 : ln b ≤ k + 1) (h4 : ld b ≤ k) (hz : ln g + ld g + (ln h + ld h) ≤ l) : ln (a * g - b * h) ≤ k + k + l + 2 ∧ ld (a * g - b * h) ≤ k + k + l ∧ ln (a * h + b * g) ≤ k + k + l + 2 ∧ ld (a * h + b * g) ≤ k + k + l := by
  have p5 := ln_mul a g
  have p6 := ln_mul b h
  have p7 := ln_mul a h
  have p8 := ln_mul b g
  have p9 := ln_sub (a * g) (b * h)
  have p10 := ln_add (a * h) (b * g)
  omega
theorem GIs.re_eq {a b a' b' : Rat} {n d m f : Int} (x : GIs a b n d m f) (h1 : a' = a) (h2 : b' = b) : GIs a' b' n d m f := by rw [h1, h2]; exact x
theorem field_q (a b c e g h : Rat) : (a * c - b * e) + (a * g - b * h) = a * (c + g) - b * (e + h) ∧ (a * e + b * c) + (a * h + b * g) = a * (e + h) + b * (c + g) := by constructor <;> grind
theorem field_less (a b c e g h : Rat) : a + c + g - g = a + c ∧ b + e + h - h = b + e := by constructor <;> grind
theorem field_over (a b c e g h : Rat) (h0 : ¬ (g = 0 ∧ h = 0)) : (((a * c - b * e) * g - (a * e + b * c) * h) * g + ((a * c - b * e) * h + (a * e + b * c) * g) * h) / (g * g + h * h) = a * c - b * e ∧ (((a * c - b * e) * h + (a * e + b * c) * g) * g - ((a * c - b * e) * g - (a * e + b * c) * h) * h) / (g * g + h * h) = a * e + b * c := by
  have hn : g * g + h * h ≠ 0 := fun k => h0 (sq_sum k)
  constructor <;> grind
/- sum and times of the laws: nothing is refused. (Written by wip/gauss/genlawsum.py.) -/

theorem law_sum0 {n d m f p q r s N D M E : Int} (C1 : OpG2 106 n d m f p q r s N D M E 0) (w : World) (v_x v_y : Value) (g_x : GaussAt w v_x n d m f) (g_y : GaussAt w v_y p q r s) {kk : Nat} (ck : Cell1 w kk 4 (.bool true)) :
    Calls Tryz.prog 26 #[v_x, v_y, .pointer (some ⟨kk, 0, none⟩)] w (RetGaussOwn w.heap.size w N D M E) := by
  obtain ⟨Ax1, cx1, Ax2, cx2, Ax3, cx3, Ax4, cx4, rfl, -⟩ := g_x.form
  obtain ⟨Ay1, cy1, Ay2, cy2, Ay3, cy3, Ay4, cy4, rfl, -⟩ := g_y.form
  have CK0 := Hd ck
  clear ck
  have H1 := Hd C1
  clear C1
  have G_x := Hd g_x
  have G_y := Hd g_y
  clear g_x g_y
  go_enter Tryz.func26, Tryz.ntmps26
  go_upto_region 1 with fail
  refine boxes3 (P := fun W => Code.wp _ _ _ _ W) fun W p0 p1 p2 b0 => ?_
  have P_x := Hd (Oct.mk p0)
  have P_y := Hd (Oct.mk p1)
  have PR := Hd (Oct.mk p2)
  have HB := Hd b0
  clear b0 p0 p1 p2
  have CK := Hd (CK0.out.below HB.out)
  obtain ⟨-, a_x0, a_x1, a_x2, a_x3, a_x4, a_x5, a_x6, a_x7⟩ := P_x.out.facts
  obtain ⟨-, a_y0, a_y1, a_y2, a_y3, a_y4, a_y5, a_y6, a_y7⟩ := P_y.out.facts
  go_wp2_with fail
  refine (H1.out W _ _ (G_x.out.below HB.out) (G_y.out.below HB.out)).mono ?_
  rintro e wx1 ⟨v, rfl, hI, hb⟩
  clear a_x0 a_x1 a_x2 a_x3 a_x4 a_x5 a_x6 a_x7 a_y0 a_y1 a_y2 a_y3 a_y4 a_y5 a_y6 a_y7
  have hi := hI.in_
  obtain ⟨Azz1, czz1, Azz2, czz2, Azz3, czz3, Azz4, czz4, rfl, -⟩ := hI.form
  have HS_zz := Hd HB.out.size
  have ha := (Below.refl wx1.heap.size wx1).alloc (Nat.le_refl _) (.cells #[.bool (decide (N < 0)), .slice Azz1 (natL N.natAbs).length czz1, .bool (decide (D < 0)), .slice Azz2 (natL D.natAbs).length czz2, .bool (decide (M < 0)), .slice Azz3 (natL M.natAbs).length czz3, .bool (decide (E < 0)), .slice Azz4 (natL E.natAbs).length czz4] 28)
  have hq := Oct.new wx1 28 (.bool (decide (N < 0))) (.slice Azz1 (natL N.natAbs).length czz1) (.bool (decide (D < 0))) (.slice Azz2 (natL D.natAbs).length czz2) (.bool (decide (M < 0))) (.slice Azz3 (natL M.natAbs).length czz3) (.bool (decide (E < 0))) (.slice Azz4 (natL E.natAbs).length czz4)
  have hi := hi.below ha
  have ho := hI.below ha
  have P_x := Hd (P_x.out.below hb)
  have P_y := Hd (P_y.out.below hb)
  have PR := Hd (PR.out.below hb)
  have CK := Hd (CK.out.below hb)
  have HB := Hd (belowTo HB.out hb)
  have P_x := Hd (P_x.out.below ha)
  have P_y := Hd (P_y.out.below ha)
  have PR := Hd (PR.out.below ha)
  have CK := Hd (CK.out.below ha)
  have HB := Hd (belowTo HB.out ha)
  go_upto_region 2 with fail
  obtain ⟨wy1, E⟩ : ∃ W, W = wx1.alloc (.cells #[.bool (decide (N < 0)), .slice Azz1 (natL N.natAbs).length czz1, .bool (decide (D < 0)), .slice Azz2 (natL D.natAbs).length czz2, .bool (decide (M < 0)), .slice Azz3 (natL M.natAbs).length czz3, .bool (decide (E < 0)), .slice Azz4 (natL E.natAbs).length czz4] 28) := ⟨_, rfl⟩
  obtain ⟨b_zz, hbq⟩ : ∃ q, q = wx1.heap.size := ⟨_, rfl⟩
  rw [← E] at hi ho P_x P_y PR CK HB
  rw [← E, ← hbq] at hq ⊢
  have P_zz := Hd hq
  have O_zz := Hd hi
  have Q_zz := Hd ho
  clear ho
  clear hI hi hb ha hq hbq E
  have kl := CK.out.blk.lt
  have k0 := CK.out.blk.cell 0
  have kf := CK.out.blk.frozen 0
  simp at k0
  go_upto_region 3 with fail
  obtain ⟨y2, E⟩ : ∃ W, W = wy1.setCell ⟨kk, 0, none⟩ (.bool true) := ⟨_, rfl⟩
  have hs := Go.Proofs.YthlehkjcfhnplaaGreatDoor.Below.same (Below.refl wy1.heap.size wy1) CK.out.blk
  rw [← E] at hs ⊢
  clear E kl k0 kf
  have P_x := Hd (P_x.out.below hs)
  have P_y := Hd (P_y.out.below hs)
  have P_zz := Hd (P_zz.out.below hs)
  have O_zz := Hd (O_zz.out.below hs)
  have PR := Hd (PR.out.below hs)
  have CK := Hd (CK.out.below hs)
  have Q_zz := Hd (Q_zz.out.below hs)
  have HB := Hd (belowTo HB.out hs)
  clear hs
  obtain ⟨-, a_zz0, a_zz1, a_zz2, a_zz3, a_zz4, a_zz5, a_zz6, a_zz7⟩ := P_zz.out.facts
  obtain ⟨l_r, r0, r1, r2, r3, r4, r5, r6, r7⟩ := PR.out.facts
  obtain ⟨f0, f1, f2, f3, f4, f5, f6, f7⟩ := PR.out.free
  have HQ := Hd (PR.out.store (.bool (decide (N < 0))) (.slice Azz1 (natL N.natAbs).length czz1) (.bool (decide (D < 0))) (.slice Azz2 (natL D.natAbs).length czz2) (.bool (decide (M < 0))) (.slice Azz3 (natL M.natAbs).length czz3) (.bool (decide (E < 0))) (.slice Azz4 (natL E.natAbs).length czz4))
  have HB9 := Hd (below8 HB.out (show w.heap.size ≤ w.heap.size + 1 + 1 by omega) (.bool (decide (N < 0))) (.slice Azz1 (natL N.natAbs).length czz1) (.bool (decide (D < 0))) (.slice Azz2 (natL D.natAbs).length czz2) (.bool (decide (M < 0))) (.slice Azz3 (natL M.natAbs).length czz3) (.bool (decide (E < 0))) (.slice Azz4 (natL E.natAbs).length czz4))
  have HF := Hd (Q_zz.out.oct PR.out (by decide) (.bool (decide (N < 0))) (.slice Azz1 (natL N.natAbs).length czz1) (.bool (decide (D < 0))) (.slice Azz2 (natL D.natAbs).length czz2) (.bool (decide (M < 0))) (.slice Azz3 (natL M.natAbs).length czz3) (.bool (decide (E < 0))) (.slice Azz4 (natL E.natAbs).length czz4))
  go_wp2_with fail
  obtain ⟨_, k0, k1, k2, k3, k4, k5, k6, k7⟩ := HQ.out.facts
  exact bodyPost_ret (by simp [results, Tryz.results26, go_sem, k0, k1, k2, k3, k4, k5, k6, k7]) rfl ⟨_, rfl, HF.out.base HS_zz.out, HB9.out⟩

theorem law_sum {n d m f p q r s N D M E : Int} (C1 : OpG2 106 n d m f p q r s N D M E 0) : OpS 26 n d m f p q r s N D M E := fun V v1 v2 _ g1 g2 ck => law_sum0 C1 V v1 v2 g1 g2 ck

/- GaussCost, TwinGauss, LeftGauss, SameGauss of the laws; May and Check of the numbers of chapter 03. (Written by wip/gauss/genglaw.py.) -/

theorem sameGauss_true {n d m f : Int}  (w : World) (v_x v_y : Value) (g_x : GaussAt w v_x n d m f) (g_y : GaussAt w v_y n d m f)  :
    Calls Tryz.prog 12 #[v_x, v_y] w fun e w' => e = .returned (.bool true) ∧ Below w.heap.size w w' := by
  obtain ⟨Ax1, cx1, Ax2, cx2, Ax3, cx3, Ax4, cx4, rfl, -⟩ := g_x.form
  obtain ⟨Ay1, cy1, Ay2, cy2, Ay3, cy3, Ay4, cy4, rfl, -⟩ := g_y.form
  have G_x := Hd g_x
  have G_y := Hd g_y
  clear g_x g_y
  go_enter Tryz.func12, Tryz.ntmps12
  go_upto_region 1 with fail
  refine boxes2 (P := fun W => Code.wp _ _ _ _ W) fun W p0 p1 b0 => ?_
  have P_x := Hd (Oct.mk p0)
  have P_y := Hd (Oct.mk p1)
  have HB := Hd b0
  clear b0 p0 p1
  obtain ⟨-, a_x0, a_x1, a_x2, a_x3, a_x4, a_x5, a_x6, a_x7⟩ := P_x.out.facts
  obtain ⟨-, a_y0, a_y1, a_y2, a_y3, a_y4, a_y5, a_y6, a_y7⟩ := P_y.out.facts
  go_wp2_with fail
  refine (sameFrac_true _ _ n d W (G_x.out.below HB.out).re (G_y.out.below HB.out).re).mono ?_
  rintro e wx1 ⟨rfl, hb⟩
  clear a_x0 a_x1 a_x2 a_x3 a_x4 a_x5 a_x6 a_x7 a_y0 a_y1 a_y2 a_y3 a_y4 a_y5 a_y6 a_y7
  have P_x := Hd (P_x.out.below hb)
  have P_y := Hd (P_y.out.below hb)
  have HB := Hd (belowTo HB.out hb)
  clear hb
  obtain ⟨-, a_x0, a_x1, a_x2, a_x3, a_x4, a_x5, a_x6, a_x7⟩ := P_x.out.facts
  obtain ⟨-, a_y0, a_y1, a_y2, a_y3, a_y4, a_y5, a_y6, a_y7⟩ := P_y.out.facts
  go_wp2_with fail
  refine (sameFrac_true _ _ m f wx1 (G_x.out.below HB.out).im (G_y.out.below HB.out).im).mono ?_
  rintro e wx2 ⟨rfl, hb⟩
  clear a_x0 a_x1 a_x2 a_x3 a_x4 a_x5 a_x6 a_x7 a_y0 a_y1 a_y2 a_y3 a_y4 a_y5 a_y6 a_y7
  have P_x := Hd (P_x.out.below hb)
  have P_y := Hd (P_y.out.below hb)
  have HB := Hd (belowTo HB.out hb)
  clear hb
  go_wp2_with fail
  go_ret
  exact ⟨rfl, HB.out⟩
/- GaussSize, big of the laws; Check of gauss and of the references. (Written by wip/gauss/genbig.py.) -/

theorem big_3 {n1 n2 n3 n4 : Bool} {xs ys us vs : List Nat} {Ax1 Ax2 Ax3 Ax4 : Option Addr} {cx1 cx2 cx3 cx4 : Nat} {m1 m2 m3 m4 : Bool} {ps qs ks ts : List Nat} {Ay1 Ay2 Ay3 Ay4 : Option Addr} {cy1 cy2 cy3 cy4 : Nat} {k1 k2 k3 k4 : Bool} {os bs cs ds : List Nat} {Az1 Az2 Az3 Az4 : Option Addr} {cz1 cz2 cz3 cz4 : Nat} (b : Bool) (hx : lens4 xs ys us vs) (hy : lens4 ps qs ks ts) (hz : lens4 os bs cs ds) (hb : b = (decide (300 < 1 + xs.length + (1 + ys.length) + (1 + us.length + (1 + vs.length))) || (decide (300 < 1 + ps.length + (1 + qs.length) + (1 + ks.length + (1 + ts.length))) || (decide (300 < 1 + os.length + (1 + bs.length) + (1 + cs.length + (1 + ds.length))))))) (V : World) (g : Nat) (hg : V.heap.size = g) (gx : GaussRaw V (.agg #[.bool n1, .slice Ax1 xs.length cx1, .bool n2, .slice Ax2 ys.length cx2, .bool n3, .slice Ax3 us.length cx3, .bool n4, .slice Ax4 vs.length cx4]) n1 n2 n3 n4 xs ys us vs) (gy : GaussRaw V (.agg #[.bool m1, .slice Ay1 ps.length cy1, .bool m2, .slice Ay2 qs.length cy2, .bool m3, .slice Ay3 ks.length cy3, .bool m4, .slice Ay4 ts.length cy4]) m1 m2 m3 m4 ps qs ks ts) (gz : GaussRaw V (.agg #[.bool k1, .slice Az1 os.length cz1, .bool k2, .slice Az2 bs.length cz2, .bool k3, .slice Az3 cs.length cz3, .bool k4, .slice Az4 ds.length cz4]) k1 k2 k3 k4 os bs cs ds) :
    Calls Tryz.prog 25 #[.slice (some ⟨g, 0, none⟩) 3 3] (V.alloc (.cells #[.bool n1, .slice Ax1 xs.length cx1, .bool n2, .slice Ax2 ys.length cx2, .bool n3, .slice Ax3 us.length cx3, .bool n4, .slice Ax4 vs.length cx4, .bool m1, .slice Ay1 ps.length cy1, .bool m2, .slice Ay2 qs.length cy2, .bool m3, .slice Ay3 ks.length cy3, .bool m4, .slice Ay4 ts.length cy4, .bool k1, .slice Az1 os.length cz1, .bool k2, .slice Az2 bs.length cz2, .bool k3, .slice Az3 cs.length cz3, .bool k4, .slice Az4 ds.length cz4] 28)) fun e w' => e = .returned (.bool b) ∧ Below (V.alloc (.cells #[.bool n1, .slice Ax1 xs.length cx1, .bool n2, .slice Ax2 ys.length cx2, .bool n3, .slice Ax3 us.length cx3, .bool n4, .slice Ax4 vs.length cx4, .bool m1, .slice Ay1 ps.length cy1, .bool m2, .slice Ay2 qs.length cy2, .bool m3, .slice Ay3 ks.length cy3, .bool m4, .slice Ay4 ts.length cy4, .bool k1, .slice Az1 os.length cz1, .bool k2, .slice Az2 bs.length cz2, .bool k3, .slice Az3 cs.length cz3, .bool k4, .slice Az4 ds.length cz4] 28)).heap.size (V.alloc (.cells #[.bool n1, .slice Ax1 xs.length cx1, .bool n2, .slice Ax2 ys.length cx2, .bool n3, .slice Ax3 us.length cx3, .bool n4, .slice Ax4 vs.length cx4, .bool m1, .slice Ay1 ps.length cy1, .bool m2, .slice Ay2 qs.length cy2, .bool m3, .slice Ay3 ks.length cy3, .bool m4, .slice Ay4 ts.length cy4, .bool k1, .slice Az1 os.length cz1, .bool k2, .slice Az2 bs.length cz2, .bool k3, .slice Az3 cs.length cz3, .bool k4, .slice Az4 ds.length cz4] 28)) w' := by
  have ha := (Below.refl V.heap.size V).alloc (Nat.le_refl _) (.cells #[.bool n1, .slice Ax1 xs.length cx1, .bool n2, .slice Ax2 ys.length cx2, .bool n3, .slice Ax3 us.length cx3, .bool n4, .slice Ax4 vs.length cx4, .bool m1, .slice Ay1 ps.length cy1, .bool m2, .slice Ay2 qs.length cy2, .bool m3, .slice Ay3 ks.length cy3, .bool m4, .slice Ay4 ts.length cy4, .bool k1, .slice Az1 os.length cz1, .bool k2, .slice Az2 bs.length cz2, .bool k3, .slice Az3 cs.length cz3, .bool k4, .slice Az4 ds.length cz4] 28)
  have := big_list [⟨⟨n1, Ax1, xs.length, cx1, n2, Ax2, ys.length, cx2⟩, ⟨n3, Ax3, us.length, cx3, n4, Ax4, vs.length, cx4⟩⟩, ⟨⟨m1, Ay1, ps.length, cy1, m2, Ay2, qs.length, cy2⟩, ⟨m3, Ay3, ks.length, cy3, m4, Ay4, ts.length, cy4⟩⟩, ⟨⟨k1, Az1, os.length, cz1, k2, Az2, bs.length, cz2⟩, ⟨k3, Az3, cs.length, cz3, k4, Az4, ds.length, cz4⟩⟩] b (some ⟨g, 0, none⟩) 3 (by simp) (by rw [hb]; simp only [List.any_cons, List.any_nil, Bool.or_false]; rfl) (V.alloc (.cells #[.bool n1, .slice Ax1 xs.length cx1, .bool n2, .slice Ax2 ys.length cx2, .bool n3, .slice Ax3 us.length cx3, .bool n4, .slice Ax4 vs.length cx4, .bool m1, .slice Ay1 ps.length cy1, .bool m2, .slice Ay2 qs.length cy2, .bool m3, .slice Ay3 ks.length cy3, .bool m4, .slice Ay4 ts.length cy4, .bool k1, .slice Az1 os.length cz1, .bool k2, .slice Az2 bs.length cz2, .bool k3, .slice Az3 cs.length cz3, .bool k4, .slice Az4 ds.length cz4] 28)) (by subst hg; exact Reads.blk (Blk.new V 28 _) rfl) (fun q hq V' hV' => by
    simp only [List.mem_cons, List.not_mem_nil, or_false] at hq
    rcases hq with rfl | rfl | rfl
    · exact gauss_size hx.1.1 hx.1.2 hx.2.1 hx.2.2 V' _ ((gx.below ha).below hV')
    · exact gauss_size hy.1.1 hy.1.2 hy.2.1 hy.2.2 V' _ ((gy.below ha).below hV')
    · exact gauss_size hz.1.1 hz.1.2 hz.2.1 hz.2.2 V' _ ((gz.below ha).below hV'))
  simpa using this

end Go.Proofs.YthlehkjcfhnplaaGreatDoor
