/- Several texts in one: Parts, PartsLaw, GOfs, GText. -/
import Derived.Test.YthlehkjcfhnplaaGreatDoorGc33
import Derived.Test.YthlehkjcfhnplaaGreatDoorGcHd
import Derived.Test.YthlehkjcfhnplaaGreatDoorGc32
import Derived.Test.YthlehkjcfhnplaaGreatDoorGc23
set_option maxRecDepth 100000
set_option maxHeartbeats 8000000
/- Conj, Norm, Unit of gauss; Mirrored, Square, OnCircle, Unit of the references. (Written by wip/gauss/genparts.py.) -/
namespace Go.Proofs.YthlehkjcfhnplaaGreatDoor
open Go.RowKit

abbrev OpU (F : FuncId) (n d N D M E : Int) : Prop := ∀ (V : World) (v : Value), FracAt V v n d → Calls Tryz.prog F #[v] V (RetGaussOwn V.heap.size V N D M E)
abbrev OpUI (F : FuncId) (n d N D M E : Int) : Prop := ∀ (V : World) (v : Value), FracAt V v n d → Calls Tryz.prog F #[v] V (RetGaussIn V N D M E)
def RetFracIn2 (w : World) (n d k : Int) (e : Ending) (w' : World) : Prop := ∃ v, e = .returned (.tuple #[v, .int .i64 k]) ∧ FracIn w' 0 v n d ∧ Below w.heap.size w w'

theorem gauss_Norm_fits {n d m f N D : Int} (C1 : MayG 55 (decide (n < 0)) (decide (d < 0)) (decide (m < 0)) (decide (f < 0)) (natL n.natAbs) (natL d.natAbs) (natL m.natAbs) (natL f.natAbs) true) (C2 : OpN 122 n d m f N D) (hb : (decide (2048 < (natL N.natAbs).length) || decide (2048 < (natL D.natAbs).length)) = false) (w : World) (v_x : Value) (g_x : GaussAt w v_x n d m f)  :
    Calls Tryz.prog 33 #[v_x] w (RetFracOwn2 w.heap.size w N D 0) := by
  obtain ⟨Ax1, cx1, Ax2, cx2, Ax3, cx3, Ax4, cx4, rfl, -⟩ := g_x.form
  have HLB := Hd hb
  clear hb
  have H1 := Hd C1
  have H2 := Hd C2
  clear C1 C2
  have G_x := Hd g_x
  clear g_x
  go_enter Tryz.func33, Tryz.ntmps33
  go_upto_region 1 with fail
  refine boxes2 (P := fun W => Code.wp _ _ _ _ W) fun W p0 p1 b0 => ?_
  have P_x := Hd (Oct.mk p0)
  have PR := Hd (Quad.mk p1)
  have HB := Hd b0
  clear b0 p0 p1
  obtain ⟨-, a_x0, a_x1, a_x2, a_x3, a_x4, a_x5, a_x6, a_x7⟩ := P_x.out.facts
  go_wp2_with fail
  refine (H1.out W _ (G_x.out.below HB.out).raw).mono ?_
  rintro e wx1 ⟨rfl, hb⟩
  clear a_x0 a_x1 a_x2 a_x3 a_x4 a_x5 a_x6 a_x7
  have P_x := Hd (P_x.out.below hb)
  have PR := Hd (PR.out.below hb)
  have HB := Hd (belowTo HB.out hb)
  clear hb
  obtain ⟨-, a_x0, a_x1, a_x2, a_x3, a_x4, a_x5, a_x6, a_x7⟩ := P_x.out.facts
  go_wp2_with fail
  refine (H2.out wx1 _ (G_x.out.below HB.out)).mono ?_
  rintro e wx2 ⟨v, rfl, hI, hb⟩
  clear a_x0 a_x1 a_x2 a_x3 a_x4 a_x5 a_x6 a_x7
  have hi := hI.in_
  obtain ⟨Ann1, cnn1, Ann2, cnn2, rfl, -⟩ := hI.form
  have HS_nn := Hd HB.out.size
  have ha := (Below.refl wx2.heap.size wx2).alloc (Nat.le_refl _) (.cells #[.bool (decide (N < 0)), .slice Ann1 (natL N.natAbs).length cnn1, .bool (decide (D < 0)), .slice Ann2 (natL D.natAbs).length cnn2] 26)
  have hq := Quad.new wx2 (.bool (decide (N < 0))) (.slice Ann1 (natL N.natAbs).length cnn1) (.bool (decide (D < 0))) (.slice Ann2 (natL D.natAbs).length cnn2)
  have hi := hi.below ha
  have ho := hI.below ha
  have P_x := Hd (P_x.out.below hb)
  have PR := Hd (PR.out.below hb)
  have HB := Hd (belowTo HB.out hb)
  have P_x := Hd (P_x.out.below ha)
  have PR := Hd (PR.out.below ha)
  have HB := Hd (belowTo HB.out ha)
  go_upto_region 4 with fail
  obtain ⟨wy2, E⟩ : ∃ W, W = wx2.alloc (.cells #[.bool (decide (N < 0)), .slice Ann1 (natL N.natAbs).length cnn1, .bool (decide (D < 0)), .slice Ann2 (natL D.natAbs).length cnn2] 26) := ⟨_, rfl⟩
  obtain ⟨b_nn, hbq⟩ : ∃ q, q = wx2.heap.size := ⟨_, rfl⟩
  rw [← E] at hi ho P_x PR HB
  rw [← E, ← hbq] at hq ⊢
  have P_nn := Hd hq
  have O_nn := Hd hi
  have Q_nn := Hd ho
  clear ho
  clear hI hi hb ha hq hbq E
  have l1 : (natL N.natAbs).length ≤ 9223372036854775807 := by have := O_nn.out.at_.raws.1.cap; have := O_nn.out.at_.raws.1.most; omega
  have l2 : (natL D.natAbs).length ≤ 9223372036854775807 := by have := O_nn.out.at_.raws.2.cap; have := O_nn.out.at_.raws.2.most; omega
  obtain ⟨-, a_nn0, a_nn1, a_nn2, a_nn3, -, -, -, -⟩ := P_nn.out.facts
  go_wp2_with fail
  refine (ratio_Answer_false _ _ _ _ _ _ _ _ wy2.heap.size l1 l2 HLB.out (wy2.alloc (.cells #[.bool (decide (N < 0)), .slice Ann1 (natL N.natAbs).length cnn1, .bool (decide (D < 0)), .slice Ann2 (natL D.natAbs).length cnn2] 26)) (Quad.new wy2 _ _ _ _)).mono ?_
  rintro e wx9 ⟨rfl, hb⟩
  have hb := ((Below.refl wy2.heap.size wy2).alloc (Nat.le_refl _) (.cells #[.bool (decide (N < 0)), .slice Ann1 (natL N.natAbs).length cnn1, .bool (decide (D < 0)), .slice Ann2 (natL D.natAbs).length cnn2] 26)).trans (hb.mono (by simp))
  clear a_nn0 a_nn1 a_nn2 a_nn3
  have P_x := Hd (P_x.out.below hb)
  have P_nn := Hd (P_nn.out.below hb)
  have O_nn := Hd (O_nn.out.below hb)
  have PR := Hd (PR.out.below hb)
  have Q_nn := Hd (Q_nn.out.below hb)
  have HB := Hd (belowTo HB.out hb)
  clear hb l1 l2
  obtain ⟨-, a_nn0, a_nn1, a_nn2, a_nn3, -, -, -, -⟩ := P_nn.out.facts
  obtain ⟨l_r, r0, r1, r2, r3, f0, f1, f2, f3⟩ := PR.out.facts
  have HQ := Hd (PR.out.store (.bool (decide (N < 0))) (.slice Ann1 (natL N.natAbs).length cnn1) (.bool (decide (D < 0))) (.slice Ann2 (natL D.natAbs).length cnn2))
  have HB9 := Hd (below4 HB.out (show w.heap.size ≤ w.heap.size + 1 by omega) (.bool (decide (N < 0))) (.slice Ann1 (natL N.natAbs).length cnn1) (.bool (decide (D < 0))) (.slice Ann2 (natL D.natAbs).length cnn2))
  have HF := Hd (Q_nn.out.quad PR.out (.bool (decide (N < 0))) (.slice Ann1 (natL N.natAbs).length cnn1) (.bool (decide (D < 0))) (.slice Ann2 (natL D.natAbs).length cnn2))
  go_wp2_with fail
  obtain ⟨_, k0, k1, k2, k3, _, _, _, _⟩ := HQ.out.facts
  exact bodyPost_ret (by simp [results, Tryz.results33, go_sem, k0, k1, k2, k3]) rfl ⟨_, rfl, HF.out.base HS_nn.out, HB9.out⟩

/- Conj and Norm: both sides' answers, of whatever comes in. -/

/- Small and Of: numbers of two small parts. (Written by wip/gauss/genofs.py.) -/

theorem low_int (z : Int) : lowN z 1 = z ∧ lowD z 1 = 1 := by
  have h1 := is_low z (d := 1) (by decide)
  have h2 := is_of (n := z) (d := 1) (by decide) (by unfold gcdZ; simp)
  exact h1.uniq h2
abbrev Of2 (F : FuncId) (z0 z1 o : Int) : Prop := ∀ V : World, Calls Tryz.prog F #[.int .i64 z0, .int .i64 z1] V (RetGaussOwn V.heap.size V z0 o z1 o)
abbrev Of2I (F : FuncId) (z0 z1 o : Int) : Prop := ∀ V : World, Calls Tryz.prog F #[.int .i64 z0, .int .i64 z1] V (RetGaussIn V z0 o z1 o)
abbrev OfR (F : FuncId) (z o : Int) : Prop := ∀ V : World, Calls Tryz.prog F #[.int .i64 z, .int .i64 1] V (RetFracOwn V.heap.size V z o)
abbrev OfI (F : FuncId) (z o : Int) : Prop := ∀ V : World, Calls Tryz.prog F #[.int .i64 z, .int .i64 1] V (RetFracIn V z o)

theorem argand_Small {z0 z1 o : Int} (C1 : OfR 156 z0 o) (C2 : OfR 156 z1 o) (w : World)   :
    Calls Tryz.prog 53 #[.int .i64 z0, .int .i64 z1] w (RetGaussOwn w.heap.size w z0 o z1 o) := by
  have H1 := Hd C1
  have H2 := Hd C2
  clear C1 C2
  go_enter Tryz.func53, Tryz.ntmps53
  go_upto_region 1 with fail
  refine boxes1 (P := fun W => Code.wp _ _ _ _ W) fun W p0 b0 => ?_
  have PR := Hd (Oct.mk p0)
  have HB := Hd b0
  clear b0 p0
  go_wp2_with fail
  refine (H1.out W).mono ?_
  rintro e wx1 ⟨v, rfl, hI, hb⟩
  obtain ⟨A6, c6, A7, c7, rfl, -⟩ := hI.form
  have I1 := Hd (hI.base HB.out.size)
  have M1 := Hd (show ∀ g, blkFrac (.agg #[.bool (decide (z0 < 0)), .slice A6 (natL z0.natAbs).length c6, .bool (decide (o < 0)), .slice A7 (natL o.natAbs).length c7]) g → g < wx1.heap.size from fun g hg => (hI.mine g hg).2)
  clear hI
  have PR := Hd (PR.out.below hb)
  have HB := Hd (belowTo HB.out hb)
  clear hb
  go_wp2_with fail
  refine (H2.out wx1).mono ?_
  rintro e wx2 ⟨v, rfl, hI, hb⟩
  obtain ⟨A8, c8, A9, c9, rfl, -⟩ := hI.form
  have I2 := Hd (hI.base HB.out.size)
  have AP := Hd (show ∀ g, blkFrac (.agg #[.bool (decide (z0 < 0)), .slice A6 (natL z0.natAbs).length c6, .bool (decide (o < 0)), .slice A7 (natL o.natAbs).length c7]) g → ¬ blkFrac (.agg #[.bool (decide (z1 < 0)), .slice A8 (natL z1.natAbs).length c8, .bool (decide (o < 0)), .slice A9 (natL o.natAbs).length c9]) g from fun g hg hg2 => by have a := M1.out g hg; have b := (hI.mine g hg2).1; omega)
  clear hI
  have PR := Hd (PR.out.below hb)
  have I1 := Hd (I1.out.below hb)
  have HB := Hd (belowTo HB.out hb)
  clear hb
  obtain ⟨l_r, r0, r1, r2, r3, r4, r5, r6, r7⟩ := PR.out.facts
  obtain ⟨f0, f1, f2, f3, f4, f5, f6, f7⟩ := PR.out.free
  have HQ := Hd (PR.out.store (.bool (decide (z0 < 0))) (.slice A6 (natL z0.natAbs).length c6) (.bool (decide (o < 0))) (.slice A7 (natL o.natAbs).length c7) (.bool (decide (z1 < 0))) (.slice A8 (natL z1.natAbs).length c8) (.bool (decide (o < 0))) (.slice A9 (natL o.natAbs).length c9))
  have HB9 := Hd (below8 HB.out (show w.heap.size ≤ w.heap.size by omega) (.bool (decide (z0 < 0))) (.slice A6 (natL z0.natAbs).length c6) (.bool (decide (o < 0))) (.slice A7 (natL o.natAbs).length c7) (.bool (decide (z1 < 0))) (.slice A8 (natL z1.natAbs).length c8) (.bool (decide (o < 0))) (.slice A9 (natL o.natAbs).length c9))
  have HF := Hd ((show GaussOwn wx2 w.heap.size (.agg #[.bool (decide (z0 < 0)), .slice A6 (natL z0.natAbs).length c6, .bool (decide (o < 0)), .slice A7 (natL o.natAbs).length c7, .bool (decide (z1 < 0)), .slice A8 (natL z1.natAbs).length c8, .bool (decide (o < 0)), .slice A9 (natL o.natAbs).length c9]) z0 o z1 o from ⟨_, _, _, _, _, _, _, _, rfl, I1.out, I2.out, AP.out⟩).oct PR.out (by decide) (.bool (decide (z0 < 0))) (.slice A6 (natL z0.natAbs).length c6) (.bool (decide (o < 0))) (.slice A7 (natL o.natAbs).length c7) (.bool (decide (z1 < 0))) (.slice A8 (natL z1.natAbs).length c8) (.bool (decide (o < 0))) (.slice A9 (natL o.natAbs).length c9))
  go_wp2_with fail
  obtain ⟨_, k0, k1, k2, k3, k4, k5, k6, k7⟩ := HQ.out.facts
  exact bodyPost_ret (by simp [results, Tryz.results53, go_sem, k0, k1, k2, k3, k4, k5, k6, k7]) rfl ⟨_, rfl, HF.out, HB9.out⟩

theorem gauss_Of {N D M E z0 z1 : Int} (C1 : ∀ V : World, Calls Tryz.prog 53 #[.int .i64 z0, .int .i64 z1] V (RetGaussOwn V.heap.size V N D M E)) (w : World)   :
    Calls Tryz.prog 11 #[.int .i64 z0, .int .i64 z1] w (RetGaussOwn w.heap.size w N D M E) := by
  have H1 := Hd C1
  clear C1
  go_enter Tryz.func11, Tryz.ntmps11
  go_upto_region 1 with fail
  refine boxes1 (P := fun W => Code.wp _ _ _ _ W) fun W p0 b0 => ?_
  have PR := Hd (Oct.mk p0)
  have HB := Hd b0
  clear b0 p0
  go_wp2_with fail
  refine (H1.out W).mono ?_
  rintro e w9 ⟨v, rfl, hI, hb⟩
  have HI := Hd hI
  obtain ⟨A6, c6, A7, c7, A8, c8, A9, c9, rfl, -⟩ := hI.form
  have pr := PR.out.below hb
  have hb9 := belowTo HB.out hb
  obtain ⟨l_r, r0, r1, r2, r3, r4, r5, r6, r7⟩ := pr.facts
  obtain ⟨f0, f1, f2, f3, f4, f5, f6, f7⟩ := pr.free
  have HQ := Hd (pr.store (.bool (decide (N < 0))) (.slice A6 (natL N.natAbs).length c6) (.bool (decide (D < 0))) (.slice A7 (natL D.natAbs).length c7) (.bool (decide (M < 0))) (.slice A8 (natL M.natAbs).length c8) (.bool (decide (E < 0))) (.slice A9 (natL E.natAbs).length c9))
  have HB9 := Hd (below8 hb9 (show w.heap.size ≤ w.heap.size by omega) (.bool (decide (N < 0))) (.slice A6 (natL N.natAbs).length c6) (.bool (decide (D < 0))) (.slice A7 (natL D.natAbs).length c7) (.bool (decide (M < 0))) (.slice A8 (natL M.natAbs).length c8) (.bool (decide (E < 0))) (.slice A9 (natL E.natAbs).length c9))
  have HF := Hd (HI.out.oct pr (by decide) (.bool (decide (N < 0))) (.slice A6 (natL N.natAbs).length c6) (.bool (decide (D < 0))) (.slice A7 (natL D.natAbs).length c7) (.bool (decide (M < 0))) (.slice A8 (natL M.natAbs).length c8) (.bool (decide (E < 0))) (.slice A9 (natL E.natAbs).length c9))
  clear hb hb9 pr hI
  go_wp2_with fail
  obtain ⟨_, k0, k1, k2, k3, k4, k5, k6, k7⟩ := HQ.out.facts
  exact bodyPost_ret (by simp [results, Tryz.results11, go_sem, k0, k1, k2, k3, k4, k5, k6, k7]) rfl ⟨_, rfl, HF.out.base HB.out.size, HB9.out⟩

section
variable {z0 z1 : Int} (o : Int) (ho : o = 1) (h1 : -9223372036854775808 ≤ z0) (h2 : z0 ≤ 9223372036854775807) (h3 : -9223372036854775808 ≤ z1) (h4 : z1 ≤ 9223372036854775807)
include ho h1 h2 h3 h4
theorem of_g : Of2 11 z0 z1 o := by
  subst ho
  have C1 : OfR 156 z0 1 := fun V => by have k := small_own (n := z0) (d := 1) h1 h2 (by decide) (by decide) (by decide) V; rw [(low_int z0).1, (low_int z0).2] at k; exact k
  have C2 : OfR 156 z1 1 := fun V => by have k := small_own (n := z1) (d := 1) h3 h4 (by decide) (by decide) (by decide) V; rw [(low_int z1).1, (low_int z1).2] at k; exact k
  exact gauss_Of (argand_Small C1 C2)
end
theorem gis_int (z0 z1 : Int) (h1 : -9223372036854775808 ≤ z0) (h2 : z0 ≤ 9223372036854775807) (h3 : -9223372036854775808 ≤ z1) (h4 : z1 ≤ 9223372036854775807) : GIs (z0 : Rat) (z1 : Rat) z0 1 z1 1 :=
  GIs.mk_ (is_int z0) (is_int z1) (Nat.le_trans (lz_i64 h1 h2) (by decide)) (by decide +kernel) (Nat.le_trans (lz_i64 h3 h4) (by decide)) (by decide +kernel)
/- second and Text of package gauss; second, Digits and Text of the references of chapter 03. (Written by wip/gauss/gengtext.py.) -/

abbrev DigF (F : FuncId) (n d : Int) (t : ByteArray) : Prop := ∀ (V : World) (v : Value), powTab V → FracAt V v n d → Calls Tryz.prog F #[v] V fun e w' => e = .returned (.string t) ∧ Below V.heap.size V w'

theorem gauss_second_more {n d : Int} (t u : ByteArray) (C1 : DigF 147 n d t) (h1 : ¬ t.data.toList = [49]) (h2 : ¬ t.data.toList = [45, 49]) (hs : t.size < 9223372036854775807) (hu : u = t ++ ⟨#[105]⟩) (w : World) (v_y : Value) (g_y : FracAt w v_y n d) (htab : powTab w) :
    Calls Tryz.prog 148 #[v_y] w (fun e w' => e = .returned (.string u) ∧ Below w.heap.size w w') := by
  obtain ⟨Ay1, cy1, Ay2, cy2, rfl, -⟩ := g_y.form
  have HT := Hd htab
  clear htab
  have H1 := Hd C1
  clear C1
  have hb : (t.toList == [49]) = false := by rw [ByteArray.toList_eq, beq_eq_false_iff_ne]; exact h1
  have hd : (t.toList == [45, 49]) = false := by rw [ByteArray.toList_eq, beq_eq_false_iff_ne]; exact h2
  have he : ¬ 9223372036854775807 < t.size + 1 := by omega
  have HU := Hd hu
  clear h1 h2 hs hu
  have G_y := Hd g_y
  clear g_y
  go_enter Tryz.func148, Tryz.ntmps148
  go_upto_region 1 with fail
  refine boxes1 (P := fun W => Code.wp _ _ _ _ W) fun W p0 b0 => ?_
  have P_y := Hd (Quad.mk p0)
  have HB := Hd b0
  clear b0 p0
  obtain ⟨-, a_y0, a_y1, a_y2, a_y3, -, -, -, -⟩ := P_y.out.facts
  go_wp2_with fail
  refine (H1.out W _ (HT.out.below2 HB.out) (G_y.out.below HB.out)).mono ?_
  rintro e wx1 ⟨rfl, hb⟩
  clear a_y0 a_y1 a_y2 a_y3
  have P_y := Hd (P_y.out.below hb)
  have HB := Hd (belowTo HB.out hb)
  clear hb
  go_wp2_with fail
  go_ret
  exact ⟨by rw [HU.out]; rfl, HB.out⟩

theorem gauss_Text_Bp {n d m f s0 s1 : Int} {t1 t2 u : ByteArray} (C1 : MayG 55 (decide (n < 0)) (decide (d < 0)) (decide (m < 0)) (decide (f < 0)) (natL n.natAbs) (natL d.natAbs) (natL m.natAbs) (natL f.natAbs) true) (C2 : SgnF 138 n d s0) (C3 : SgnF 138 m f s1) (z0 : (s0 == 0) = false) (z1 : (s1 == 0) = false) (z2 : 0 < s1) (C4 : DigF 147 n d t1) (C5 : DigF 148 m f t2) (hu : u = t1 ++ ⟨#[43]⟩ ++ t2) (q1 : t1.size ≤ 1000000) (q2 : t2.size ≤ 1000000) (q3 : ¬ t1.data.toList = []) (hl : u.size ≤ 65536) (w : World) (v_x : Value) (g_x : GaussAt w v_x n d m f) (htab : powTab w) :
    Calls Tryz.prog 49 #[v_x] w (fun e w' => e = .returned (.tuple #[.string u, .int .i64 0]) ∧ Below w.heap.size w w') := by
  obtain ⟨Ax1, cx1, Ax2, cx2, Ax3, cx3, Ax4, cx4, rfl, -⟩ := g_x.form
  have HT := Hd htab
  clear htab
  have _ := q1
  have _ := q2
  have _ := q3
  have HU := Hd hu
  rw [hu] at hl
  have e1 : (⟨#[43]⟩ : ByteArray).size = 1 := rfl
  rw [ByteArray.size_append, ByteArray.size_append, e1] at hl
  have w1 : ¬ 9223372036854775807 < t1.size + 1 := by omega
  have w2 : ¬ 9223372036854775807 < t1.size + 1 + t2.size := by omega
  have hne : ¬ t1.toList = [] := by rw [ByteArray.toList_eq]; exact q3
  have hne2 : t1.toList.isEmpty = false := by rw [ByteArray.toList_eq]; exact List.isEmpty_eq_false_iff.2 q3
  have hne3 : (t1.toList == []) = false := by rw [beq_eq_false_iff_ne]; exact hne
  have hne4 : (t1.toList != []) = true := by rw [bne, hne3]; rfl
  have z3 : (s0 != 0) = true := by rw [bne, z0]; rfl
  have z4 : (s1 != 0) = true := by rw [bne, z1]; rfl
  have hl2 : (t1.size : Int) + 1 + (t2.size : Int) ≤ 65536 := by omega
  clear hu hl q1 q2 q3 e1
  have H1 := Hd C1
  have H2 := Hd C2
  have H3 := Hd C3
  have H4 := Hd C4
  have H5 := Hd C5
  clear C1 C2 C3 C4 C5
  have G_x := Hd g_x
  clear g_x
  go_enter Tryz.func49, Tryz.ntmps49
  go_upto_region 1 with fail
  refine boxes1 (P := fun W => Code.wp _ _ _ _ W) fun W p0 b0 => ?_
  have P_x := Hd (Oct.mk p0)
  have HB := Hd b0
  clear b0 p0
  obtain ⟨-, a_x0, a_x1, a_x2, a_x3, a_x4, a_x5, a_x6, a_x7⟩ := P_x.out.facts
  go_wp2_with fail
  refine (H1.out W _ (G_x.out.below HB.out).raw).mono ?_
  rintro e wx1 ⟨rfl, hb⟩
  clear a_x0 a_x1 a_x2 a_x3 a_x4 a_x5 a_x6 a_x7
  have P_x := Hd (P_x.out.below hb)
  have HB := Hd (belowTo HB.out hb)
  clear hb
  obtain ⟨-, a_x0, a_x1, a_x2, a_x3, a_x4, a_x5, a_x6, a_x7⟩ := P_x.out.facts
  go_wp2_with fail
  refine (H2.out wx1 _ (G_x.out.below HB.out).re).mono ?_
  rintro e wx2 ⟨rfl, hb⟩
  clear a_x0 a_x1 a_x2 a_x3 a_x4 a_x5 a_x6 a_x7
  have P_x := Hd (P_x.out.below hb)
  have HB := Hd (belowTo HB.out hb)
  clear hb
  obtain ⟨-, a_x0, a_x1, a_x2, a_x3, a_x4, a_x5, a_x6, a_x7⟩ := P_x.out.facts
  go_wp2_with fail
  refine (H4.out wx2 _ (HT.out.below2 HB.out) (G_x.out.below HB.out).re).mono ?_
  rintro e wx3 ⟨rfl, hb⟩
  clear a_x0 a_x1 a_x2 a_x3 a_x4 a_x5 a_x6 a_x7
  have P_x := Hd (P_x.out.below hb)
  have HB := Hd (belowTo HB.out hb)
  clear hb
  obtain ⟨-, a_x0, a_x1, a_x2, a_x3, a_x4, a_x5, a_x6, a_x7⟩ := P_x.out.facts
  go_wp2_with fail
  refine (H3.out wx3 _ (G_x.out.below HB.out).im).mono ?_
  rintro e wx4 ⟨rfl, hb⟩
  clear a_x0 a_x1 a_x2 a_x3 a_x4 a_x5 a_x6 a_x7
  have P_x := Hd (P_x.out.below hb)
  have HB := Hd (belowTo HB.out hb)
  clear hb
  obtain ⟨-, a_x0, a_x1, a_x2, a_x3, a_x4, a_x5, a_x6, a_x7⟩ := P_x.out.facts
  go_wp2_with fail
  refine (H3.out wx4 _ (G_x.out.below HB.out).im).mono ?_
  rintro e wx5 ⟨rfl, hb⟩
  clear a_x0 a_x1 a_x2 a_x3 a_x4 a_x5 a_x6 a_x7
  have P_x := Hd (P_x.out.below hb)
  have HB := Hd (belowTo HB.out hb)
  clear hb
  obtain ⟨-, a_x0, a_x1, a_x2, a_x3, a_x4, a_x5, a_x6, a_x7⟩ := P_x.out.facts
  go_wp2_with fail
  refine (H5.out wx5 _ (HT.out.below2 HB.out) (G_x.out.below HB.out).im).mono ?_
  rintro e wx6 ⟨rfl, hb⟩
  clear a_x0 a_x1 a_x2 a_x3 a_x4 a_x5 a_x6 a_x7
  have P_x := Hd (P_x.out.below hb)
  have HB := Hd (belowTo HB.out hb)
  clear hb
  go_wp2_with fail
  go_ret2
  exact ⟨by rw [HU.out]; rfl, HB.out⟩

end Go.Proofs.YthlehkjcfhnplaaGreatDoor
