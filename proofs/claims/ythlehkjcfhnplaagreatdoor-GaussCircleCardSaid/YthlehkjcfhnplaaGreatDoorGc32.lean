/- Several texts in one: ArgandLaw, Gauss, Ref03, Ref03Law. -/
import Derived.Test.YthlehkjcfhnplaaGreatDoorGc31
import Derived.Test.YthlehkjcfhnplaaGreatDoorGcHd
set_option maxRecDepth 100000
set_option maxHeartbeats 8000000
/- Package argand as operations of pairs of rational numbers. -/
namespace Go.Proofs.YthlehkjcfhnplaaGreatDoor
open Go.RowKit

theorem sgn_r {a : Rat} {n d : Int} (_ha : Is a n d) : SgnF 138 n d n.sign := by
  intro V v1 g1
  obtain ⟨A, c, B, e0, rfl, a1, -⟩ := g1.form
  exact ratio_Sign n n.sign d A B c e0 V a1 rfl
theorem sign_eq0 (n : Int) (b : Bool) (h : decide (n = 0) = b) : (n.sign == 0) = b := by
  rw [← h]
  by_cases hn : n = 0
  · subst hn; rfl
  · rw [decide_eq_false hn]
    exact beq_eq_false_iff_ne.2 (fun e => hn (Int.sign_eq_zero_iff_zero.1 e))
theorem sq_nonneg (a : Rat) : 0 ≤ a * a := by
  rcases Rat.le_total (a := 0) (b := a) with h | h
  · exact Rat.mul_nonneg h h
  · have h2 : 0 ≤ -a := by grind
    have := Rat.mul_nonneg h2 h2
    rw [show -a * -a = a * a by grind] at this
    exact this
theorem sq_sum {a b : Rat} (h : a * a + b * b = 0) : a = 0 ∧ b = 0 := by
  have h1 := sq_nonneg a
  have h2 := sq_nonneg b
  have e1 : a * a = 0 := by grind
  have e2 : b * b = 0 := by grind
  exact ⟨(Rat.mul_eq_zero.1 e1).elim id id, (Rat.mul_eq_zero.1 e2).elim id id⟩
theorem one_r : OpR0 200 1 1 := one_own rfl rfl
section
variable {a b c e : Rat} {n d m f p q r s N D M E : Int}
theorem scaled_g (ha : Is a n d) (hb : Is b m f) (hc : Is c p q) (sa : Sz a 100000000) (sb : Sz b 100000000) (sc : Sz c 100000000) (h1 : Is (a * c) N D) (h2 : Is (b * c) M E) : OpGF 199 n d m f p q N D M E := by
  exact argand_Scaled (times_r ha hc h1 sa sc) (times_r hb hc h2 sb sc)
theorem times_g (ha : Is a n d) (hb : Is b m f) (hc : Is c p q) (he : Is e r s) (sa : Sz a 1000000) (sb : Sz b 1000000) (sc : Sz c 1000000) (se : Sz e 1000000) (h1 : Is (a * c - b * e) N D) (h2 : Is (a * e + b * c) M E) : OpG 191 n d m f p q r s N D M E := by
  have up : ∀ {q : Rat} {k : Nat}, Sz q k → k ≤ 100000000 → Sz q 100000000 := fun h k => h.mono k
  by_cases hm : m = 0
  · have hb0 : b = 0 := hb.nought.1 hm
    subst hb0
    have e1 : Is (c * a) N D := by rw [show c * a = a * c - 0 * e by grind]; exact h1
    have e2 : Is (e * a) M E := by rw [show e * a = a * e + 0 * c by grind]; exact h2
    exact argand_Times_a (sgn_r hb) (sign_eq0 m true (decide_eq_true hm)) (scaled_g hc he ha (up sc (by omega)) (up se (by omega)) (up sa (by omega)) e1 e2)
  · by_cases hr : r = 0
    · have he0 : e = 0 := he.nought.1 hr
      subst he0
      have e1 : Is (a * c) N D := by rw [show a * c = a * c - b * 0 by grind]; exact h1
      have e2 : Is (b * c) M E := by rw [show b * c = a * 0 + b * c by grind]; exact h2
      exact argand_Times_b (sgn_r hb) (sign_eq0 m false (decide_eq_false hm)) (sgn_r he) (sign_eq0 r true (decide_eq_true hr)) (scaled_g ha hb hc (up sa (by omega)) (up sb (by omega)) (up sc (by omega)) e1 e2)
    · have e2 : Is ((a + b) * (c + e) - (a * c + b * e)) M E := by rw [show (a + b) * (c + e) - (a * c + b * e) = a * e + b * c by grind]; exact h2
      have sp := sz_mul sa sc
      have sq := sz_mul sb se
      have s1 := sz_add sa sb
      have s2 := sz_add sc se
      have s3 := sz_mul s1 s2
      have s4 := sz_add sp sq
      exact argand_Times_c (sgn_r hb) (sign_eq0 m false (decide_eq_false hm)) (sgn_r he) (sign_eq0 r false (decide_eq_false hr))
        (times_r ha hc (Is.of _) (up sa (by omega)) (up sc (by omega))) (times_r hb he (Is.of _) (up sb (by omega)) (up se (by omega))) (plus_r ha hb (Is.of _) (up sa (by omega)) (up sb (by omega))) (plus_r hc he (Is.of _) (up sc (by omega)) (up se (by omega))) (times_r (Is.of _) (Is.of _) (Is.of _) (up s1 (by omega)) (up s2 (by omega)))
        (minus_r (Is.of _) (Is.of _) h1 (up sp (by omega)) (up sq (by omega))) (plus_r (Is.of _) (Is.of _) (Is.of _) (up sp (by omega)) (up sq (by omega))) (minus_r (Is.of _) (Is.of _) e2 (up s3 (by omega)) (up s4 (by omega)))
theorem norm_g (ha : Is a n d) (hb : Is b m f) (sa : Sz a 10000000) (sb : Sz b 10000000) (h1 : Is (a * a + b * b) N D) : OpN 122 n d m f N D := by
  have sp := sz_mul sa sa
  have sq := sz_mul sb sb
  exact argand_Norm (times_r ha ha (Is.of _) (sa.mono (by omega)) (sa.mono (by omega))) (times_r hb hb (Is.of _) (sb.mono (by omega)) (sb.mono (by omega))) (plus_r (Is.of _) (Is.of _) h1 (sp.mono (by omega)) (sq.mono (by omega)))
end
/- May, Nought, Answer of argand; package gauss. (Written by wip/gauss/gengauss.py.) -/

def zeroG : Value := .agg #[.bool false, .slice none 0 0, .bool false, .slice none 0 0, .bool false, .slice none 0 0, .bool false, .slice none 0 0]
abbrev MayG (F : FuncId) (n1 n2 n3 n4 : Bool) (xs ys us vs : List Nat) (b : Bool) : Prop := ∀ (V : World) (v : Value), GaussRaw V v n1 n2 n3 n4 xs ys us vs → Calls Tryz.prog F #[v] V fun e w' => e = .returned (.bool b) ∧ Below V.heap.size V w'
abbrev AnsG (F : FuncId) (n d m f k : Int) : Prop := ∀ (V : World) (g : Nat) (v : Value) (A1 A2 A3 A4 : Option Addr) (c1 c2 c3 c4 : Nat), V.heap.size = g → v = .agg #[.bool (decide (n < 0)), .slice A1 (natL n.natAbs).length c1, .bool (decide (d < 0)), .slice A2 (natL d.natAbs).length c2, .bool (decide (m < 0)), .slice A3 (natL m.natAbs).length c3, .bool (decide (f < 0)), .slice A4 (natL f.natAbs).length c4] →
  (natL n.natAbs).length ≤ 9223372036854775807 → (natL d.natAbs).length ≤ 9223372036854775807 → (natL m.natAbs).length ≤ 9223372036854775807 → (natL f.natAbs).length ≤ 9223372036854775807 →
  Calls Tryz.prog F #[.slice (some ⟨g, 0, none⟩) 1 1] (V.alloc (.cells #[.bool (decide (n < 0)), .slice A1 (natL n.natAbs).length c1, .bool (decide (d < 0)), .slice A2 (natL d.natAbs).length c2, .bool (decide (m < 0)), .slice A3 (natL m.natAbs).length c3, .bool (decide (f < 0)), .slice A4 (natL f.natAbs).length c4] 28)) fun e w' => e = .returned (.int .i64 k) ∧ Below (V.heap.size + 1) (V.alloc (.cells #[.bool (decide (n < 0)), .slice A1 (natL n.natAbs).length c1, .bool (decide (d < 0)), .slice A2 (natL d.natAbs).length c2, .bool (decide (m < 0)), .slice A3 (natL m.natAbs).length c3, .bool (decide (f < 0)), .slice A4 (natL f.natAbs).length c4] 28)) w'
abbrev AnsweredG (n d m f N D M E k : Int) : Prop := ∀ (V : World) (base : Nat) (v : Value), base ≤ V.heap.size → GaussOwn V base v n d m f → Calls Tryz.prog 125 #[v] V (RetGaussOwn2 base V N D M E k)
abbrev NoughtG (F : FuncId) (n d m f : Int) (b : Bool) : Prop := ∀ (V : World) (v : Value), GaussAt V v n d m f → Calls Tryz.prog F #[v] V fun e w' => e = .returned (.bool b) ∧ Below V.heap.size V w'
abbrev OpGR2 (F : FuncId) (n1 n2 n3 n4 : Bool) (xs ys us vs : List Nat) (m1 m2 m3 m4 : Bool) (ps qs rs ts : List Nat) (N D M E k : Int) : Prop := ∀ (V : World) (v1 v2 : Value), GaussRaw V v1 n1 n2 n3 n4 xs ys us vs → GaussRaw V v2 m1 m2 m3 m4 ps qs rs ts → Calls Tryz.prog F #[v1, v2] V (RetGaussOwn2 V.heap.size V N D M E k)
abbrev OpG2 (F : FuncId) (n d m f p q r s N D M E k : Int) : Prop := ∀ (V : World) (v1 v2 : Value), GaussAt V v1 n d m f → GaussAt V v2 p q r s → Calls Tryz.prog F #[v1, v2] V (RetGaussOwn2 V.heap.size V N D M E k)

theorem may_g {n1 n2 n3 n4 : Bool} {xs ys us vs : List Nat} {b : Bool} (hc : (chkE n1 n2 xs ys == 0 && chkE n3 n4 us vs == 0) = b) (w : World) (v_x : Value) (g_x : GaussRaw w v_x n1 n2 n3 n4 xs ys us vs)  :
    Calls Tryz.prog 55 #[v_x] w fun e w' => e = .returned (.bool b) ∧ Below w.heap.size w w' := by
  obtain ⟨Ax1, cx1, Ax2, cx2, Ax3, cx3, Ax4, cx4, rfl, -⟩ := g_x.form
  have D1 := fun (V : World) (g' : Nat) (a1 : Raw V Ax1 cx1 xs) (a2 : Raw V Ax2 cx2 ys) (a3 : Raw V Ax3 cx3 us) (a4 : Raw V Ax4 cx4 vs) (hg : V.heap.size = g') => checks_two n1 n2 n3 n4 Ax1 Ax2 Ax3 Ax4 cx1 cx2 cx3 cx4 xs ys us vs V g' a1 a2 a3 a4 hg
  rw [hc] at D1
  have H1 := Hd D1
  clear D1 hc
  have G_x := Hd g_x
  clear g_x
  go_enter Tryz.func55, Tryz.ntmps55
  go_upto_region 1 with fail
  refine boxes1 (P := fun W => Code.wp _ _ _ _ W) fun W p0 b0 => ?_
  have P_x := Hd (Oct.mk p0)
  have HB := Hd b0
  clear b0 p0
  obtain ⟨-, a_x0, a_x1, a_x2, a_x3, a_x4, a_x5, a_x6, a_x7⟩ := P_x.out.facts
  go_wp2_with fail
  obtain ⟨s1, s2, s3, s4⟩ := (G_x.out.below HB.out).raws
  refine (H1.out W _ s1 s2 s3 s4 rfl).mono ?_
  rintro e w9 ⟨rfl, hb⟩
  have HB9 := Hd (belowTo (HB.out.alloc HB.out.size (.cells #[.bool n1, .slice Ax1 xs.length cx1, .bool n2, .slice Ax2 ys.length cx2, .bool n3, .slice Ax3 us.length cx3, .bool n4, .slice Ax4 vs.length cx4] 26)) hb)
  clear a_x0 a_x1 a_x2 a_x3 a_x4 a_x5 a_x6 a_x7
  clear hb s1 s2 s3 s4
  go_wp2_with fail
  go_ret
  exact ⟨rfl, HB9.out⟩

theorem may_raw (n1 n2 n3 n4 : Bool) (xs ys us vs : List Nat) : MayG 55 n1 n2 n3 n4 xs ys us vs (chkE n1 n2 xs ys == 0 && chkE n3 n4 us vs == 0) := by
  intro V v g1
  exact may_g rfl V v g1

theorem both_Times {n d m f p q r s T1 T2 T3 T4 N D M E k : Int} (C1 : MayG 55 (decide (n < 0)) (decide (d < 0)) (decide (m < 0)) (decide (f < 0)) (natL n.natAbs) (natL d.natAbs) (natL m.natAbs) (natL f.natAbs) true) (C2 : MayG 55 (decide (p < 0)) (decide (q < 0)) (decide (r < 0)) (decide (s < 0)) (natL p.natAbs) (natL q.natAbs) (natL r.natAbs) (natL s.natAbs) true) (C3 : OpG 191 n d m f p q r s T1 T2 T3 T4) (C4 : AnsweredG T1 T2 T3 T4 N D M E k) (w : World) (v_x v_y : Value) (g_x : GaussAt w v_x n d m f) (g_y : GaussAt w v_y p q r s)  :
    Calls Tryz.prog 114 #[v_x, v_y, .func (.func 191) #[] #[]] w (RetGaussOwn2 w.heap.size w N D M E k) := by
  obtain ⟨Ax1, cx1, Ax2, cx2, Ax3, cx3, Ax4, cx4, rfl, -⟩ := g_x.form
  obtain ⟨Ay1, cy1, Ay2, cy2, Ay3, cy3, Ay4, cy4, rfl, -⟩ := g_y.form
  have H1 := Hd C1
  have H2 := Hd C2
  have H3 := Hd C3
  have H4 := Hd C4
  clear C1 C2 C3 C4
  have G_x := Hd g_x
  have G_y := Hd g_y
  clear g_x g_y
  go_enter Tryz.func114, Tryz.ntmps114
  go_upto_region 1 with fail
  refine boxes3 (P := fun W => Code.wp _ _ _ _ W) fun W p0 p1 p2 b0 => ?_
  have P_x := Hd (Oct.mk p0)
  have P_y := Hd (Oct.mk p1)
  have PR := Hd (Oct.mk p2)
  have HB := Hd b0
  clear b0 p0 p1 p2
  obtain ⟨-, a_x0, a_x1, a_x2, a_x3, a_x4, a_x5, a_x6, a_x7⟩ := P_x.out.facts
  go_wp2_with fail
  refine (H1.out W _ (G_x.out.below HB.out).raw).mono ?_
  rintro e wx1 ⟨rfl, hb⟩
  clear a_x0 a_x1 a_x2 a_x3 a_x4 a_x5 a_x6 a_x7
  have P_x := Hd (P_x.out.below hb)
  have P_y := Hd (P_y.out.below hb)
  have PR := Hd (PR.out.below hb)
  have HB := Hd (belowTo HB.out hb)
  clear hb
  obtain ⟨-, a_y0, a_y1, a_y2, a_y3, a_y4, a_y5, a_y6, a_y7⟩ := P_y.out.facts
  go_wp2_with fail
  refine (H2.out wx1 _ (G_y.out.below HB.out).raw).mono ?_
  rintro e wx2 ⟨rfl, hb⟩
  clear a_y0 a_y1 a_y2 a_y3 a_y4 a_y5 a_y6 a_y7
  have P_x := Hd (P_x.out.below hb)
  have P_y := Hd (P_y.out.below hb)
  have PR := Hd (PR.out.below hb)
  have HB := Hd (belowTo HB.out hb)
  clear hb
  obtain ⟨-, a_x0, a_x1, a_x2, a_x3, a_x4, a_x5, a_x6, a_x7⟩ := P_x.out.facts
  obtain ⟨-, a_y0, a_y1, a_y2, a_y3, a_y4, a_y5, a_y6, a_y7⟩ := P_y.out.facts
  go_wp2_with fail
  refine (H3.out wx2 _ _ (G_x.out.below HB.out) (G_y.out.below HB.out)).mono ?_
  rintro e wt ⟨v, rfl, hI, hb⟩
  clear a_x0 a_x1 a_x2 a_x3 a_x4 a_x5 a_x6 a_x7 a_y0 a_y1 a_y2 a_y3 a_y4 a_y5 a_y6 a_y7
  have HI0 := Hd (hI.base HB.out.size)
  have P_x := Hd (P_x.out.below hb)
  have P_y := Hd (P_y.out.below hb)
  have PR := Hd (PR.out.below hb)
  have HB := Hd (belowTo HB.out hb)
  clear hI hb
  go_wp2_with fail
  refine (H4.out wt w.heap.size _ HB.out.size HI0.out).mono ?_
  rintro e w9 ⟨v, rfl, hI, hb⟩
  have HI := Hd hI
  obtain ⟨A6, c6, A7, c7, A8, c8, A9, c9, rfl, -⟩ := hI.form
  have pr := PR.out.below hb
  have hb9 := belowTo HB.out hb
  obtain ⟨l_r, r0, r1, r2, r3, r4, r5, r6, r7⟩ := pr.facts
  obtain ⟨f0, f1, f2, f3, f4, f5, f6, f7⟩ := pr.free
  have HQ := Hd (pr.store (.bool (decide (N < 0))) (.slice A6 (natL N.natAbs).length c6) (.bool (decide (D < 0))) (.slice A7 (natL D.natAbs).length c7) (.bool (decide (M < 0))) (.slice A8 (natL M.natAbs).length c8) (.bool (decide (E < 0))) (.slice A9 (natL E.natAbs).length c9))
  have HB9 := Hd (below8 hb9 (show w.heap.size ≤ w.heap.size + 1 + 1 by omega) (.bool (decide (N < 0))) (.slice A6 (natL N.natAbs).length c6) (.bool (decide (D < 0))) (.slice A7 (natL D.natAbs).length c7) (.bool (decide (M < 0))) (.slice A8 (natL M.natAbs).length c8) (.bool (decide (E < 0))) (.slice A9 (natL E.natAbs).length c9))
  have HF := Hd (HI.out.oct pr (by decide) (.bool (decide (N < 0))) (.slice A6 (natL N.natAbs).length c6) (.bool (decide (D < 0))) (.slice A7 (natL D.natAbs).length c7) (.bool (decide (M < 0))) (.slice A8 (natL M.natAbs).length c8) (.bool (decide (E < 0))) (.slice A9 (natL E.natAbs).length c9))
  clear hb hb9 pr hI
  go_wp2_with fail
  obtain ⟨_, k0, k1, k2, k3, k4, k5, k6, k7⟩ := HQ.out.facts
  exact bodyPost_ret (by simp [results, Tryz.results114, go_sem, k0, k1, k2, k3, k4, k5, k6, k7]) rfl ⟨_, rfl, HF.out, HB9.out⟩

abbrev BothC (fv : Value) (n1 n2 n3 n4 : Bool) (xs ys us vs : List Nat) (m1 m2 m3 m4 : Bool) (ps qs rs ts : List Nat) (N D M E k : Int) : Prop := ∀ (V : World) (v1 v2 : Value), GaussRaw V v1 n1 n2 n3 n4 xs ys us vs → GaussRaw V v2 m1 m2 m3 m4 ps qs rs ts → Calls Tryz.prog 114 #[v1, v2, fv] V (RetGaussOwn2 V.heap.size V N D M E k)

theorem gauss_Mul {n1 n2 n3 n4 : Bool} {xs ys us vs : List Nat} {m1 m2 m3 m4 : Bool} {ps qs rs ts : List Nat} {N D M E k : Int} (C1 : BothC (.func (.func 191) #[] #[]) n1 n2 n3 n4 xs ys us vs m1 m2 m3 m4 ps qs rs ts N D M E k) (w : World) (v_x v_y : Value) (g_x : GaussRaw w v_x n1 n2 n3 n4 xs ys us vs) (g_y : GaussRaw w v_y m1 m2 m3 m4 ps qs rs ts)  :
    Calls Tryz.prog 104 #[v_x, v_y] w (RetGaussOwn2 w.heap.size w N D M E k) := by
  obtain ⟨Ax1, cx1, Ax2, cx2, Ax3, cx3, Ax4, cx4, rfl, -⟩ := g_x.form
  obtain ⟨Ay1, cy1, Ay2, cy2, Ay3, cy3, Ay4, cy4, rfl, -⟩ := g_y.form
  have H1 := Hd C1
  clear C1
  have G_x := Hd g_x
  have G_y := Hd g_y
  clear g_x g_y
  go_enter Tryz.func104, Tryz.ntmps104
  go_upto_region 1 with fail
  refine boxes3 (P := fun W => Code.wp _ _ _ _ W) fun W p0 p1 p2 b0 => ?_
  have P_x := Hd (Oct.mk p0)
  have P_y := Hd (Oct.mk p1)
  have PR := Hd (Oct.mk p2)
  have HB := Hd b0
  clear b0 p0 p1 p2
  obtain ⟨-, a_x0, a_x1, a_x2, a_x3, a_x4, a_x5, a_x6, a_x7⟩ := P_x.out.facts
  obtain ⟨-, a_y0, a_y1, a_y2, a_y3, a_y4, a_y5, a_y6, a_y7⟩ := P_y.out.facts
  go_wp2_with fail
  refine (H1.out W _ _ (G_x.out.below HB.out) (G_y.out.below HB.out)).mono ?_
  rintro e w9 ⟨v, rfl, hI, hb⟩
  clear a_x0 a_x1 a_x2 a_x3 a_x4 a_x5 a_x6 a_x7 a_y0 a_y1 a_y2 a_y3 a_y4 a_y5 a_y6 a_y7
  have HI := Hd hI
  obtain ⟨A6, c6, A7, c7, A8, c8, A9, c9, rfl, -⟩ := hI.form
  have pr := PR.out.below hb
  have hb9 := belowTo HB.out hb
  obtain ⟨l_r, r0, r1, r2, r3, r4, r5, r6, r7⟩ := pr.facts
  obtain ⟨f0, f1, f2, f3, f4, f5, f6, f7⟩ := pr.free
  have HQ := Hd (pr.store (.bool (decide (N < 0))) (.slice A6 (natL N.natAbs).length c6) (.bool (decide (D < 0))) (.slice A7 (natL D.natAbs).length c7) (.bool (decide (M < 0))) (.slice A8 (natL M.natAbs).length c8) (.bool (decide (E < 0))) (.slice A9 (natL E.natAbs).length c9))
  have HB9 := Hd (below8 hb9 (show w.heap.size ≤ w.heap.size + 1 + 1 by omega) (.bool (decide (N < 0))) (.slice A6 (natL N.natAbs).length c6) (.bool (decide (D < 0))) (.slice A7 (natL D.natAbs).length c7) (.bool (decide (M < 0))) (.slice A8 (natL M.natAbs).length c8) (.bool (decide (E < 0))) (.slice A9 (natL E.natAbs).length c9))
  have HF := Hd (HI.out.oct pr (by decide) (.bool (decide (N < 0))) (.slice A6 (natL N.natAbs).length c6) (.bool (decide (D < 0))) (.slice A7 (natL D.natAbs).length c7) (.bool (decide (M < 0))) (.slice A8 (natL M.natAbs).length c8) (.bool (decide (E < 0))) (.slice A9 (natL E.natAbs).length c9))
  clear hb hb9 pr hI
  go_wp2_with fail
  obtain ⟨_, k0, k1, k2, k3, k4, k5, k6, k7⟩ := HQ.out.facts
  exact bodyPost_ret (by simp [results, Tryz.results104, go_sem, k0, k1, k2, k3, k4, k5, k6, k7]) rfl ⟨_, rfl, HF.out.base HB.out.size, HB9.out⟩

theorem gauss_Quo_nought {n d m f p q r s : Int} (C0 : MayG 55 (decide (n < 0)) (decide (d < 0)) (decide (m < 0)) (decide (f < 0)) (natL n.natAbs) (natL d.natAbs) (natL m.natAbs) (natL f.natAbs) true) (C2 : MayG 55 (decide (p < 0)) (decide (q < 0)) (decide (r < 0)) (decide (s < 0)) (natL p.natAbs) (natL q.natAbs) (natL r.natAbs) (natL s.natAbs) true) (C3 : NoughtG 116 p q r s true) (w : World) (v_x v_y : Value) (g_x : GaussAt w v_x n d m f) (g_y : GaussAt w v_y p q r s)  :
    Calls Tryz.prog 29 #[v_x, v_y] w (RetGaussOwn2 w.heap.size w 0 0 0 0 3) := by
  obtain ⟨Ax1, cx1, Ax2, cx2, Ax3, cx3, Ax4, cx4, rfl, -⟩ := g_x.form
  obtain ⟨Ay1, cy1, Ay2, cy2, Ay3, cy3, Ay4, cy4, rfl, -⟩ := g_y.form
  have H0 := Hd C0
  have H2 := Hd C2
  have H3 := Hd C3
  clear C0 C2 C3
  have G_x := Hd g_x
  have G_y := Hd g_y
  clear g_x g_y
  go_enter Tryz.func29, Tryz.ntmps29
  go_upto_region 1 with fail
  refine boxes3 (P := fun W => Code.wp _ _ _ _ W) fun W p0 p1 p2 b0 => ?_
  have P_x := Hd (Oct.mk p0)
  have P_y := Hd (Oct.mk p1)
  have PR := Hd (Oct.mk p2)
  have HB := Hd b0
  clear b0 p0 p1 p2
  obtain ⟨-, a_x0, a_x1, a_x2, a_x3, a_x4, a_x5, a_x6, a_x7⟩ := P_x.out.facts
  go_wp2_with fail
  refine (H0.out W _ (G_x.out.below HB.out).raw).mono ?_
  rintro e wx1 ⟨rfl, hb⟩
  clear a_x0 a_x1 a_x2 a_x3 a_x4 a_x5 a_x6 a_x7
  have P_x := Hd (P_x.out.below hb)
  have P_y := Hd (P_y.out.below hb)
  have PR := Hd (PR.out.below hb)
  have HB := Hd (belowTo HB.out hb)
  clear hb
  obtain ⟨-, a_y0, a_y1, a_y2, a_y3, a_y4, a_y5, a_y6, a_y7⟩ := P_y.out.facts
  go_wp2_with fail
  refine (H2.out wx1 _ (G_y.out.below HB.out).raw).mono ?_
  rintro e wx2 ⟨rfl, hb⟩
  clear a_y0 a_y1 a_y2 a_y3 a_y4 a_y5 a_y6 a_y7
  have P_x := Hd (P_x.out.below hb)
  have P_y := Hd (P_y.out.below hb)
  have PR := Hd (PR.out.below hb)
  have HB := Hd (belowTo HB.out hb)
  clear hb
  obtain ⟨-, a_y0, a_y1, a_y2, a_y3, a_y4, a_y5, a_y6, a_y7⟩ := P_y.out.facts
  go_wp2_with fail
  refine (H3.out wx2 _ (G_y.out.below HB.out)).mono ?_
  rintro e wx3 ⟨rfl, hb⟩
  clear a_y0 a_y1 a_y2 a_y3 a_y4 a_y5 a_y6 a_y7
  have P_x := Hd (P_x.out.below hb)
  have P_y := Hd (P_y.out.below hb)
  have PR := Hd (PR.out.below hb)
  have HB := Hd (belowTo HB.out hb)
  clear hb
  obtain ⟨l_r, r0, r1, r2, r3, r4, r5, r6, r7⟩ := PR.out.facts
  obtain ⟨f0, f1, f2, f3, f4, f5, f6, f7⟩ := PR.out.free
  have HQ := Hd (PR.out.store (.bool false) (.slice none 0 0) (.bool false) (.slice none 0 0) (.bool false) (.slice none 0 0) (.bool false) (.slice none 0 0))
  have HB9 := Hd (below8 HB.out (show w.heap.size ≤ w.heap.size + 1 + 1 by omega) (.bool false) (.slice none 0 0) (.bool false) (.slice none 0 0) (.bool false) (.slice none 0 0) (.bool false) (.slice none 0 0))
  go_wp2_with fail
  obtain ⟨_, k0, k1, k2, k3, k4, k5, k6, k7⟩ := HQ.out.facts
  exact bodyPost_ret (by simp [results, Tryz.results29, go_sem, k0, k1, k2, k3, k4, k5, k6, k7]) rfl ⟨_, rfl, GaussOwn.nought _ _, HB9.out⟩

theorem argand_Nought_re {n d m f s0 : Int} (C1 : SgnF 138 n d s0) (g1 : (s0 == 0) = false) (w : World) (v_x : Value) (g_x : GaussAt w v_x n d m f)  :
    Calls Tryz.prog 116 #[v_x] w fun e w' => e = .returned (.bool false) ∧ Below w.heap.size w w' := by
  obtain ⟨Ax1, cx1, Ax2, cx2, Ax3, cx3, Ax4, cx4, rfl, -⟩ := g_x.form
  have H1 := Hd C1
  clear C1
  have G_x := Hd g_x
  clear g_x
  go_enter Tryz.func116, Tryz.ntmps116
  go_upto_region 1 with fail
  refine boxes1 (P := fun W => Code.wp _ _ _ _ W) fun W p0 b0 => ?_
  have P_x := Hd (Oct.mk p0)
  have HB := Hd b0
  clear b0 p0
  obtain ⟨-, a_x0, a_x1, a_x2, a_x3, a_x4, a_x5, a_x6, a_x7⟩ := P_x.out.facts
  go_wp2_with fail
  refine (H1.out W _ (G_x.out.below HB.out).re).mono ?_
  rintro e wx1 ⟨rfl, hb⟩
  clear a_x0 a_x1 a_x2 a_x3 a_x4 a_x5 a_x6 a_x7
  have P_x := Hd (P_x.out.below hb)
  have HB := Hd (belowTo HB.out hb)
  clear hb
  go_wp2_with fail
  go_ret
  exact ⟨rfl, HB.out⟩

theorem argand_Nought_im {n d m f s0 s1 : Int} (C1 : SgnF 138 n d s0) (g1 : (s0 == 0) = true) (C2 : SgnF 138 m f s1) (g2 : (s1 == 0) = false) (w : World) (v_x : Value) (g_x : GaussAt w v_x n d m f)  :
    Calls Tryz.prog 116 #[v_x] w fun e w' => e = .returned (.bool false) ∧ Below w.heap.size w w' := by
  obtain ⟨Ax1, cx1, Ax2, cx2, Ax3, cx3, Ax4, cx4, rfl, -⟩ := g_x.form
  have H1 := Hd C1
  have H2 := Hd C2
  clear C1 C2
  have G_x := Hd g_x
  clear g_x
  go_enter Tryz.func116, Tryz.ntmps116
  go_upto_region 1 with fail
  refine boxes1 (P := fun W => Code.wp _ _ _ _ W) fun W p0 b0 => ?_
  have P_x := Hd (Oct.mk p0)
  have HB := Hd b0
  clear b0 p0
  obtain ⟨-, a_x0, a_x1, a_x2, a_x3, a_x4, a_x5, a_x6, a_x7⟩ := P_x.out.facts
  go_wp2_with fail
  refine (H1.out W _ (G_x.out.below HB.out).re).mono ?_
  rintro e wx1 ⟨rfl, hb⟩
  clear a_x0 a_x1 a_x2 a_x3 a_x4 a_x5 a_x6 a_x7
  have P_x := Hd (P_x.out.below hb)
  have HB := Hd (belowTo HB.out hb)
  clear hb
  obtain ⟨-, a_x0, a_x1, a_x2, a_x3, a_x4, a_x5, a_x6, a_x7⟩ := P_x.out.facts
  go_wp2_with fail
  refine (H2.out wx1 _ (G_x.out.below HB.out).im).mono ?_
  rintro e wx2 ⟨rfl, hb⟩
  clear a_x0 a_x1 a_x2 a_x3 a_x4 a_x5 a_x6 a_x7
  have P_x := Hd (P_x.out.below hb)
  have HB := Hd (belowTo HB.out hb)
  clear hb
  go_wp2_with fail
  go_ret
  exact ⟨rfl, HB.out⟩

theorem argand_Nought_yes {n d m f s0 s1 : Int} (C1 : SgnF 138 n d s0) (g1 : (s0 == 0) = true) (C2 : SgnF 138 m f s1) (g2 : (s1 == 0) = true) (w : World) (v_x : Value) (g_x : GaussAt w v_x n d m f)  :
    Calls Tryz.prog 116 #[v_x] w fun e w' => e = .returned (.bool true) ∧ Below w.heap.size w w' := by
  obtain ⟨Ax1, cx1, Ax2, cx2, Ax3, cx3, Ax4, cx4, rfl, -⟩ := g_x.form
  have H1 := Hd C1
  have H2 := Hd C2
  clear C1 C2
  have G_x := Hd g_x
  clear g_x
  go_enter Tryz.func116, Tryz.ntmps116
  go_upto_region 1 with fail
  refine boxes1 (P := fun W => Code.wp _ _ _ _ W) fun W p0 b0 => ?_
  have P_x := Hd (Oct.mk p0)
  have HB := Hd b0
  clear b0 p0
  obtain ⟨-, a_x0, a_x1, a_x2, a_x3, a_x4, a_x5, a_x6, a_x7⟩ := P_x.out.facts
  go_wp2_with fail
  refine (H1.out W _ (G_x.out.below HB.out).re).mono ?_
  rintro e wx1 ⟨rfl, hb⟩
  clear a_x0 a_x1 a_x2 a_x3 a_x4 a_x5 a_x6 a_x7
  have P_x := Hd (P_x.out.below hb)
  have HB := Hd (belowTo HB.out hb)
  clear hb
  obtain ⟨-, a_x0, a_x1, a_x2, a_x3, a_x4, a_x5, a_x6, a_x7⟩ := P_x.out.facts
  go_wp2_with fail
  refine (H2.out wx1 _ (G_x.out.below HB.out).im).mono ?_
  rintro e wx2 ⟨rfl, hb⟩
  clear a_x0 a_x1 a_x2 a_x3 a_x4 a_x5 a_x6 a_x7
  have P_x := Hd (P_x.out.below hb)
  have HB := Hd (belowTo HB.out hb)
  clear hb
  go_wp2_with fail
  go_ret
  exact ⟨rfl, HB.out⟩

theorem answered_fits {n d m f : Int} {base : Nat} (C1 : AnsG 204 n d m f 0) (w : World) (v_x : Value) (g_x : GaussAt w v_x n d m f) (hbw : base ≤ w.heap.size) (o_x : GaussOwn w base v_x n d m f) :
    Calls Tryz.prog 125 #[v_x] w (RetGaussOwn2 base w n d m f 0) := by
  obtain ⟨Ax1, cx1, Ax2, cx2, Ax3, cx3, Ax4, cx4, rfl, -⟩ := g_x.form
  have l1 : (natL n.natAbs).length ≤ 9223372036854775807 := by have := g_x.raws.1.cap; have := g_x.raws.1.most; omega
  have l2 : (natL d.natAbs).length ≤ 9223372036854775807 := by have := g_x.raws.2.1.cap; have := g_x.raws.2.1.most; omega
  have l3 : (natL m.natAbs).length ≤ 9223372036854775807 := by have := g_x.raws.2.2.1.cap; have := g_x.raws.2.2.1.most; omega
  have l4 : (natL f.natAbs).length ≤ 9223372036854775807 := by have := g_x.raws.2.2.2.cap; have := g_x.raws.2.2.2.most; omega
  have HL := Hd (And.intro l1 (And.intro l2 (And.intro l3 l4)))
  have OX := Hd o_x
  have _ := hbw
  clear l1 l2 l3 l4 o_x
  have H1 := Hd C1
  clear C1
  have G_x := Hd g_x
  clear g_x
  go_enter Tryz.func125, Tryz.ntmps125
  go_upto_region 1 with fail
  refine boxes2 (P := fun W => Code.wp _ _ _ _ W) fun W p0 p1 b0 => ?_
  have P_x := Hd (Oct.mk p0)
  have PR := Hd (Oct.mk p1)
  have HB := Hd b0
  clear b0 p0 p1
  have OX := Hd (OX.out.below HB.out)
  obtain ⟨-, a_x0, a_x1, a_x2, a_x3, a_x4, a_x5, a_x6, a_x7⟩ := P_x.out.facts
  go_wp2_with fail
  refine (H1.out W _ _ Ax1 Ax2 Ax3 Ax4 cx1 cx2 cx3 cx4 rfl rfl HL.out.1 HL.out.2.1 HL.out.2.2.1 HL.out.2.2.2).mono ?_
  rintro e wx1 ⟨rfl, hb⟩
  have hb := ((Below.refl W.heap.size W).alloc (Nat.le_refl _) (.cells #[.bool (decide (n < 0)), .slice Ax1 (natL n.natAbs).length cx1, .bool (decide (d < 0)), .slice Ax2 (natL d.natAbs).length cx2, .bool (decide (m < 0)), .slice Ax3 (natL m.natAbs).length cx3, .bool (decide (f < 0)), .slice Ax4 (natL f.natAbs).length cx4] 28)).trans (hb.mono (by omega))
  clear a_x0 a_x1 a_x2 a_x3 a_x4 a_x5 a_x6 a_x7
  have P_x := Hd (P_x.out.below hb)
  have PR := Hd (PR.out.below hb)
  have OX := Hd (OX.out.below hb)
  have HB := Hd (belowTo HB.out hb)
  clear hb
  obtain ⟨-, a_x0, a_x1, a_x2, a_x3, a_x4, a_x5, a_x6, a_x7⟩ := P_x.out.facts
  obtain ⟨l_r, r0, r1, r2, r3, r4, r5, r6, r7⟩ := PR.out.facts
  obtain ⟨f0, f1, f2, f3, f4, f5, f6, f7⟩ := PR.out.free
  have HQ := Hd (PR.out.store (.bool (decide (n < 0))) (.slice Ax1 (natL n.natAbs).length cx1) (.bool (decide (d < 0))) (.slice Ax2 (natL d.natAbs).length cx2) (.bool (decide (m < 0))) (.slice Ax3 (natL m.natAbs).length cx3) (.bool (decide (f < 0))) (.slice Ax4 (natL f.natAbs).length cx4))
  have HB9 := Hd (below8 HB.out (show w.heap.size ≤ w.heap.size + 1 by omega) (.bool (decide (n < 0))) (.slice Ax1 (natL n.natAbs).length cx1) (.bool (decide (d < 0))) (.slice Ax2 (natL d.natAbs).length cx2) (.bool (decide (m < 0))) (.slice Ax3 (natL m.natAbs).length cx3) (.bool (decide (f < 0))) (.slice Ax4 (natL f.natAbs).length cx4))
  have HF := Hd (OX.out.oct PR.out (by decide) (.bool (decide (n < 0))) (.slice Ax1 (natL n.natAbs).length cx1) (.bool (decide (d < 0))) (.slice Ax2 (natL d.natAbs).length cx2) (.bool (decide (m < 0))) (.slice Ax3 (natL m.natAbs).length cx3) (.bool (decide (f < 0))) (.slice Ax4 (natL f.natAbs).length cx4))
  go_wp2_with fail
  obtain ⟨_, k0, k1, k2, k3, k4, k5, k6, k7⟩ := HQ.out.facts
  exact bodyPost_ret (by simp [results, Tryz.results125, go_sem, k0, k1, k2, k3, k4, k5, k6, k7]) rfl ⟨_, rfl, HF.out, HB9.out⟩

/- The references of chapter 03. (Written by wip/gauss/genref03.py.) -/

theorem allocGauss {o : Oper} (h : o.op = .alloc 28) : AllocF Tryz.prog o 28 8 := by
  refine ⟨#[.bool false, .slice none 0 0, .bool false, .slice none 0 0, .bool false, .slice none 0 0, .bool false, .slice none 0 0], rfl, fun ρ w => ?_⟩
  unfold execOp
  rw [h]
  kernel_rfl

/- The references of chapter 03 as operations of pairs of rational numbers. -/

section
variable {a b c e : Rat} {n d m f p q r s N D M E : Int}
end
end Go.Proofs.YthlehkjcfhnplaaGreatDoor
