/- Several texts in one: GUnit, GUnit2, GLaw. -/
import Derived.Test.YthlehkjcfhnplaaGreatDoorGc35
import Derived.Test.YthlehkjcfhnplaaGreatDoorGcHd
import Derived.Test.YthlehkjcfhnplaaGreatDoorGc31
import Derived.Test.YthlehkjcfhnplaaGreatDoorGc27
set_option maxRecDepth 100000
set_option maxHeartbeats 8000000
/- Unit of argand. (Written by wip/gauss/genunit.py.) -/
namespace Go.Proofs.YthlehkjcfhnplaaGreatDoor
open Go.RowKit

structure BesideIn (z o : Int) (A : Option Addr) (c : Nat) (u : Value) (V : World) : Prop where
  form : ∃ A9 c9, u = .agg #[.bool (decide (z < 0)), .slice A (natL z.natAbs).length c, .bool (decide (o < 0)), .slice A9 (natL o.natAbs).length c9] ∧ IntOwn V 0 (.agg #[.bool (decide (o < 0)), .slice A9 (natL o.natAbs).length c9]) o
theorem BesideIn.kept {z o : Int} {A : Option Addr} {c : Nat} {u : Value} {V V' : World} {B : Nat} {Ts : List TypeId} (h : BesideIn z o A c u V) (k : KeptV B Ts V V') (hT : 114 ∉ Ts) : BesideIn z o A c u V' := by
  obtain ⟨A9, c9, h1, h2⟩ := h.form
  exact ⟨A9, c9, h1, h2.kept k hT⟩
theorem BesideIn.cells {z o : Int} {A : Option Addr} {c : Nat} {u : Value} {V : World} (h : BesideIn z o A c u V) : CellsN u 4 := by
  obtain ⟨A9, c9, rfl, -⟩ := h.form
  exact ⟨rfl, by simp [Value.cells, Value.oneCell']⟩
theorem BesideIn.at_ {z o : Int} {A : Option Addr} {c : Nat} {u : Value} {V : World} (h : BesideIn z o A c u V) (r : Raw V A c (natL z.natAbs)) : FracAt V u z o := by
  obtain ⟨A9, c9, h1, h2⟩ := h.form
  exact ⟨A, c, A9, c9, h1, r, h2.rawAt⟩
theorem field_num (V : World) (b1 b2 : Bool) (A B : Option Addr) (n c m e : Nat) : (Instr.field 26 (.agg #[.bool b1, .slice A n c, .bool b2, .slice B m e]) 0).run Tryz.prog V = .ok (.agg #[.bool b1, .slice A n c]) V := by kernel_rfl

theorem argand_Unit {n d i t1 t2 t3 t4 n1 n2 o1 o2 N D M E : Int} (C1 : OpR0 200 i i) (C2 : OpG 191 d i n i d i n i t1 t2 t3 t4) (C3 : OpN 122 d i n i n1 n2) (C4 : OpR 146 i i n1 n2 o1 o2) (C5 : OpGF 199 t1 t2 t3 t4 o1 o2 N D M E) (w : World) (v_t : Value) (g_t : FracAt w v_t n d)  :
    Calls Tryz.prog 126 #[v_t] w (RetGaussOwn w.heap.size w N D M E) := by
  obtain ⟨At1, ct1, At2, ct2, rfl, -⟩ := g_t.form
  have H1 := Hd C1
  have H2 := Hd C2
  have H3 := Hd C3
  have H4 := Hd C4
  have H5 := Hd C5
  clear C1 C2 C3 C4 C5
  have G_t := Hd g_t
  clear g_t
  go_enter Tryz.func126, Tryz.ntmps126
  go_upto_region 1 with fail
  refine boxes2 (P := fun W => Code.wp _ _ _ _ W) fun W p0 p1 b0 => ?_
  have P_t := Hd (Quad.mk p0)
  have PR := Hd (Oct.mk p1)
  have HB := Hd b0
  clear b0 p0 p1
  go_wp2_with fail
  refine wp_region_free [.val (.pointer (some ⟨w.heap.size, 0, none⟩)) [], .val (.agg #[.bool (decide (n < 0)), .slice At1 (natL n.natAbs).length ct1]) [], .any false (fun u V => FracOwn V w.heap.size u i i) [], .any false (fun u V => IntOwn V 0 u i) [2], .any false (BesideIn n i At1 ct1) [3], .val (.pointer (some ⟨w.heap.size, 2, none⟩)) [], .val (.agg #[.bool (decide (d < 0)), .slice At2 (natL d.natAbs).length ct2]) [], .any false (fun u V => FracOwn V w.heap.size u i i) [], .any false (fun u V => IntOwn V 0 u i) [7], .any false (BesideIn d i At2 ct2) [8], .new 26 4, .new 26 4, .put 26 4 10 4 [], .put 26 4 11 9 []] W.heap.size W [26] (fun _ _ => False) _ mixedOrders2 (Nat.le_refl _) (Below.refl _ _) (KeptV.refl _ _ _) rfl (by kernel_rfl) (by kernel_rfl) (by kernel_rfl) (by kernel_rfl) (by kernel_rfl) (by kernel_rfl) (by kernel_rfl) (by kernel_rfl) rfl (by simp [oldsF]) ?_ ?_ ?_ ?_
  · simp only [StableF, and_true]
    exact ⟨fun u V V' h k => h.kept k (by decide), fun u V V' h k => h.kept k (by decide), fun u V V' h k => h.kept k (by decide), fun u V V' h k => h.kept k (by decide), fun u V V' h k => h.kept k (by decide), fun u V V' h k => h.kept k (by decide)⟩
  · simp only [OldsF]
  · simp (maxSteps := 4000000) [StepsF, DepF, freeAct, fill, pairs]
    repeat' (first | apply And.intro | (intro (u : Value)) | (intro (u : Nat)))
    all_goals try exact ⟨_, _, _, rfl, rfl, rfl, rfl, fracInfo⟩
    all_goals try exact allocFracG rfl
    all_goals first
    | (intro V hV hK
       have hs_t := P_t.out.blk.lt
       have qt : Quad V (w.heap.size) _ _ _ _ := ⟨P_t.out.blk.below hV (by omega)⟩
       obtain ⟨-, a_t0, a_t1, a_t2, a_t3, -, -, -, -⟩ := qt.facts
       have hvb := HB.out.trans (hV.mono (by omega))
       have hvs := hvb.size
       clear hV hK qt
       go_simp
       first
       | exact Below.refl _ _
       | ((with_reducible refine (H1.out V).mono ?_); rintro e w' ⟨v, rfl, hv, hb⟩; exact ⟨hv.base hvs, hb⟩))
    | (intro V hV hK h1
       obtain ⟨A6, c6, A7, c7, rfl, i1, -⟩ := h1.form
       clear hV hK
       go_simp
       exact ⟨i1.base (Nat.zero_le _), Below.refl _ _⟩)
    | (intro V hV hK h1
       obtain ⟨A6, c6, A7, c7, rfl, i1, -⟩ := h1.form
       have e9 := field_num V (decide (i < 0)) (decide (i < 0)) A6 A7 (natL i.natAbs).length c6 (natL i.natAbs).length c7
       clear hV hK
       go_simp
       exact ⟨i1.base (Nat.zero_le _), Below.refl _ _⟩)
    | (intro V hV hK h1
       obtain ⟨A6, c6, rfl, -⟩ := h1.raw
       clear hV hK
       go_simp
       exact ⟨⟨_, _, rfl, h1⟩, Below.refl _ _⟩)
    | exact fun _ _ _ (h : BesideIn _ _ _ _ _ _) => h.cells
    | exact fun _ _ _ (h : BesideIn _ _ _ _ _ _) _ => h.cells
  · simp [EndF, FactsF, freeAct, fill, pairs]
    intro u1 u2 u3 u4 u5 u6 bn hbn bd hbd V1 hV hK h1 h2 h3 h4 h5 h6 pn pd _ _ _
    obtain ⟨A3, c3, rfl, i3⟩ := h3.form
    obtain ⟨A4, c4, rfl, i4⟩ := h6.form
    have I3 := Hd i3
    have I4 := Hd i4
    have P_n := Hd (show Quad V1 bn (.bool (decide (n < 0))) (.slice At1 (natL n.natAbs).length ct1) (.bool (decide (i < 0))) (.slice A3 (natL i.natAbs).length c3) from ⟨pn⟩)
    have P_d := Hd (show Quad V1 bd (.bool (decide (d < 0))) (.slice At2 (natL d.natAbs).length ct2) (.bool (decide (i < 0))) (.slice A4 (natL i.natAbs).length c4) from ⟨pd⟩)
    have PR := Hd (PR.out.below hV)
    have HB := Hd (belowTo HB.out hV)
    clear hV hK h1 h2 h3 h4 h5 h6 pn pd i3 i4 hbn hbd P_t
    obtain ⟨l_n, n0, n1_, n2_, n3, -, -, -, -⟩ := P_n.out.facts
    obtain ⟨l_d, d0, d1, d2, d3, -, -, -, -⟩ := P_d.out.facts
    have pz := Oct.new V1 28 (.bool (decide (d < 0))) (.slice At2 (natL d.natAbs).length ct2) (.bool (decide (i < 0))) (.slice A4 (natL i.natAbs).length c4) (.bool (decide (n < 0))) (.slice At1 (natL n.natAbs).length ct1) (.bool (decide (i < 0))) (.slice A3 (natL i.natAbs).length c3)
    have ha := (Below.refl V1.heap.size V1).alloc (Nat.le_refl _) (.cells #[.bool (decide (d < 0)), .slice At2 (natL d.natAbs).length ct2, .bool (decide (i < 0)), .slice A4 (natL i.natAbs).length c4, .bool (decide (n < 0)), .slice At1 (natL n.natAbs).length ct1, .bool (decide (i < 0)), .slice A3 (natL i.natAbs).length c3] 28)
    have i3 := I3.out.below ha
    have i4 := I4.out.below ha
    have hb9 := PR.out.below ha
    have hB9 := belowTo HB.out ha
    go_upto_region 3 with fail
    obtain ⟨W2, EQ⟩ : ∃ W, W = V1.alloc (.cells #[.bool (decide (d < 0)), .slice At2 (natL d.natAbs).length ct2, .bool (decide (i < 0)), .slice A4 (natL i.natAbs).length c4, .bool (decide (n < 0)), .slice At1 (natL n.natAbs).length ct1, .bool (decide (i < 0)), .slice A3 (natL i.natAbs).length c3] 28) := ⟨_, rfl⟩
    obtain ⟨bz, hq⟩ : ∃ q, q = V1.heap.size := ⟨_, rfl⟩
    have hbz : bz ≠ w.heap.size + 1 := by have := PR.out.blk.lt; omega
    rw [← EQ] at pz i3 i4 hb9 hB9
    rw [← EQ]
    rw [← hq] at pz
    rw [← hq]
    have P_zz := Hd pz
    have I3 := Hd i3
    have I4 := Hd i4
    have N_zz := Hd hbz
    have PR := Hd hb9
    have HB := Hd hB9
    clear pz i3 i4 hb9 hB9 hbz EQ hq ha l_n n0 n1_ n2_ n3 l_d d0 d1 d2 d3 P_n P_d
    have hsz := PR.out.blk.lt
    go_wp2_with fail
    refine wp_region_free [.val (.agg #[.bool (decide (d < 0)), .slice At2 (natL d.natAbs).length ct2, .bool (decide (i < 0)), .slice A4 (natL i.natAbs).length c4, .bool (decide (n < 0)), .slice At1 (natL n.natAbs).length ct1, .bool (decide (i < 0)), .slice A3 (natL i.natAbs).length c3]) [999], .val (.agg #[.bool (decide (d < 0)), .slice At2 (natL d.natAbs).length ct2, .bool (decide (i < 0)), .slice A4 (natL i.natAbs).length c4, .bool (decide (n < 0)), .slice At1 (natL n.natAbs).length ct1, .bool (decide (i < 0)), .slice A3 (natL i.natAbs).length c3]) [999], .any false (fun u V => GaussOwn V w.heap.size u t1 t2 t3 t4) [], .any false (fun u V => FracOwn V w.heap.size u i i) [], .val (.agg #[.bool (decide (d < 0)), .slice At2 (natL d.natAbs).length ct2, .bool (decide (i < 0)), .slice A4 (natL i.natAbs).length c4, .bool (decide (n < 0)), .slice At1 (natL n.natAbs).length ct1, .bool (decide (i < 0)), .slice A3 (natL i.natAbs).length c3]) [999], .any false (fun u V => FracOwn V w.heap.size u n1 n2) [], .any false (fun u V => FracOwn V w.heap.size u o1 o2) [3, 5], .any false (fun u V => GaussOwn V w.heap.size u N D M E) [2, 6], .old (w.heap.size + 1) 28 #[.bool false, .slice none 0 0, .bool false, .slice none 0 0, .bool false, .slice none 0 0, .bool false, .slice none 0 0] 0 8 7 []] (w.heap.size + 1) W2 [28] (fun _ _ => False) _ mixedOrders2 (by omega) (Below.refl _ _) (KeptV.refl _ _ _) rfl (by kernel_rfl) (by kernel_rfl) (by kernel_rfl) (by kernel_rfl) (by kernel_rfl) (by kernel_rfl) (by kernel_rfl) (by kernel_rfl) rfl (by simp [oldsF]) ?_ ?_ ?_ ?_
    · simp only [StableF, and_true]
      exact ⟨fun u V V' h k => h.kept k (by decide), fun u V V' h k => h.kept k (by decide), fun u V V' h k => h.kept k (by decide), fun u V V' h k => h.kept k (by decide), fun u V V' h k => h.kept k (by decide)⟩
    · simp only [OldsF, and_true]
      exact ⟨Nat.le_refl _, PR.out.blk.lt, PR.out.blk, by simp⟩
    · simp (maxSteps := 4000000) [StepsF, DepF, oldsF, freeAct, fill, pairs]
      repeat' (first | apply And.intro | (intro (u : Value)) | (intro (u : Nat)))
      all_goals try exact ⟨_, _, _, rfl, rfl, rfl, rfl, gaussInfo⟩
      all_goals first
      | (intro V hV hK ho
         have qz := Oct.mk ((ho bz P_zz.out.blk.lt N_zz.out).trans P_zz.out.blk)
         obtain ⟨-, z0, z1, z2, z3, z4, z5, z6, z7⟩ := qz.facts
         clear hV hK ho qz
         go_simp
         exact Below.refl _ _)
      | (intro V hV hK
         have hvb := HB.out.trans (hV.mono (by omega))
         have hvs := hvb.size
         have gt := G_t.out.below hvb
         have i3 := I3.out.kept hK (by decide)
         have i4 := I4.out.kept hK (by decide)
         have o_zz : GaussAt V (.agg #[.bool (decide (d < 0)), .slice At2 (natL d.natAbs).length ct2, .bool (decide (i < 0)), .slice A4 (natL i.natAbs).length c4, .bool (decide (n < 0)), .slice At1 (natL n.natAbs).length ct1, .bool (decide (i < 0)), .slice A3 (natL i.natAbs).length c3]) d i n i := ⟨_, _, _, _, _, _, _, _, rfl, gt.raws.2, i4.rawAt, gt.raws.1, i3.rawAt⟩
         clear hV hK
         go_simp
         first
         | ((with_reducible refine (H2.out V _ _ o_zz o_zz).mono ?_); rintro e w' ⟨v, rfl, hv, hb⟩; exact ⟨hv.base hvs, hb⟩)
         | ((with_reducible refine (H1.out V).mono ?_); rintro e w' ⟨v, rfl, hv, hb⟩; exact ⟨hv.base hvs, hb⟩)
         | ((with_reducible refine (H3.out V _ o_zz).mono ?_); rintro e w' ⟨v, rfl, hv, hb⟩; exact ⟨hv.base hvs, hb⟩))
      | (intro V hV hK h1 h2
         have hvs : w.heap.size ≤ V.heap.size := by have := hV.size; have := HB.out.size; omega
         clear hV hK
         go_simp
         first
         | ((with_reducible refine (H4.out V _ _ h1.at_ h2.at_).mono ?_); rintro e w' ⟨v, rfl, hv, hb⟩; exact ⟨hv.base hvs, hb⟩)
         | ((with_reducible refine (H5.out V _ _ h1.in_.at_ h2.at_).mono ?_); rintro e w' ⟨v, rfl, hv, hb⟩; exact ⟨hv.base hvs, hb⟩))
      | exact fun _ _ _ (h : GaussOwn _ _ _ _ _ _ _) => h.cells
    · simp [EndF, FactsF, freeAct, fill, pairs]
      intro u1 u2 u3 u4 u5 V hV hK h1 h2 h3 h4 h5 bq _ _ _
      have HF := Hd h5
      obtain ⟨A6, c6, A7, c7, A8, c8, A9, c9, rfl, -⟩ := h5.form
      simp [setAll, Value.cells] at bq
      have k0 := bq.cell 0
      have k1 := bq.cell 1
      have k2 := bq.cell 2
      have k3 := bq.cell 3
      have k4 := bq.cell 4
      have k5 := bq.cell 5
      have k6 := bq.cell 6
      have k7 := bq.cell 7
      simp at k0 k1 k2 k3 k4 k5 k6 k7
      have HB9 := Hd (HB.out.trans (hV.mono (by omega)))
      clear h1 h2 h3 h4 h5 hV hK bq
      go_wp2_with fail
      exact bodyPost_ret (by simp [results, Tryz.results126, go_sem, k0, k1, k2, k3, k4, k5, k6, k7]) rfl ⟨_, rfl, HF.out, HB9.out⟩
/- Unit of gauss; OnCircle and Unit of the references: both sides' answers. (Written by wip/gauss/genunit2.py.) -/


theorem gauss_Unit_ok {n d T1 T2 T3 T4 N D M E k : Int} (hc : (chkE (decide (n < 0)) (decide (d < 0)) (natL n.natAbs) (natL d.natAbs) == 0) = true) (C2 : OpU 126 n d T1 T2 T3 T4) (C3 : AnsweredG T1 T2 T3 T4 N D M E k) (w : World) (v_t : Value) (g_t : FracAt w v_t n d)  :
    Calls Tryz.prog 34 #[v_t] w (RetGaussOwn2 w.heap.size w N D M E k) := by
  obtain ⟨At1, ct1, At2, ct2, rfl, -⟩ := g_t.form
  have D1 := fun (V : World) (g' : Nat) (a1 : Raw V At1 ct1 (natL n.natAbs)) (a2 : Raw V At2 ct2 (natL d.natAbs)) (hg : V.heap.size = g') => checks_new (decide (n < 0)) (decide (d < 0)) At1 At2 ct1 ct2 (natL n.natAbs) (natL d.natAbs) V g' a1 a2 hg
  rw [hc] at D1
  have H1 := Hd D1
  clear D1 hc
  have H2 := Hd C2
  have H3 := Hd C3
  clear C2 C3
  have G_t := Hd g_t
  clear g_t
  go_enter Tryz.func34, Tryz.ntmps34
  go_upto_region 1 with fail
  refine boxes2 (P := fun W => Code.wp _ _ _ _ W) fun W p0 p1 b0 => ?_
  have P_t := Hd (Quad.mk p0)
  have PR := Hd (Oct.mk p1)
  have HB := Hd b0
  clear b0 p0 p1
  obtain ⟨-, a_t0, a_t1, a_t2, a_t3, -, -, -, -⟩ := P_t.out.facts
  go_wp2_with fail
  obtain ⟨s1, s2⟩ := (G_t.out.below HB.out).raws
  refine (H1.out W _ s1 s2 rfl).mono ?_
  rintro e w1 ⟨rfl, hb⟩
  have hb := ((Below.refl W.heap.size W).alloc (Nat.le_refl _) (.cells #[.bool (decide (n < 0)), .slice At1 (natL n.natAbs).length ct1, .bool (decide (d < 0)), .slice At2 (natL d.natAbs).length ct2] 26)).trans (hb.mono (by simp))
  clear a_t0 a_t1 a_t2 a_t3
  clear s1 s2
  have P_t := Hd (P_t.out.below hb)
  have PR := Hd (PR.out.below hb)
  have HB := Hd (belowTo HB.out hb)
  clear hb
  obtain ⟨-, a_t0, a_t1, a_t2, a_t3, -, -, -, -⟩ := P_t.out.facts
  go_wp2_with fail
  refine (H2.out w1 _ (G_t.out.below HB.out)).mono ?_
  rintro e wt ⟨v, rfl, hI, hb⟩
  clear a_t0 a_t1 a_t2 a_t3
  have HI0 := Hd (hI.base HB.out.size)
  have P_t := Hd (P_t.out.below hb)
  have PR := Hd (PR.out.below hb)
  have HB := Hd (belowTo HB.out hb)
  clear hI hb
  go_wp2_with fail
  refine (H3.out wt w.heap.size _ HB.out.size HI0.out).mono ?_
  rintro e w9 ⟨v, rfl, hI, hb⟩
  have HI := Hd hI
  obtain ⟨A6, c6, A7, c7, A8, c8, A9, c9, rfl, -⟩ := hI.form
  have pr := PR.out.below hb
  have hb9 := belowTo HB.out hb
  obtain ⟨l_r, r0, r1, r2, r3, r4, r5, r6, r7⟩ := pr.facts
  obtain ⟨f0, f1, f2, f3, f4, f5, f6, f7⟩ := pr.free
  have HQ := Hd (pr.store (.bool (decide (N < 0))) (.slice A6 (natL N.natAbs).length c6) (.bool (decide (D < 0))) (.slice A7 (natL D.natAbs).length c7) (.bool (decide (M < 0))) (.slice A8 (natL M.natAbs).length c8) (.bool (decide (E < 0))) (.slice A9 (natL E.natAbs).length c9))
  have HB9 := Hd (below8 hb9 (show w.heap.size ≤ w.heap.size + 1 by omega) (.bool (decide (N < 0))) (.slice A6 (natL N.natAbs).length c6) (.bool (decide (D < 0))) (.slice A7 (natL D.natAbs).length c7) (.bool (decide (M < 0))) (.slice A8 (natL M.natAbs).length c8) (.bool (decide (E < 0))) (.slice A9 (natL E.natAbs).length c9))
  have HF := Hd (HI.out.oct pr (by decide) (.bool (decide (N < 0))) (.slice A6 (natL N.natAbs).length c6) (.bool (decide (D < 0))) (.slice A7 (natL D.natAbs).length c7) (.bool (decide (M < 0))) (.slice A8 (natL M.natAbs).length c8) (.bool (decide (E < 0))) (.slice A9 (natL E.natAbs).length c9))
  clear hb hb9 pr hI
  go_wp2_with fail
  obtain ⟨_, k0, k1, k2, k3, k4, k5, k6, k7⟩ := HQ.out.facts
  exact bodyPost_ret (by simp [results, Tryz.results34, go_sem, k0, k1, k2, k3, k4, k5, k6, k7]) rfl ⟨_, rfl, HF.out, HB9.out⟩

theorem circle_eq {x y : Rat} (hx : x ≠ 0) (hs : x * x + y * y ≠ 0) : (x * x - y * y) * (1 / (x * x + y * y)) = (1 - y / x * (y / x)) / (1 + y / x * (y / x)) ∧ (x * y + y * x) * (1 / (x * x + y * y)) = (y / x + y / x) / (1 + y / x * (y / x)) := by
  obtain ⟨t, ht⟩ : ∃ t, t = y / x := ⟨_, rfl⟩
  have e : y = t * x := by rw [ht, Rat.div_mul_cancel hx]
  rw [← ht]
  clear ht
  subst e
  have h1 : 1 + t * t ≠ 0 := fun k => by have := sq_nonneg t; grind
  constructor <;> grind
theorem unit_u {n d N D M E : Int} (f1 : Fine n d) (h1 : Is ((1 - Rat.divInt n d * Rat.divInt n d) / (1 + Rat.divInt n d * Rat.divInt n d)) N D) (h2 : Is ((Rat.divInt n d + Rat.divInt n d) / (1 + Rat.divInt n d * Rat.divInt n d)) M E) : OpU 126 n d N D M E := by
  have hd : ((d : Int) : Rat) ≠ 0 := fun k => by have := f1.pos; have := (Rat.intCast_eq_zero_iff).1 k; omega
  have hs : (d : Rat) * d + n * n ≠ 0 := fun k => hd (sq_sum k).1
  have e := circle_eq hd hs
  rw [← Rat.divInt_eq_div] at e
  have sd : Sz (d : Rat) 2048 := (is_int d).sz f1.den (by decide +kernel)
  have sn : Sz (n : Rat) 2048 := (is_int n).sz f1.num (by decide +kernel)
  have up : ∀ {q : Rat} {k l : Nat}, Sz q k → k ≤ l → Sz q l := fun h k => h.mono k
  have s1 := sz_sub (sz_mul sd sd) (sz_mul sn sn)
  have s2 := sz_add (sz_mul sd sn) (sz_mul sn sd)
  have s3 := sz_add (sz_mul sd sd) (sz_mul sn sn)
  have s4 := sz_quo sz_one s3 hs
  exact fun V v g => argand_Unit one_r (times_g (is_int d) (is_int n) (is_int d) (is_int n) (up sd (by omega)) (up sn (by omega)) (up sd (by omega)) (up sn (by omega)) (Is.of _) (Is.of _)) (norm_g (is_int d) (is_int n) (up sd (by omega)) (up sn (by omega)) (Is.of _)) (over_r is_unit (Is.of _) (Is.of _) (up sz_one (by omega)) (up s3 (by omega)) hs)
    (scaled_g (Is.of _) (Is.of _) (Is.of _) (up s1 (by omega)) (up s2 (by omega)) (up s4 (by omega)) (by rw [e.1]; exact h1) (by rw [e.2]; exact h2)) V v g
/- GaussCost, TwinGauss, LeftGauss, SameGauss of the laws; May and Check of the numbers of chapter 03. (Written by wip/gauss/genglaw.py.) -/

theorem sameGauss_true {n d m f : Int}  (w : World) (v_x v_y : Value) (g_x : GaussAt w v_x n d m f) (g_y : GaussAt w v_y n d m f)  :
    Calls Tryz.prog 12 #[v_x, v_y] w fun e w' => e = .returned (.bool true) ∧ Below w.heap.size w w' := by
  obtain ⟨Ax1, cx1, Ax2, cx2, Ax3, cx3, Ax4, cx4, rfl, -⟩ := g_x.form
  obtain ⟨Ay1, cy1, Ay2, cy2, Ay3, cy3, Ay4, cy4, rfl, -⟩ := g_y.form
  have G_x := Hd g_x
  have G_y := Hd g_y
  clear g_x g_y
  go_enter Tryz.func12, Tryz.ntmps12
  go_upto_region 1 with fail
  refine boxes2 (P := fun W => Code.wp _ _ _ _ W) fun W p0 p1 b0 => ?_
  have P_x := Hd (Oct.mk p0)
  have P_y := Hd (Oct.mk p1)
  have HB := Hd b0
  clear b0 p0 p1
  obtain ⟨-, a_x0, a_x1, a_x2, a_x3, a_x4, a_x5, a_x6, a_x7⟩ := P_x.out.facts
  obtain ⟨-, a_y0, a_y1, a_y2, a_y3, a_y4, a_y5, a_y6, a_y7⟩ := P_y.out.facts
  go_wp2_with fail
  refine (sameFrac_true _ _ n d W (G_x.out.below HB.out).re (G_y.out.below HB.out).re).mono ?_
  rintro e wx1 ⟨rfl, hb⟩
  clear a_x0 a_x1 a_x2 a_x3 a_x4 a_x5 a_x6 a_x7 a_y0 a_y1 a_y2 a_y3 a_y4 a_y5 a_y6 a_y7
  have P_x := Hd (P_x.out.below hb)
  have P_y := Hd (P_y.out.below hb)
  have HB := Hd (belowTo HB.out hb)
  clear hb
  obtain ⟨-, a_x0, a_x1, a_x2, a_x3, a_x4, a_x5, a_x6, a_x7⟩ := P_x.out.facts
  obtain ⟨-, a_y0, a_y1, a_y2, a_y3, a_y4, a_y5, a_y6, a_y7⟩ := P_y.out.facts
  go_wp2_with fail
  refine (sameFrac_true _ _ m f wx1 (G_x.out.below HB.out).im (G_y.out.below HB.out).im).mono ?_
  rintro e wx2 ⟨rfl, hb⟩
  clear a_x0 a_x1 a_x2 a_x3 a_x4 a_x5 a_x6 a_x7 a_y0 a_y1 a_y2 a_y3 a_y4 a_y5 a_y6 a_y7
  have P_x := Hd (P_x.out.below hb)
  have P_y := Hd (P_y.out.below hb)
  have HB := Hd (belowTo HB.out hb)
  clear hb
  go_wp2_with fail
  go_ret
  exact ⟨rfl, HB.out⟩
end Go.Proofs.YthlehkjcfhnplaaGreatDoor
