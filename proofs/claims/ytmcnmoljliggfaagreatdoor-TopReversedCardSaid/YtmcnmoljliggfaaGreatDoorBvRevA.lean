/- row.Through, TwinRay, turned, bench.copied, told of rays. (Written by wip/top/genreva.py.) -/
import Derived.Test.YtmcnmoljliggfaaGreatDoorBvMore
import Derived.Test.YtmcnmoljliggfaaGreatDoorBvTwinOwn
namespace Go.Proofs.YtmcnmoljliggfaaGreatDoor
open Go.RowKit


set_option maxRecDepth 100000 in
set_option maxHeartbeats 4000000 in
theorem rowthr_w {n1 d1 n2 d2 n3 d3 n4 d4 m1 f1 m2 f2 N1 D1 N2 D2 : Int} (C1 : PairI 78 n1 d1 m1 f1 n2 d2 m2 f2 N1 D1) (C2 : PairI 78 n3 d3 m1 f1 n4 d4 m2 f2 N2 D2) (w : World) (v_m v_r : Value) (g_m : MatAt w v_m n1 d1 n2 d2 n3 d3 n4 d4) (g_r : GaussAt w v_r m1 f1 m2 f2)  :
    Calls Tryz.prog 52 #[v_m, v_r] w (RetGaussIn w N1 D1 N2 D2) := by
  obtain ⟨Am1, cm1, Am2, cm2, Am3, cm3, Am4, cm4, Am5, cm5, Am6, cm6, Am7, cm7, Am8, cm8, rfl, -⟩ := g_m.form
  obtain ⟨Ar1, cr1, Ar2, cr2, Ar3, cr3, Ar4, cr4, rfl, -⟩ := g_r.form
  have H1 := Lib.hid C1
  have H2 := Lib.hid C2
  clear C1 C2
  have G_m := Lib.hid g_m
  have G_r := Lib.hid g_r
  clear g_m g_r
  go_enter Tryz.func52, Tryz.ntmps52
  go_upto_region 1 with fail
  refine boxes3 (P := fun W => Code.wp _ _ _ _ W) fun W p0 p1 p2 b0 => ?_
  have P_m := Lib.hid (Hex.mk p0)
  have P_r := Lib.hid (Oct.mk p1)
  have PR := Lib.hid (Oct.mk p2)
  have HB := Lib.hid b0
  clear b0 p0 p1 p2
  have hsz := PR.out.blk.lt
  go_wp2_with fail
  refine wp_region_free [.val (.pointer (some ⟨w.heap.size, 0, none⟩)) [], .val (.agg #[.bool (decide (n1 < 0)), .slice Am1 (natL n1.natAbs).length cm1, .bool (decide (d1 < 0)), .slice Am2 (natL d1.natAbs).length cm2]) [], .val (.pointer (some ⟨w.heap.size + 1, 0, none⟩)) [], .val (.agg #[.bool (decide (m1 < 0)), .slice Ar1 (natL m1.natAbs).length cr1, .bool (decide (f1 < 0)), .slice Ar2 (natL f1.natAbs).length cr2]) [], .val (.pointer (some ⟨w.heap.size, 4, none⟩)) [], .val (.agg #[.bool (decide (n2 < 0)), .slice Am3 (natL n2.natAbs).length cm3, .bool (decide (d2 < 0)), .slice Am4 (natL d2.natAbs).length cm4]) [], .val (.pointer (some ⟨w.heap.size + 1, 4, none⟩)) [], .val (.agg #[.bool (decide (m2 < 0)), .slice Ar3 (natL m2.natAbs).length cr3, .bool (decide (f2 < 0)), .slice Ar4 (natL f2.natAbs).length cr4]) [], .any false (fun u V => FracIn V 0 u N1 D1) [], .val (.pointer (some ⟨w.heap.size, 8, none⟩)) [], .val (.agg #[.bool (decide (n3 < 0)), .slice Am5 (natL n3.natAbs).length cm5, .bool (decide (d3 < 0)), .slice Am6 (natL d3.natAbs).length cm6]) [], .val (.pointer (some ⟨w.heap.size + 1, 0, none⟩)) [], .val (.agg #[.bool (decide (m1 < 0)), .slice Ar1 (natL m1.natAbs).length cr1, .bool (decide (f1 < 0)), .slice Ar2 (natL f1.natAbs).length cr2]) [], .val (.pointer (some ⟨w.heap.size, 12, none⟩)) [], .val (.agg #[.bool (decide (n4 < 0)), .slice Am7 (natL n4.natAbs).length cm7, .bool (decide (d4 < 0)), .slice Am8 (natL d4.natAbs).length cm8]) [], .val (.pointer (some ⟨w.heap.size + 1, 4, none⟩)) [], .val (.agg #[.bool (decide (m2 < 0)), .slice Ar3 (natL m2.natAbs).length cr3, .bool (decide (f2 < 0)), .slice Ar4 (natL f2.natAbs).length cr4]) [], .any false (fun u V => FracIn V 0 u N2 D2) [], .any false (fun u V => GaussIn V u N1 D1 N2 D2) [8, 17], .old (w.heap.size + 1 + 1) 29 #[.bool false, .slice none 0 0, .bool false, .slice none 0 0, .bool false, .slice none 0 0, .bool false, .slice none 0 0] 0 8 18 []] (w.heap.size + 1 + 1) W [29] (fun _ _ => False) _ mixedOrders2 (by omega) (Below.refl _ _) (KeptV.refl _ _ _) rfl (by kernel_rfl) (by kernel_rfl) (by kernel_rfl) (by kernel_rfl) (by kernel_rfl) (by kernel_rfl) (by kernel_rfl) (by kernel_rfl) rfl (by simp [oldsF]) ?_ ?_ ?_ ?_
  · simp only [StableF, and_true]
    exact ⟨fun u V V' h k => h.kept k (by decide), fun u V V' h k => h.kept k (by decide), fun u V V' h k => h.kept k (by decide)⟩
  · simp only [OldsF, and_true]
    exact ⟨Nat.le_refl _, PR.out.blk.lt, PR.out.blk, by simp⟩
  · simp (maxSteps := 4000000) [StepsF, DepF, freeAct, fill, pairs]
    repeat' (first | apply And.intro | (intro (u : Value)) | (intro (u : Nat)))
    all_goals try exact ⟨_, _, _, rfl, rfl, rfl, rfl, rayInfo⟩
    all_goals first
    | (intro V hV hK
       have qm : Hex V (w.heap.size) _ _ _ _ _ _ _ _ _ _ _ _ _ _ _ _ _ := ⟨P_m.out.blk.below hV (by omega)⟩
       obtain ⟨-, a_m0, a_m1, a_m2, a_m3, a_m4, a_m5, a_m6, a_m7, a_m8, a_m9, a_m10, a_m11, a_m12, a_m13, a_m14, a_m15⟩ := qm.facts
       have qr : Oct V (w.heap.size + 1) _ _ _ _ _ _ _ _ _ := ⟨P_r.out.blk.below hV (by omega)⟩
       obtain ⟨-, a_r0, a_r1, a_r2, a_r3, a_r4, a_r5, a_r6, a_r7⟩ := qr.facts
       have hvb := HB.out.trans (hV.mono (by omega))
       have hvs := hvb.size
       have g_m := Lib.hid (G_m.out.below hvb)
       have g_r := Lib.hid (G_r.out.below hvb)
       clear hV hK qm qr
       go_simp
       first
       | exact Below.refl _ _
       | ((with_reducible refine (H1.out V _ _ _ _ g_m.out.fa g_r.out.re g_m.out.fb g_r.out.im).mono ?_); rintro e w' ⟨v, rfl, hv, hb⟩; exact ⟨hv, hb⟩)
       | ((with_reducible refine (H2.out V _ _ _ _ g_m.out.fc g_r.out.re g_m.out.fd g_r.out.im).mono ?_); rintro e w' ⟨v, rfl, hv, hb⟩; exact ⟨hv, hb⟩))
    | (intro V hV hK h1 h2
       obtain ⟨A1, c1, B1, e1, rfl, -, -⟩ := h1.form
       obtain ⟨A2, c2, B2, e2, rfl, -, -⟩ := h2.form
       clear hV hK
       go_simp
       exact ⟨⟨_, _, _, _, _, _, _, _, rfl, h1, h2⟩, Below.refl _ _⟩)
    | exact fun _ _ _ (h : GaussIn _ _ _ _ _ _) => h.cells
  · simp [EndF, FactsF, freeAct, fill, pairs]
    intro u1 u2 u3 V hV hK h1 h2 h3 bq _ _ _
    have HF := Lib.hid h3
    obtain ⟨A6, c6, A7, c7, A8, c8, A9, c9, rfl, -⟩ := h3.form
    simp [setAll, Value.cells] at bq
    have k0 := bq.cell 0
    have k1 := bq.cell 1
    have k2 := bq.cell 2
    have k3 := bq.cell 3
    have k4 := bq.cell 4
    have k5 := bq.cell 5
    have k6 := bq.cell 6
    have k7 := bq.cell 7
    simp at k0 k1 k2 k3 k4 k5 k6 k7
    have HB9 := Lib.hid (HB.out.trans (hV.mono (by omega)))
    clear h1 h2 h3 hV hK bq
    go_wp2_with fail
    exact bodyPost_ret (by simp [results, Tryz.results52, go_sem, k0, k1, k2, k3, k4, k5, k6, k7]) rfl ⟨_, rfl, HF.out, HB9.out⟩

theorem twin_in {w : World} {g : Nat} {x : Int} (h : TwinAt w g (natL x.natAbs)) (hl : lz x ≤ 1048576) : IntOwn w 0 (.agg #[.bool (decide (x < 0)), .slice (some ⟨g, 0, none⟩) (natL x.natAbs).length ((natL x.natAbs).length + 1)]) x := by
  unfold lz at hl
  have hc := cellsU_length (natL x.natAbs)
  refine ⟨some ⟨g, 0, none⟩, _, rfl, by omega, by omega, by rw [hc, Nat.mul_one], .inr ⟨g, _, _, rfl, Nat.zero_le _, h.blk, by omega, by unfold maxLen; omega, ?_, ?_⟩⟩
  · simp [cellsU]
  · simp [cellsU]
theorem twinfrac_i {n d : Int} (hn : lz n ≤ 1048576) (hd : lz d ≤ 1048576) : OpI1 88 n d n d := fun V v g => by
  obtain ⟨A, c, B, e0, rfl, a1, a2⟩ := g.form
  refine (twin_frac_own _ _ A B c e0 _ _ V a1 a2 hn hd).mono ?_
  rintro e w' ⟨v, rfl, hv, hb⟩
  obtain ⟨g1, g2, rfl, h1, h2, -⟩ := hv.form
  exact ⟨_, rfl, ⟨_, _, _, _, rfl, twin_in h1 hn, twin_in h2 hd⟩, hb⟩

set_option maxRecDepth 100000 in
set_option maxHeartbeats 4000000 in
theorem twinray_w {m1 f1 m2 f2 : Int} (C1 : OpI1 88 m1 f1 m1 f1) (C2 : OpI1 88 m2 f2 m2 f2) (w : World) (v_r : Value) (g_r : GaussAt w v_r m1 f1 m2 f2)  :
    Calls Tryz.prog 55 #[v_r] w (RetGaussIn w m1 f1 m2 f2) := by
  obtain ⟨Ar1, cr1, Ar2, cr2, Ar3, cr3, Ar4, cr4, rfl, -⟩ := g_r.form
  have H1 := Lib.hid C1
  have H2 := Lib.hid C2
  clear C1 C2
  have G_r := Lib.hid g_r
  clear g_r
  go_enter Tryz.func55, Tryz.ntmps55
  go_upto_region 1 with fail
  refine boxes2 (P := fun W => Code.wp _ _ _ _ W) fun W p0 p1 b0 => ?_
  have P_r := Lib.hid (Oct.mk p0)
  have PR := Lib.hid (Oct.mk p1)
  have HB := Lib.hid b0
  clear b0 p0 p1
  have hsz := PR.out.blk.lt
  go_wp2_with fail
  refine wp_region_free [.val (.pointer (some ⟨w.heap.size, 0, none⟩)) [], .val (.agg #[.bool (decide (m1 < 0)), .slice Ar1 (natL m1.natAbs).length cr1, .bool (decide (f1 < 0)), .slice Ar2 (natL f1.natAbs).length cr2]) [], .any false (fun u V => FracIn V 0 u m1 f1) [], .val (.pointer (some ⟨w.heap.size, 4, none⟩)) [], .val (.agg #[.bool (decide (m2 < 0)), .slice Ar3 (natL m2.natAbs).length cr3, .bool (decide (f2 < 0)), .slice Ar4 (natL f2.natAbs).length cr4]) [], .any false (fun u V => FracIn V 0 u m2 f2) [], .any false (fun u V => GaussIn V u m1 f1 m2 f2) [2, 5], .old (w.heap.size + 1) 29 #[.bool false, .slice none 0 0, .bool false, .slice none 0 0, .bool false, .slice none 0 0, .bool false, .slice none 0 0] 0 8 6 []] (w.heap.size + 1) W [29] (fun _ _ => False) _ mixedOrders2 (by omega) (Below.refl _ _) (KeptV.refl _ _ _) rfl (by kernel_rfl) (by kernel_rfl) (by kernel_rfl) (by kernel_rfl) (by kernel_rfl) (by kernel_rfl) (by kernel_rfl) (by kernel_rfl) rfl (by simp [oldsF]) ?_ ?_ ?_ ?_
  · simp only [StableF, and_true]
    exact ⟨fun u V V' h k => h.kept k (by decide), fun u V V' h k => h.kept k (by decide), fun u V V' h k => h.kept k (by decide)⟩
  · simp only [OldsF, and_true]
    exact ⟨Nat.le_refl _, PR.out.blk.lt, PR.out.blk, by simp⟩
  · simp (maxSteps := 4000000) [StepsF, DepF, freeAct, fill, pairs]
    repeat' (first | apply And.intro | (intro (u : Value)) | (intro (u : Nat)))
    all_goals try exact ⟨_, _, _, rfl, rfl, rfl, rfl, rayInfo⟩
    all_goals first
    | (intro V hV hK
       have qr : Oct V (w.heap.size) _ _ _ _ _ _ _ _ _ := ⟨P_r.out.blk.below hV (by omega)⟩
       obtain ⟨-, a_r0, a_r1, a_r2, a_r3, a_r4, a_r5, a_r6, a_r7⟩ := qr.facts
       have hvb := HB.out.trans (hV.mono (by omega))
       have hvs := hvb.size
       have g_r := Lib.hid (G_r.out.below hvb)
       clear hV hK qr
       go_simp
       first
       | exact Below.refl _ _
       | ((with_reducible refine (H1.out V _ g_r.out.re).mono ?_); rintro e w' ⟨v, rfl, hv, hb⟩; exact ⟨hv, hb⟩)
       | ((with_reducible refine (H2.out V _ g_r.out.im).mono ?_); rintro e w' ⟨v, rfl, hv, hb⟩; exact ⟨hv, hb⟩))
    | (intro V hV hK h1 h2
       obtain ⟨A1, c1, B1, e1, rfl, -, -⟩ := h1.form
       obtain ⟨A2, c2, B2, e2, rfl, -, -⟩ := h2.form
       clear hV hK
       go_simp
       exact ⟨⟨_, _, _, _, _, _, _, _, rfl, h1, h2⟩, Below.refl _ _⟩)
    | exact fun _ _ _ (h : GaussIn _ _ _ _ _ _) => h.cells
  · simp [EndF, FactsF, freeAct, fill, pairs]
    intro u1 u2 u3 V hV hK h1 h2 h3 bq _ _ _
    have HF := Lib.hid h3
    obtain ⟨A6, c6, A7, c7, A8, c8, A9, c9, rfl, -⟩ := h3.form
    simp [setAll, Value.cells] at bq
    have k0 := bq.cell 0
    have k1 := bq.cell 1
    have k2 := bq.cell 2
    have k3 := bq.cell 3
    have k4 := bq.cell 4
    have k5 := bq.cell 5
    have k6 := bq.cell 6
    have k7 := bq.cell 7
    simp at k0 k1 k2 k3 k4 k5 k6 k7
    have HB9 := Lib.hid (HB.out.trans (hV.mono (by omega)))
    clear h1 h2 h3 hV hK bq
    go_wp2_with fail
    exact bodyPost_ret (by simp [results, Tryz.results55, go_sem, k0, k1, k2, k3, k4, k5, k6, k7]) rfl ⟨_, rfl, HF.out, HB9.out⟩

set_option maxRecDepth 100000 in
set_option maxHeartbeats 4000000 in
theorem turned_zero {m1 f1 m2 f2 s : Int} (hs : s = m2.sign) (h0 : s = 0) (C1 : ∀ (V : World) (v : Value), GaussAt V v m1 f1 m2 f2 → Calls Tryz.prog 55 #[v] V (RetGaussIn V m1 f1 m2 f2)) (C2 : SgnF 56 m2 f2 s) (w : World) (v_r : Value) (g_r : GaussAt w v_r m1 f1 m2 f2) :
    Calls Tryz.prog 23 #[v_r] w (RetGaussIn w m1 f1 m2 f2) := by
  obtain ⟨Ar1, cr1, Ar2, cr2, Ar3, cr3, Ar4, cr4, rfl, -⟩ := g_r.form
  have H1 := Lib.hid C1
  have H2 := Lib.hid C2
  have G := Lib.hid g_r
  subst h0
  clear C1 C2 g_r
  clear hs
  go_enter Tryz.func23, Tryz.ntmps23
  go_upto_region 1 with fail
  refine boxes2 (P := fun W => Code.wp _ _ _ _ W) fun W p0 p1 b0 => ?_
  have PX := Lib.hid (Oct.mk p0)
  have PR := Lib.hid (Oct.mk p1)
  have G := Lib.hid (G.out.below b0)
  have HB := Lib.hid b0
  clear p0 p1 b0
  go_wp2_with (refine wpList_load_row rfl _ _ (by rfl) _ (by rfl) _ _ _ _ PX.out.blk Tryz.underlying29 rfl rayInfo ?_)
  refine (H1.out W _ G.out).mono ?_
  rintro e w1 ⟨v, rfl, hv, hb⟩
  obtain ⟨A0, c0, A1, c1, A2, c2, A3, c3, rfl, -⟩ := hv.form
  have PX := Lib.hid (PX.out.below hb)
  have PR := Lib.hid (PR.out.below hb)
  have G := Lib.hid (G.out.below hb)
  have HB := Lib.hid (belowTo HB.out hb)
  have pz := PR.out.blk.lt
  clear hb
  go_upto_region 2 with (refine wpList_store_N rfl 29 _ _ (by rfl) (by rfl) _ _ _ 8 (by rfl) (by rfl) (Blk.new w1 _ _) rfl hv.cells rayInfo ?_; intro w2 hput)
  obtain ⟨hb, hV⟩ := newR hv hput
  have PX := Lib.hid (PX.out.below hb)
  have PR := Lib.hid (PR.out.below hb)
  have G := Lib.hid (G.out.below hb)
  have HB := Lib.hid (belowTo HB.out hb)
  have HV := Lib.hid hV
  clear hb hput hv hV
  obtain ⟨-, x0, x1, x2, x3, x4, x5, x6, x7⟩ := PX.out.facts
  go_wp2_with fail
  refine (H2.out w2 _ G.out.im).mono ?_
  rintro e w3 ⟨rfl, hb⟩
  have PR := Lib.hid (PR.out.below hb)
  have HV := Lib.hid (HV.out.below hb)
  have HB := Lib.hid (belowTo HB.out hb)
  clear hb x0 x1 x2 x3 x4 x5 x6 x7 PX G H1 H2
  go_wp2_with (first | (refine wpList_load_row rfl _ _ (by rfl) _ (by rfl) _ _ _ _ HV.out.blk Tryz.underlying29 rfl rayInfo ?_) | (refine wpList_store_N rfl 29 _ _ (by rfl) (by rfl) _ _ _ 8 (by rfl) (by rfl) PR.out.blk rfl HV.out.in_.cells rayInfo ?_; intro w9 hput))
  have HF := Lib.hid (HV.out.in_.kept (hput.kept _ (Nat.le_refl _)) (by decide))
  have HB9 := Lib.hid (hput.below HB.out (by omega))
  have k9 := hput.blk
  simp [Value.cells] at k9
  exact bodyPost_ret (results_cell_row rfl _ _ (w.heap.size + 1) _ _ _ _ (by rfl) k9 Tryz.underlying29 rfl rayInfo) rfl ⟨_, rfl, HF.out, HB9.out⟩

set_option maxRecDepth 100000 in
set_option maxHeartbeats 4000000 in
theorem turned_not {m1 f1 m2 f2 s : Int} (hs : s = m2.sign) (h0 : s ≠ 0) (C1 : ∀ (V : World) (v : Value), GaussAt V v m1 f1 m2 f2 → Calls Tryz.prog 55 #[v] V (RetGaussIn V m1 f1 m2 f2)) (C2 : SgnF 56 m2 f2 s) (w : World) (v_r : Value) (g_r : GaussAt w v_r m1 f1 m2 f2) :
    Calls Tryz.prog 23 #[v_r] w (RetGaussIn w m1 f1 (-m2) f2) := by
  obtain ⟨Ar1, cr1, Ar2, cr2, Ar3, cr3, Ar4, cr4, rfl, -⟩ := g_r.form
  have H1 := Lib.hid C1
  have H2 := Lib.hid C2
  have G := Lib.hid g_r
  have hz : (s == 0) = false := beq_eq_false_iff_ne.2 h0
  have hm : m2 ≠ 0 := fun e => h0 (by rw [hs, e]; rfl)
  have HM := Lib.hid hm
  clear hm h0
  clear C1 C2 g_r
  clear hs
  go_enter Tryz.func23, Tryz.ntmps23
  go_upto_region 1 with fail
  refine boxes2 (P := fun W => Code.wp _ _ _ _ W) fun W p0 p1 b0 => ?_
  have PX := Lib.hid (Oct.mk p0)
  have PR := Lib.hid (Oct.mk p1)
  have G := Lib.hid (G.out.below b0)
  have HB := Lib.hid b0
  clear p0 p1 b0
  go_wp2_with (refine wpList_load_row rfl _ _ (by rfl) _ (by rfl) _ _ _ _ PX.out.blk Tryz.underlying29 rfl rayInfo ?_)
  refine (H1.out W _ G.out).mono ?_
  rintro e w1 ⟨v, rfl, hv, hb⟩
  obtain ⟨A0, c0, A1, c1, A2, c2, A3, c3, rfl, -⟩ := hv.form
  have PX := Lib.hid (PX.out.below hb)
  have PR := Lib.hid (PR.out.below hb)
  have G := Lib.hid (G.out.below hb)
  have HB := Lib.hid (belowTo HB.out hb)
  have pz := PR.out.blk.lt
  clear hb
  go_upto_region 2 with (refine wpList_store_N rfl 29 _ _ (by rfl) (by rfl) _ _ _ 8 (by rfl) (by rfl) (Blk.new w1 _ _) rfl hv.cells rayInfo ?_; intro w2 hput)
  obtain ⟨hb, hV⟩ := newR hv hput
  have PX := Lib.hid (PX.out.below hb)
  have PR := Lib.hid (PR.out.below hb)
  have G := Lib.hid (G.out.below hb)
  have HB := Lib.hid (belowTo HB.out hb)
  have HV := Lib.hid hV
  clear hb hput hv hV
  obtain ⟨-, x0, x1, x2, x3, x4, x5, x6, x7⟩ := PX.out.facts
  go_wp2_with fail
  refine (H2.out w2 _ G.out.im).mono ?_
  rintro e w3 ⟨rfl, hb⟩
  have PR := Lib.hid (PR.out.below hb)
  have HV := Lib.hid (HV.out.below hb)
  have HB := Lib.hid (belowTo HB.out hb)
  clear hb x0 x1 x2 x3 x4 x5 x6 x7 PX G H1 H2
  have hq := HV.out.blk
  simp [Value.cells] at hq
  have PV := Lib.hid (Oct.mk hq)
  have c4 := PV.out.blk.cell 4
  have f4 := PV.out.blk.frozen 4
  simp at c4
  clear hq
  go_upto_region 4 with fail
  obtain ⟨w4, e4⟩ : ∃ z, z = w3.setCell ⟨w1.heap.size, 4, none⟩ (.bool !decide (m2 < 0)) := ⟨_, rfl⟩
  have hp4 := PV.out.blk.set_ 4 (.bool !decide (m2 < 0))
  rw [← e4] at hp4 ⊢
  have hk := HV.out.in_.kept (Ts := [29]) (B := 0) (show KeptV 0 [29] w3 w4 from by rw [e4]; exact KeptV.setCells PV.out.blk (List.mem_singleton.2 rfl) (Nat.zero_le _) 4 [_]) (by decide)
  have hn4 : (!decide (m2 < 0)) = decide (-m2 < 0) := by
    have := HM.out
    by_cases h : m2 < 0
    · rw [decide_eq_true h, decide_eq_false (by omega)]; rfl
    · rw [decide_eq_false h, decide_eq_true (by omega)]; rfl
  have HV4 : GaussIn w4 (.agg #[.bool (decide (m1 < 0)), .slice A0 (natL m1.natAbs).length c0, .bool (decide (f1 < 0)), .slice A1 (natL f1.natAbs).length c1, .bool (!decide (m2 < 0)), .slice A2 (natL m2.natAbs).length c2, .bool (decide (f2 < 0)), .slice A3 (natL f2.natAbs).length c3]) m1 f1 (-m2) f2 := by
    obtain ⟨B0, e0, B1, e1, B2, e2, B3, e3, h0, h1, h2⟩ := hk.form
    simp only [Value.agg.injEq, Array.mk.injEq, List.cons.injEq, Value.slice.injEq, and_true, true_and] at h0
    obtain ⟨⟨rfl, rfl⟩, ⟨rfl, rfl⟩, ⟨rfl, rfl⟩, rfl, rfl⟩ := h0
    rw [hn4]
    obtain ⟨B4, e4, B5, e5, h3, h4, h5⟩ := h2.form
    simp only [Value.agg.injEq, Array.mk.injEq, List.cons.injEq, Value.slice.injEq, and_true, true_and] at h3
    obtain ⟨⟨rfl, rfl⟩, rfl, rfl⟩ := h3
    obtain ⟨B6, e6, h6, h7, h8, h9⟩ := h4.form
    simp only [Value.agg.injEq, Array.mk.injEq, List.cons.injEq, Value.slice.injEq, and_true, true_and] at h6
    obtain ⟨rfl, rfl⟩ := h6
    have hn : (-m2).natAbs = m2.natAbs := Int.natAbs_neg m2
    refine ⟨_, _, _, _, A2, c2, _, _, by rw [hn], h1, A2, c2, _, _, by rw [hn], ⟨A2, c2, by rw [hn], by rw [hn]; exact h7, h8, by rw [hn]; exact h9⟩, h5⟩
  have hr4 := (show w4.heap[w.heap.size + 1]? = w3.heap[w.heap.size + 1]? from by rw [e4]; exact Below.heap_setCell _ ⟨w1.heap.size, 4, none⟩ _ _ (by show w.heap.size + 1 ≠ w1.heap.size; omega)).trans PR.out.blk
  have hb4 : Below w.heap.size w w4 := by
    rw [e4]
    exact HB.out.setCell (p := ⟨w1.heap.size, 4, none⟩) (by show w.heap.size ≤ w1.heap.size; omega) _
  simp at hp4
  have PV := Lib.hid (show Blk w4 w1.heap.size 29 _ from hp4)
  have PR := Lib.hid (show Blk w4 (w.heap.size + 1) 29 _ from hr4)
  have HV4 := Lib.hid HV4
  have HB := Lib.hid hb4
  clear hp4 hr4 hb4 e4 hk hn4 c4 f4 HV
  go_wp2_with (first | (refine wpList_load_row rfl _ _ (by rfl) _ (by rfl) _ _ _ _ PV.out Tryz.underlying29 rfl rayInfo ?_) | (refine wpList_store_N rfl 29 _ _ (by rfl) (by rfl) _ _ _ 8 (by rfl) (by rfl) PR.out rfl HV4.out.cells rayInfo ?_; intro w9 hput))
  have HF := Lib.hid (HV4.out.kept (hput.kept _ (Nat.le_refl _)) (by decide))
  have HB9 := Lib.hid (hput.below HB.out (by omega))
  have k9 := hput.blk
  simp [Value.cells] at k9
  exact bodyPost_ret (results_cell_row rfl _ _ (w.heap.size + 1) _ _ _ _ (by rfl) k9 Tryz.underlying29 rfl rayInfo) rfl ⟨_, rfl, HF.out, HB9.out⟩
end Go.Proofs.YtmcnmoljliggfaaGreatDoor
