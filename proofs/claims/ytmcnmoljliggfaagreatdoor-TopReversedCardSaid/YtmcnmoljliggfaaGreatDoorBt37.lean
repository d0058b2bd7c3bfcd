/- Several texts in one: Ratio0q1, RayEq1, TopRq2, TopLq1. -/
import Derived.Test.YtmcnmoljliggfaaGreatDoorBt36
import Derived.Test.YtmcnmoljliggfaaGreatDoorBt34
set_option maxRecDepth 100000
set_option maxHeartbeats 8000000
/- Nought, Small, One, Turned of package ratio. (Written by wip/gauss/genratio0.py.) -/
namespace Go.Proofs.YtmcnmoljliggfaaGreatDoor
open Go.RowKit

theorem turned_own {n d z : Int} (hn : lz n ≤ 400000000) (hd : lz d ≤ 400000000) (hz : z = -n) (w : World) (v_x : Value) (g_x : FracAt w v_x n d)  :
    Calls Tryz.prog 49 #[v_x] w (RetFracOwn w.heap.size w z d) := by
  obtain ⟨Ax1, cx1, Ax2, cx2, rfl, -⟩ := g_x.form
  obtain ⟨n0, hn0⟩ : ∃ k : Int, k = 0 := ⟨_, rfl⟩
  have D3 := fun (V : World) => eof 0 n0 hn0 (by decide) (by decide) V
  have HD := Hd (show d = d + n0 from by omega)
  have l0 : lz n0 ≤ 400000000 := by rw [hn0]; decide
  have H3 := Hd D3
  have HZ := Hd hz
  clear D3 hz hn0
  have G_x := Hd g_x
  clear g_x
  go_enter Tryz.func49, Tryz.ntmps49
  go_upto_region 1 with fail
  refine boxes2 (P := fun W => Code.wp _ _ _ _ W) fun W p0 p1 b0 => ?_
  have P_x := Hd (Quad.mk p0)
  have PR := Hd (Quad.mk p1)
  have HB := Hd b0
  clear b0 p0 p1
  have hsz := PR.out.blk.lt
  go_wp2_with fail
  refine wp_region_free [.val (.pointer (some ⟨w.heap.size, 0, none⟩)) [], .val (.agg #[.bool (decide (n < 0)), .slice Ax1 (natL n.natAbs).length cx1]) [], .any true (fun u V => IntOwn V w.heap.size u z) [], .val (.pointer (some ⟨w.heap.size, 2, none⟩)) [], .val (.agg #[.bool (decide (d < 0)), .slice Ax2 (natL d.natAbs).length cx2]) [], .any false (fun u V => IntOwn V 0 u n0) [], .any true (fun u V => IntOwn V w.heap.size u d) [5], .any false (fun u V => FracOwn V w.heap.size u z d) [2, 6, 1002006], .old (w.heap.size + 1) 27 #[.bool false, .slice none 0 0, .bool false, .slice none 0 0] 0 4 7 []] (w.heap.size + 1) W [27] blkInt _ mixedOrders2 (by omega) (Below.refl _ _) (KeptV.refl _ _ _) rfl (by kernel_rfl) (by kernel_rfl) (by kernel_rfl) (by kernel_rfl) (by kernel_rfl) (by kernel_rfl) (by kernel_rfl) (by kernel_rfl) rfl (by simp [oldsF]) ?_ ?_ ?_ ?_
  · simp only [StableF, and_true]
    exact ⟨fun u V V' h k => h.kept k (by decide), fun u V V' h k => h.kept k (by decide), fun u V V' h k => h.kept k (by decide), fun u V V' h k => h.kept k (by decide)⟩
  · simp only [OldsF, and_true]
    exact ⟨Nat.le_refl _, PR.out.blk.lt, PR.out.blk, by simp⟩
  · simp (maxSteps := 4000000) [StepsF, DepF, freeAct, fill, pairs]
    repeat' (first | apply And.intro | (intro (u : Value)) | (intro (u : Nat)))
    all_goals try exact ⟨_, _, _, rfl, rfl, rfl, rfl, fracInfo⟩
    all_goals first
    | (intro V hV hK
       have qx : Quad V (w.heap.size) _ _ _ _ := ⟨P_x.out.blk.below hV (by omega)⟩
       obtain ⟨-, a_x0, a_x1, a_x2, a_x3, -, -, -, -⟩ := qx.facts
       have hvb := HB.out.trans (hV.mono (by omega))
       have hvs := hvb.size
       have r1 := Hd (G_x.out.below hvb).raws.1
       clear hV hK qx
       go_simp
       first
       | exact Below.refl _ _
       | ((with_reducible refine (eturned n z Ax1 cx1 V r1.out hn HZ.out).mono ?_); rintro e w' ⟨v, rfl, hv, hb⟩; exact ⟨hv.base hvs, hb, hv.mine⟩)
       | ((with_reducible refine (H3.out V).mono ?_); rintro e w' ⟨v, rfl, hv, hb⟩; exact ⟨hv.base (Nat.zero_le _), hb⟩))
    | (intro V hV hK h1 h2 hq
       obtain ⟨A6, c6, rfl, -⟩ := h1.raw
       obtain ⟨A7, c7, rfl, -⟩ := h2.raw
       clear hV hK
       go_simp
       exact ⟨⟨_, _, _, _, rfl, h1, h2, hq⟩, Below.refl _ _⟩)
    | (intro V hV hK h1
       obtain ⟨A6, c6, rfl, i6⟩ := h1.raw
       have hvb := HB.out.trans (hV.mono (by omega))
       have hvs := hvb.size
       have r2 := Hd (G_x.out.below hvb).raws.2
       clear hV hK
       go_simp
       (with_reducible refine (eplus d n0 d Ax2 A6 cx2 c6 V r2.out i6 (by omega) (by omega) HD.out).mono ?_); rintro e w' ⟨v, rfl, hv, hb⟩; exact ⟨hv.base hvs, hb, hv.mine⟩)
    | exact fun _ _ _ (h : FracOwn _ _ _ _ _) => h.cells
  · simp [EndF, FactsF, freeAct, fill, pairs]
    intro u1 u2 u3 u4 V hV hK h1 h2 h3 h4 bq _ _ _
    have HF := Hd h4
    obtain ⟨A6, c6, A7, c7, rfl, -⟩ := h4.form
    simp [setAll, Value.cells] at bq
    have k0 := bq.cell 0
    have k1 := bq.cell 1
    have k2 := bq.cell 2
    have k3 := bq.cell 3
    simp at k0 k1 k2 k3
    have HB9 := Hd (HB.out.trans (hV.mono (by omega)))
    clear h1 h2 h3 h4 hV hK bq
    go_wp2_with fail
    exact bodyPost_ret (by simp [results, Tryz.results49, go_sem, k0, k1, k2, k3]) rfl ⟨_, rfl, HF.out, HB9.out⟩
/- Package ray: Mul, Back, Through, Cross. (Written by wip/top/genraye.py.) -/

theorem rback_false {n1 d1 n2 d2 n3 d3 n4 d4 N1 D1 N2 D2 N3 D3 N4 D4 : Int} (hl : longZ [(N1, D1), (N2, D2), (N3, D3), (N4, D4)] = false) (CH_m : ChkM n1 d1 n2 d2 n3 d3 n4 d4)  (CC : ∀ (V : World) (b0 : Nat) (Am1 Am2 Am3 Am4 Am5 Am6 Am7 Am8 : Option Addr) (cm1 cm2 cm3 cm4 cm5 cm6 cm7 cm8 : Nat), Hex V b0 38 (.bool (decide (n1 < 0))) (.slice Am1 (natL n1.natAbs).length cm1) (.bool (decide (d1 < 0))) (.slice Am2 (natL d1.natAbs).length cm2) (.bool (decide (n2 < 0))) (.slice Am3 (natL n2.natAbs).length cm3) (.bool (decide (d2 < 0))) (.slice Am4 (natL d2.natAbs).length cm4) (.bool (decide (n3 < 0))) (.slice Am5 (natL n3.natAbs).length cm5) (.bool (decide (d3 < 0))) (.slice Am6 (natL d3.natAbs).length cm6) (.bool (decide (n4 < 0))) (.slice Am7 (natL n4.natAbs).length cm7) (.bool (decide (d4 < 0))) (.slice Am8 (natL d4.natAbs).length cm8) → MatAt V (.agg #[.bool (decide (n1 < 0)), .slice Am1 (natL n1.natAbs).length cm1, .bool (decide (d1 < 0)), .slice Am2 (natL d1.natAbs).length cm2, .bool (decide (n2 < 0)), .slice Am3 (natL n2.natAbs).length cm3, .bool (decide (d2 < 0)), .slice Am4 (natL d2.natAbs).length cm4, .bool (decide (n3 < 0)), .slice Am5 (natL n3.natAbs).length cm5, .bool (decide (d3 < 0)), .slice Am6 (natL d3.natAbs).length cm6, .bool (decide (n4 < 0)), .slice Am7 (natL n4.natAbs).length cm7, .bool (decide (d4 < 0)), .slice Am8 (natL d4.natAbs).length cm8]) n1 d1 n2 d2 n3 d3 n4 d4 → Calls Tryz.prog 47 #[.pointer (some ⟨b0, 0, none⟩)] V (RetFL V [(N1, D1), (N2, D2), (N3, D3), (N4, D4)])) (w : World) (v_m : Value) (g_m : MatAt w v_m n1 d1 n2 d2 n3 d3 n4 d4) :
    Calls Tryz.prog 20 #[v_m] w (RetMatIn2 w N1 D1 N2 D2 N3 D3 N4 D4 0) := by
  have hmf : ∀ (fn : Fn) (first cap : Array Value) (w : World), (Instr.makeFunc fn first cap).run Tryz.prog w = .ok (.func fn first cap) w := fun _ _ _ _ => rfl
  obtain ⟨Am1, cm1, Am2, cm2, Am3, cm3, Am4, cm4, Am5, cm5, Am6, cm6, Am7, cm7, Am8, cm8, rfl, -⟩ := g_m.form
  have G_m := Hd g_m
  clear g_m
  have C_m := Hd CH_m
  clear CH_m
  have HC := Hd CC
  have HL := Hd hl
  clear CC hl
  go_enter Tryz.func20, Tryz.ntmps20
  go_upto_region 2 with fail
  refine boxes3 (P := fun W => Code.wp _ _ _ _ W) fun W q0 q1 q2 b0 => ?_
  have P_m := Hd (Hex.mk q0)
  have G_m := Hd (G_m.out.below b0)
  have PR := Hd (Hex.mk q1)
  have K := Hd (Cell1.mk q2)
  have HB := Hd b0
  clear b0 q0 q1 q2
  go_wp2_with (refine wpList_load_M rfl _ (by rfl) _ (by rfl) _ _ P_m.out.blk rfl ?_)
  refine (kmatrix_w C_m.out W K.out _ G_m.out).mono ?_
  rintro e w0 ⟨rfl, hb⟩
  have P_m := Hd (P_m.out.below hb)
  have G_m := Hd (G_m.out.below hb)
  have PR := Hd (PR.out.below hb)
  have K := Hd (K.out.below hb)
  have HB := Hd (belowTo HB.out hb)
  clear hb
  go_wp2_with (rw [hmf])
  refine (as_back_false HL.out w0 K.out (fun V hV => HC.out V _ _ _ _ _ _ _ _ _ _ _ _ _ _ _ _ _ (P_m.out.below hV) (G_m.out.below hV))).mono ?_
  rintro e wz ⟨v, rfl, hv, hb⟩
  have pr := ((PR.out.blk.below hb (by omega)) : Blk wz (w.heap.size + 1) 38 #[.bool false, .slice none 0 0, .bool false, .slice none 0 0, .bool false, .slice none 0 0, .bool false, .slice none 0 0, .bool false, .slice none 0 0, .bool false, .slice none 0 0, .bool false, .slice none 0 0, .bool false, .slice none 0 0])
  have HV := Hd hv
  have HB := Hd (HB.out.trans (hb.mono (by omega)))
  obtain ⟨A0, c0, A1, c1, A2, c2, A3, c3, A4, c4, A5, c5, A6, c6, A7, c7, rfl, -⟩ := hv.form
  have PR := Hd pr
  clear hv hb pr
  go_wp2_with (refine wpList_store_N rfl 38 _ _ (by rfl) (by rfl) _ _ _ 16 (by rfl) (by rfl) PR.out rfl HV.out.cells matInfo ?_; intro w9 hput)
  have HF := Hd (HV.out.kept (hput.kept _ (Nat.le_refl _)) (by decide))
  have HB9 := Hd (hput.below HB.out (by omega))
  have k9 := hput.blk
  simp [Value.cells] at k9
  exact bodyPost_ret (results_two rfl _ _ (w.heap.size + 1) _ _ _ _ _ (by rfl) k9 Tryz.underlying38 rfl matInfo (by rfl)) rfl ⟨_, rfl, HF.out, HB9.out⟩

theorem rcross_false {m1 f1 m2 f2 p1 q1 p2 q2 N1 D1 : Int} (hl : longZ [(N1, D1)] = false) (F_r0 : Fine m1 f1) (F_r1 : Fine m2 f2) (F_s0 : Fine p1 q1) (F_s1 : Fine p2 q2)  (CC : ∀ (V : World) (b0 b1 : Nat) (Ar1 Ar2 Ar3 Ar4 : Option Addr) (cr1 cr2 cr3 cr4 : Nat) (As1 As2 As3 As4 : Option Addr) (cs1 cs2 cs3 cs4 : Nat), Oct V b0 29 (.bool (decide (m1 < 0))) (.slice Ar1 (natL m1.natAbs).length cr1) (.bool (decide (f1 < 0))) (.slice Ar2 (natL f1.natAbs).length cr2) (.bool (decide (m2 < 0))) (.slice Ar3 (natL m2.natAbs).length cr3) (.bool (decide (f2 < 0))) (.slice Ar4 (natL f2.natAbs).length cr4) → GaussAt V (.agg #[.bool (decide (m1 < 0)), .slice Ar1 (natL m1.natAbs).length cr1, .bool (decide (f1 < 0)), .slice Ar2 (natL f1.natAbs).length cr2, .bool (decide (m2 < 0)), .slice Ar3 (natL m2.natAbs).length cr3, .bool (decide (f2 < 0)), .slice Ar4 (natL f2.natAbs).length cr4]) m1 f1 m2 f2 → Oct V b1 29 (.bool (decide (p1 < 0))) (.slice As1 (natL p1.natAbs).length cs1) (.bool (decide (q1 < 0))) (.slice As2 (natL q1.natAbs).length cs2) (.bool (decide (p2 < 0))) (.slice As3 (natL p2.natAbs).length cs3) (.bool (decide (q2 < 0))) (.slice As4 (natL q2.natAbs).length cs4) → GaussAt V (.agg #[.bool (decide (p1 < 0)), .slice As1 (natL p1.natAbs).length cs1, .bool (decide (q1 < 0)), .slice As2 (natL q1.natAbs).length cs2, .bool (decide (p2 < 0)), .slice As3 (natL p2.natAbs).length cs3, .bool (decide (q2 < 0)), .slice As4 (natL q2.natAbs).length cs4]) p1 q1 p2 q2 → Calls Tryz.prog 45 #[.pointer (some ⟨b0, 0, none⟩), .pointer (some ⟨b1, 0, none⟩)] V (RetFL V [(N1, D1)])) (w : World) (v_r : Value) (g_r : GaussAt w v_r m1 f1 m2 f2) (v_s : Value) (g_s : GaussAt w v_s p1 q1 p2 q2) :
    Calls Tryz.prog 18 #[v_r, v_s] w (RetFracK w w.heap.size N1 D1 0) := by
  have hmf : ∀ (fn : Fn) (first cap : Array Value) (w : World), (Instr.makeFunc fn first cap).run Tryz.prog w = .ok (.func fn first cap) w := fun _ _ _ _ => rfl
  obtain ⟨Ar1, cr1, Ar2, cr2, Ar3, cr3, Ar4, cr4, rfl, -⟩ := g_r.form
  have G_r := Hd g_r
  clear g_r
  obtain ⟨As1, cs1, As2, cs2, As3, cs3, As4, cs4, rfl, -⟩ := g_s.form
  have G_s := Hd g_s
  clear g_s
  have C_r := Hd (And.intro F_r0 F_r1)
  clear F_r0 F_r1
  have C_s := Hd (And.intro F_s0 F_s1)
  clear F_s0 F_s1
  have HC := Hd CC
  have HL := Hd hl
  clear CC hl
  go_enter Tryz.func18, Tryz.ntmps18
  go_upto_region 2 with fail
  refine boxes4 (P := fun W => Code.wp _ _ _ _ W) fun W q0 q1 q2 q3 b0 => ?_
  have P_r := Hd (Oct.mk q0)
  have G_r := Hd (G_r.out.below b0)
  have P_s := Hd (Oct.mk q1)
  have G_s := Hd (G_s.out.below b0)
  have PR := Hd (Quad.mk q2)
  have K := Hd (Cell1.mk q3)
  have HB := Hd b0
  clear b0 q0 q1 q2 q3
  go_wp2_with (refine wpList_load_row rfl _ _ (by rfl) _ (by rfl) _ _ _ _ P_r.out.blk Tryz.underlying29 rfl rayInfo ?_)
  refine (kray_w C_r.out.1 C_r.out.2 W K.out _ G_r.out).mono ?_
  rintro e w0 ⟨rfl, hb⟩
  have P_r := Hd (P_r.out.below hb)
  have G_r := Hd (G_r.out.below hb)
  have P_s := Hd (P_s.out.below hb)
  have G_s := Hd (G_s.out.below hb)
  have PR := Hd (PR.out.below hb)
  have K := Hd (K.out.below hb)
  have HB := Hd (belowTo HB.out hb)
  clear hb
  go_wp2_with (refine wpList_load_row rfl _ _ (by rfl) _ (by rfl) _ _ _ _ P_s.out.blk Tryz.underlying29 rfl rayInfo ?_)
  refine (kray_w C_s.out.1 C_s.out.2 w0 K.out _ G_s.out).mono ?_
  rintro e w1 ⟨rfl, hb⟩
  have P_r := Hd (P_r.out.below hb)
  have G_r := Hd (G_r.out.below hb)
  have P_s := Hd (P_s.out.below hb)
  have G_s := Hd (G_s.out.below hb)
  have PR := Hd (PR.out.below hb)
  have K := Hd (K.out.below hb)
  have HB := Hd (belowTo HB.out hb)
  clear hb
  go_wp2_with (rw [hmf])
  refine (as_cross_false HL.out w1 K.out (fun V hV => HC.out V _ _ _ _ _ _ _ _ _ _ _ _ _ _ _ _ _ _ (P_r.out.below hV) (G_r.out.below hV) (P_s.out.below hV) (G_s.out.below hV))).mono ?_
  rintro e wz ⟨v, rfl, hv, hb⟩
  have pr := ((PR.out.blk.below hb (by omega)) : Blk wz (w.heap.size + 1 + 1) 27 #[.bool false, .slice none 0 0, .bool false, .slice none 0 0])
  have HV := Hd hv
  have HB := Hd (HB.out.trans (hb.mono (by omega)))
  obtain ⟨A0, c0, A1, c1, rfl, -⟩ := hv.form
  have PR := Hd pr
  clear hv hb pr
  go_wp2_with (refine wpList_store_N rfl 27 _ _ (by rfl) (by rfl) _ _ _ 4 (by rfl) (by rfl) PR.out rfl HV.out.cells fracInfo4 ?_; intro w9 hput)
  have HF := Hd (HV.out.kept (hput.kept _ (Nat.le_refl _)) (by decide))
  have HB9 := Hd (hput.below HB.out (by omega))
  have k9 := hput.blk
  simp [Value.cells] at k9
  exact bodyPost_ret (results_two rfl _ _ (w.heap.size + 1 + 1) _ _ _ _ _ (by rfl) k9 Tryz.underlying27 rfl fracInfo4 (by rfl)) rfl ⟨_, rfl, HF.out, HB9.out⟩

theorem rcross_true {m1 f1 m2 f2 p1 q1 p2 q2 N1 D1 : Int} (hl : longZ [(N1, D1)] = true) (F_r0 : Fine m1 f1) (F_r1 : Fine m2 f2) (F_s0 : Fine p1 q1) (F_s1 : Fine p2 q2)  (CC : ∀ (V : World) (b0 b1 : Nat) (Ar1 Ar2 Ar3 Ar4 : Option Addr) (cr1 cr2 cr3 cr4 : Nat) (As1 As2 As3 As4 : Option Addr) (cs1 cs2 cs3 cs4 : Nat), Oct V b0 29 (.bool (decide (m1 < 0))) (.slice Ar1 (natL m1.natAbs).length cr1) (.bool (decide (f1 < 0))) (.slice Ar2 (natL f1.natAbs).length cr2) (.bool (decide (m2 < 0))) (.slice Ar3 (natL m2.natAbs).length cr3) (.bool (decide (f2 < 0))) (.slice Ar4 (natL f2.natAbs).length cr4) → GaussAt V (.agg #[.bool (decide (m1 < 0)), .slice Ar1 (natL m1.natAbs).length cr1, .bool (decide (f1 < 0)), .slice Ar2 (natL f1.natAbs).length cr2, .bool (decide (m2 < 0)), .slice Ar3 (natL m2.natAbs).length cr3, .bool (decide (f2 < 0)), .slice Ar4 (natL f2.natAbs).length cr4]) m1 f1 m2 f2 → Oct V b1 29 (.bool (decide (p1 < 0))) (.slice As1 (natL p1.natAbs).length cs1) (.bool (decide (q1 < 0))) (.slice As2 (natL q1.natAbs).length cs2) (.bool (decide (p2 < 0))) (.slice As3 (natL p2.natAbs).length cs3) (.bool (decide (q2 < 0))) (.slice As4 (natL q2.natAbs).length cs4) → GaussAt V (.agg #[.bool (decide (p1 < 0)), .slice As1 (natL p1.natAbs).length cs1, .bool (decide (q1 < 0)), .slice As2 (natL q1.natAbs).length cs2, .bool (decide (p2 < 0)), .slice As3 (natL p2.natAbs).length cs3, .bool (decide (q2 < 0)), .slice As4 (natL q2.natAbs).length cs4]) p1 q1 p2 q2 → Calls Tryz.prog 45 #[.pointer (some ⟨b0, 0, none⟩), .pointer (some ⟨b1, 0, none⟩)] V (RetFL V [(N1, D1)])) (w : World) (v_r : Value) (g_r : GaussAt w v_r m1 f1 m2 f2) (v_s : Value) (g_s : GaussAt w v_s p1 q1 p2 q2) :
    Calls Tryz.prog 18 #[v_r, v_s] w (RetFracK w w.heap.size 0 0 4) := by
  have hmf : ∀ (fn : Fn) (first cap : Array Value) (w : World), (Instr.makeFunc fn first cap).run Tryz.prog w = .ok (.func fn first cap) w := fun _ _ _ _ => rfl
  obtain ⟨Ar1, cr1, Ar2, cr2, Ar3, cr3, Ar4, cr4, rfl, -⟩ := g_r.form
  have G_r := Hd g_r
  clear g_r
  obtain ⟨As1, cs1, As2, cs2, As3, cs3, As4, cs4, rfl, -⟩ := g_s.form
  have G_s := Hd g_s
  clear g_s
  have C_r := Hd (And.intro F_r0 F_r1)
  clear F_r0 F_r1
  have C_s := Hd (And.intro F_s0 F_s1)
  clear F_s0 F_s1
  have HC := Hd CC
  have HL := Hd hl
  clear CC hl
  go_enter Tryz.func18, Tryz.ntmps18
  go_upto_region 2 with fail
  refine boxes4 (P := fun W => Code.wp _ _ _ _ W) fun W q0 q1 q2 q3 b0 => ?_
  have P_r := Hd (Oct.mk q0)
  have G_r := Hd (G_r.out.below b0)
  have P_s := Hd (Oct.mk q1)
  have G_s := Hd (G_s.out.below b0)
  have PR := Hd (Quad.mk q2)
  have K := Hd (Cell1.mk q3)
  have HB := Hd b0
  clear b0 q0 q1 q2 q3
  go_wp2_with (refine wpList_load_row rfl _ _ (by rfl) _ (by rfl) _ _ _ _ P_r.out.blk Tryz.underlying29 rfl rayInfo ?_)
  refine (kray_w C_r.out.1 C_r.out.2 W K.out _ G_r.out).mono ?_
  rintro e w0 ⟨rfl, hb⟩
  have P_r := Hd (P_r.out.below hb)
  have G_r := Hd (G_r.out.below hb)
  have P_s := Hd (P_s.out.below hb)
  have G_s := Hd (G_s.out.below hb)
  have PR := Hd (PR.out.below hb)
  have K := Hd (K.out.below hb)
  have HB := Hd (belowTo HB.out hb)
  clear hb
  go_wp2_with (refine wpList_load_row rfl _ _ (by rfl) _ (by rfl) _ _ _ _ P_s.out.blk Tryz.underlying29 rfl rayInfo ?_)
  refine (kray_w C_s.out.1 C_s.out.2 w0 K.out _ G_s.out).mono ?_
  rintro e w1 ⟨rfl, hb⟩
  have P_r := Hd (P_r.out.below hb)
  have G_r := Hd (G_r.out.below hb)
  have P_s := Hd (P_s.out.below hb)
  have G_s := Hd (G_s.out.below hb)
  have PR := Hd (PR.out.below hb)
  have K := Hd (K.out.below hb)
  have HB := Hd (belowTo HB.out hb)
  clear hb
  go_wp2_with (rw [hmf])
  refine (as_cross_true HL.out w1 K.out (fun V hV => HC.out V _ _ _ _ _ _ _ _ _ _ _ _ _ _ _ _ _ _ (P_r.out.below hV) (G_r.out.below hV) (P_s.out.below hV) (G_s.out.below hV))).mono ?_
  rintro e wz ⟨v, rfl, hv, hb⟩
  have pr := ((PR.out.blk.below hb (by omega)) : Blk wz (w.heap.size + 1 + 1) 27 #[.bool false, .slice none 0 0, .bool false, .slice none 0 0])
  have HV := Hd hv
  have HB := Hd (HB.out.trans (hb.mono (by omega)))
  obtain ⟨A0, c0, A1, c1, rfl, -⟩ := hv.form
  have PR := Hd pr
  clear hv hb pr
  go_wp2_with (refine wpList_store_N rfl 27 _ _ (by rfl) (by rfl) _ _ _ 4 (by rfl) (by rfl) PR.out rfl HV.out.cells fracInfo4 ?_; intro w9 hput)
  have HF := Hd (HV.out.kept (hput.kept _ (Nat.le_refl _)) (by decide))
  have HB9 := Hd (hput.below HB.out (by omega))
  have k9 := hput.blk
  simp [Value.cells] at k9
  exact bodyPost_ret (results_two rfl _ _ (w.heap.size + 1 + 1) _ _ _ _ _ (by rfl) k9 Tryz.underlying27 rfl fracInfo4 (by rfl)) rfl ⟨_, rfl, HF.out, HB9.out⟩
/- Contracts of package ray over rationals. (Written by wip/top/gentopr.py.) -/

theorem cross_ok {r s : Rat × Rat} (F : FineR r) (G : FineR s) (hl : longZ [((crossM r s).num, (crossM r s).den)] = false) (w : World) (v1 v2 : Value) (g1 : RAt w v1 r) (g2 : RAt w v2 s) :
    Calls Tryz.prog 18 #[v1, v2] w (RetF2 w (crossM r s) 0) :=
  rcross_false hl F.y F.u G.y G.u (fun V _ _ _ _ _ _ _ _ _ _ _ _ _ _ _ _ _ _ h1 h2 h3 h4 => rcross_c (rdet_q (FineQ.s5 F.y) (FineQ.s5 F.u) (FineQ.s5 G.y) (FineQ.s5 G.u)) V h1 h2 h3 h4) w v1 g1 v2 g2

theorem cross_long {r s : Rat × Rat} (F : FineR r) (G : FineR s) (hl : longZ [((crossM r s).num, (crossM r s).den)] = true) (w : World) (v1 v2 : Value) (g1 : RAt w v1 r) (g2 : RAt w v2 s) :
    Calls Tryz.prog 18 #[v1, v2] w (RetFracK w w.heap.size 0 0 4) :=
  rcross_true hl F.y F.u G.y G.u (fun V _ _ _ _ _ _ _ _ _ _ _ _ _ _ _ _ _ _ h1 h2 h3 h4 => rcross_c (rdet_q (FineQ.s5 F.y) (FineQ.s5 F.u) (FineQ.s5 G.y) (FineQ.s5 G.u)) V h1 h2 h3 h4) w v1 g1 v2 g2
theorem FineR.long {r : Rat × Rat} (F : FineR r) : longZ (numsR r) = false := fine_long fun z hz => by
  simp only [List.mem_cons, List.not_mem_nil, or_false] at hz
  rcases hz with rfl | rfl
  · exact ⟨F.y.num, F.y.den⟩
  · exact ⟨F.u.num, F.u.den⟩
theorem FineM.back {m : M2} (F : FineM m) : FineM m.back := by
  refine ⟨F.d, ?_, ?_, F.a, M2.back_det F.det⟩
  · exact FineQ.of (by show lz (-m.b).num ≤ 2048; rw [Rat.neg_num, lz_neg]; exact F.b.num) (by show lz ((-m.b).den : Int) ≤ 2048; rw [Rat.neg_den]; exact F.b.den)
  · exact FineQ.of (by show lz (-m.c).num ≤ 2048; rw [Rat.neg_num, lz_neg]; exact F.c.num) (by show lz ((-m.c).den : Int) ≤ 2048; rw [Rat.neg_den]; exact F.c.den)
theorem turnedR_q {q : Rat} (F : FineQ q) : OpI1 49 q.num q.den (-q).num (-q).den := by
  rw [Rat.neg_num, Rat.neg_den]
  exact (show OpR1 49 q.num q.den (-q.num) q.den from fun V v g => turned_own (Nat.le_trans F.num (by omega)) (Nat.le_trans F.den (by omega)) rfl V v g).i
theorem copyQ {q : Rat} (F : FineQ q) : OpI1 48 q.num q.den q.num q.den := copy_q (Nat.le_trans F.num (by omega)) (Nat.le_trans F.den (by omega))
theorem back_ok {m : M2} (F : FineM m) (w : World) (v1 : Value) (g1 : MAt w v1 m) : Calls Tryz.prog 20 #[v1] w (RetM2 w m.back 0) :=
  rback_false F.back.long (chk_q F) (fun V _ _ _ _ _ _ _ _ _ _ _ _ _ _ _ _ _ h1 h2 => rback_c (copyQ F.a) (turnedR_q F.b) (turnedR_q F.c) (copyQ F.d) V h1 h2) w v1 g1
/- What the laws of benches stand on. (Written by wip/top/gentopl.py.) -/

theorem wpList_load_midG {P : Program} {ops : Array Oper} {rest : List Oper} {o : Oper} {a : Act} {w : World} {Q : Exit → Act → World → Prop} (hw : Region.wanted o (yielded ops a.tmps) = true) (ty : TypeId) (x : Operand) (ho : o.op = .load ty x)
    (b o' : Nat) (hx : a.eval x = .pointer (some ⟨b, o', none⟩)) (cs : List Value) (d : TypeDesc) (hc : w.rangeAt b o' cs)
    (hu : P.underlying ty = some d) (hd : d.isRow = true) (hi : (P.info? ty).map (·.size) = some cs.length)
    (h : wpList P ops Q rest (a.put o.dst (.agg cs.toArray)) w) : wpList P ops Q (o :: rest) a w :=
  BigFrame.wpList_want hw fun _ hK => wp_load_mid ty x ho b o' hx cs d hc hu hd hi (hK _ _ h)
theorem LightS.ray2 {W w : World} {bx : Nat} {x : LRaw} (h : LightS W w bx x) : w.rangeAt bx 9 x.s.cells := fun j v hv => by
  have h1 := h.blk.cell (9 + j)
  rw [h1]
  have hj : j < 8 := (List.getElem?_eq_some_iff.1 hv).1
  unfold RRaw.cells at hv
  unfold LRaw.cells
  rw [← hv]
  match j, hj with
  | 0, _ => rfl
  | 1, _ => rfl
  | 2, _ => rfl
  | 3, _ => rfl
  | 4, _ => rfl
  | 5, _ => rfl
  | 6, _ => rfl
  | 7, _ => rfl
section
variable {w w' : World} {g : Nat} {v : Value} {n1 d1 n2 d2 n3 d3 n4 d4 : Int}
end
section
variable {w w' : World} {g : Nat} {v : Value} {n1 d1 n2 d2 : Int}
end
section
variable {w w' : World} {g : Nat} {v : Value} {n d : Int}
theorem VarF.below (h : VarF w g v n d) (hb : Below w.heap.size w w') : VarF w' g v n d := ⟨h.blk.below hb h.blk.lt, h.in_.below hb⟩
theorem FracIn.isagg (h : FracIn w 0 v n d) : ∃ cs : Array Value, v = .agg cs := by
  obtain ⟨A0, c0, A1, c1, rfl, -⟩ := h.form
  exact ⟨_, rfl⟩
theorem FracIn.agg (h : FracIn w 0 v n d) : (.agg v.cells : Value) = v := by
  obtain ⟨A0, c0, A1, c1, rfl, -⟩ := h.form
  rfl
theorem VarF.at_ (h : VarF w g v n d) : FracAt w (.agg v.cells) n d := by
  rw [h.in_.agg]
  exact h.in_.at_
theorem VarF.size (h : VarF w g v n d) : v.cells.size = 4 := h.in_.cells.1
end
theorem newF {V w : World} {z : Array Value} {v : Value} {n d : Int} (h : FracIn V 0 v n d) (p : PutN (V.alloc (.cells z 27)) V.heap.size 27 v w) : Below V.heap.size V w ∧ VarF w V.heap.size v n d := by
  have hb := p.below ((Below.refl V.heap.size V).alloc (Nat.le_refl _) (.cells z 27)) (Nat.le_refl _)
  exact ⟨hb, p.blk, h.below hb⟩
theorem cross_any (q : Rat) : ∃ n d k : Int, ∀ (r s : Rat × Rat), FineR r → FineR s → crossM r s = q → ∀ (V : World) (v1 v2 : Value), RAt V v1 r → RAt V v2 s → Calls Tryz.prog 18 #[v1, v2] V (RetFracK V V.heap.size n d k) := by
  cases hz : longZ [(q.num, (q.den : Int))] with
  | false => exact ⟨_, _, 0, fun r s F G e V v1 v2 g1 g2 => by
      have := cross_ok F G (by rw [e]; exact hz) V v1 v2 g1 g2
      rw [e] at this
      exact this⟩
  | true => exact ⟨0, 0, 4, fun r s F G e V v1 v2 g1 g2 => cross_long F G (by rw [e]; exact hz) V v1 v2 g1 g2⟩
end Go.Proofs.YtmcnmoljliggfaaGreatDoor
