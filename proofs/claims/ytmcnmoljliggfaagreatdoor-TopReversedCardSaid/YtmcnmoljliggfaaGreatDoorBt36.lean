/- Several texts in one: Octq1, RayBq1, RayCq2, RayDq1, BenchLawq2. -/
import Derived.Test.YtmcnmoljliggfaaGreatDoorBt28
set_option maxRecDepth 100000
set_option maxHeartbeats 8000000
/- Structs of two fractions: eight cells. What is known of them, wherever their limbs lie. -/
namespace Go.Proofs.YtmcnmoljliggfaaGreatDoor
open Go.RowKit

section
variable {w w' : World} {g : Nat} {T : TypeId} {a b c d e f h i : Value}
end
section
variable {w w' : World} {c e k l : Nat} {n d m f : Int} {A B C D : Option Addr}
theorem FracAt.raws (h : FracAt w (.agg #[.bool (decide (n < 0)), .slice A (natL n.natAbs).length c, .bool (decide (d < 0)), .slice B (natL d.natAbs).length e]) n d) : Raw w A c (natL n.natAbs) ∧ Raw w B e (natL d.natAbs) := by
  obtain ⟨A', c', B', e', h1, h2, h3⟩ := h.form
  simp only [Value.agg.injEq, Array.mk.injEq, List.cons.injEq, Value.slice.injEq, and_true, true_and] at h1
  obtain ⟨⟨rfl, rfl⟩, rfl, rfl⟩ := h1
  exact ⟨h2, h3⟩
end
section
variable {w w' : World} {v : Value} {n1 n2 n3 n4 : Bool} {xs ys us vs : List Nat} {c e k l : Nat} {A B C D : Option Addr}
end
section
variable {w w' : World} {g c e k l : Nat} {T : TypeId} {n d m f : Int} {A B C D : Option Addr}
end
/- Package ray: the closures of Through, Back, Cross. (Written by wip/top/genrayb.py.) -/

theorem rback_c {n1 d1 n2 d2 n3 d3 n4 d4 N1 D1 N2 D2 N3 D3 N4 D4 : Int} {Am1 Am2 Am3 Am4 Am5 Am6 Am7 Am8 : Option Addr} {cm1 cm2 cm3 cm4 cm5 cm6 cm7 cm8 : Nat} (C1 : OpI1 48 n1 d1 N1 D1) (C2 : OpI1 49 n2 d2 N2 D2) (C3 : OpI1 49 n3 d3 N3 D3) (C4 : OpI1 48 n4 d4 N4 D4) (w : World) {bm : Nat} (b_m : Hex w bm 38 (.bool (decide (n1 < 0))) (.slice Am1 (natL n1.natAbs).length cm1) (.bool (decide (d1 < 0))) (.slice Am2 (natL d1.natAbs).length cm2) (.bool (decide (n2 < 0))) (.slice Am3 (natL n2.natAbs).length cm3) (.bool (decide (d2 < 0))) (.slice Am4 (natL d2.natAbs).length cm4) (.bool (decide (n3 < 0))) (.slice Am5 (natL n3.natAbs).length cm5) (.bool (decide (d3 < 0))) (.slice Am6 (natL d3.natAbs).length cm6) (.bool (decide (n4 < 0))) (.slice Am7 (natL n4.natAbs).length cm7) (.bool (decide (d4 < 0))) (.slice Am8 (natL d4.natAbs).length cm8)) (g_m : MatAt w (.agg #[.bool (decide (n1 < 0)), .slice Am1 (natL n1.natAbs).length cm1, .bool (decide (d1 < 0)), .slice Am2 (natL d1.natAbs).length cm2, .bool (decide (n2 < 0)), .slice Am3 (natL n2.natAbs).length cm3, .bool (decide (d2 < 0)), .slice Am4 (natL d2.natAbs).length cm4, .bool (decide (n3 < 0)), .slice Am5 (natL n3.natAbs).length cm5, .bool (decide (d3 < 0)), .slice Am6 (natL d3.natAbs).length cm6, .bool (decide (n4 < 0)), .slice Am7 (natL n4.natAbs).length cm7, .bool (decide (d4 < 0)), .slice Am8 (natL d4.natAbs).length cm8]) n1 d1 n2 d2 n3 d3 n4 d4) :
    Calls Tryz.prog 47 #[.pointer (some ⟨bm, 0, none⟩)] w (RetFL w [(N4, D4), (N2, D2), (N3, D3), (N1, D1)]) := by
  have H1 := Hd C1
  have H2 := Hd C2
  have H3 := Hd C3
  have H4 := Hd C4
  clear C1 C2 C3 C4
  have G_m := Hd g_m
  have P_m := Hd b_m
  clear g_m b_m
  have HB := Hd (Below.refl w.heap.size w)
  go_enter Tryz.func47, Tryz.ntmps47
  go_wp2_with fail
  refine wp_region_free [.val (.pointer (some ⟨bm, 12, none⟩)) [], .val (.agg #[.bool (decide (n4 < 0)), .slice Am7 (natL n4.natAbs).length cm7, .bool (decide (d4 < 0)), .slice Am8 (natL d4.natAbs).length cm8]) [], .any false (fun u V => FracIn V 0 u N4 D4) [], .val (.pointer (some ⟨bm, 4, none⟩)) [], .val (.agg #[.bool (decide (n2 < 0)), .slice Am3 (natL n2.natAbs).length cm3, .bool (decide (d2 < 0)), .slice Am4 (natL d2.natAbs).length cm4]) [], .any false (fun u V => FracIn V 0 u N2 D2) [], .val (.pointer (some ⟨bm, 8, none⟩)) [], .val (.agg #[.bool (decide (n3 < 0)), .slice Am5 (natL n3.natAbs).length cm5, .bool (decide (d3 < 0)), .slice Am6 (natL d3.natAbs).length cm6]) [], .any false (fun u V => FracIn V 0 u N3 D3) [], .val (.pointer (some ⟨bm, 0, none⟩)) [], .val (.agg #[.bool (decide (n1 < 0)), .slice Am1 (natL n1.natAbs).length cm1, .bool (decide (d1 < 0)), .slice Am2 (natL d1.natAbs).length cm2]) [], .any false (fun u V => FracIn V 0 u N1 D1) [], .any false (fun u V => FL V u [(N4, D4), (N2, D2), (N3, D3), (N1, D1)]) [2, 5, 8, 11], .any false (fun u V => FL V u [(N4, D4), (N2, D2), (N3, D3), (N1, D1)]) [12]] w.heap.size w [] (fun _ _ => False) _ mixedOrders2 (Nat.le_refl _) (Below.refl _ _) (KeptV.refl _ _ _) rfl (by kernel_rfl) (by kernel_rfl) (by kernel_rfl) (by kernel_rfl) (by kernel_rfl) (by kernel_rfl) (by kernel_rfl) (by kernel_rfl) rfl (by simp [oldsF]) ?_ ?_ ?_ ?_
  · simp only [StableF, and_true]
    exact ⟨fun u V V' h k => h.kept k (by decide), fun u V V' h k => h.kept k (by decide), fun u V V' h k => h.kept k (by decide), fun u V V' h k => h.kept k (by decide), fun u V V' h k => h.kept k (by decide) (by decide), fun u V V' h k => h.kept k (by decide) (by decide)⟩
  · simp only [OldsF]
  · simp (maxSteps := 4000000) [StepsF, DepF, freeAct, fill, pairs]
    repeat' (first | apply And.intro | (intro (u : Value)) | (intro (u : Nat)))
    all_goals first
    | (intro V hV hK
       have hs_m := P_m.out.blk.lt
       have qm : Hex V (bm) _ _ _ _ _ _ _ _ _ _ _ _ _ _ _ _ _ := ⟨P_m.out.blk.below hV (by omega)⟩
       obtain ⟨-, a_m0, a_m1, a_m2, a_m3, a_m4, a_m5, a_m6, a_m7, a_m8, a_m9, a_m10, a_m11, a_m12, a_m13, a_m14, a_m15⟩ := qm.facts
       have hvb := HB.out.trans (hV.mono (by omega))
       have hvs := hvb.size
       have g_m := Hd (G_m.out.below hvb)
       clear hV hK qm
       go_simp
       first
       | exact Below.refl _ _
       | ((with_reducible refine (H4.out V _ g_m.out.fd).mono ?_); rintro e w' ⟨v, rfl, hv, hb⟩; exact ⟨hv, hb⟩)
       | ((with_reducible refine (H2.out V _ g_m.out.fb).mono ?_); rintro e w' ⟨v, rfl, hv, hb⟩; exact ⟨hv, hb⟩)
       | ((with_reducible refine (H3.out V _ g_m.out.fc).mono ?_); rintro e w' ⟨v, rfl, hv, hb⟩; exact ⟨hv, hb⟩)
       | ((with_reducible refine (H1.out V _ g_m.out.fa).mono ?_); rintro e w' ⟨v, rfl, hv, hb⟩; exact ⟨hv, hb⟩))
    | (intro V hV hK h1 h2 h3 h4
       obtain ⟨A1, c1, B1, e1, rfl, -⟩ := h1.form
       obtain ⟨A2, c2, B2, e2, rfl, -⟩ := h2.form
       obtain ⟨A3, c3, B3, e3, rfl, -⟩ := h3.form
       obtain ⟨A4, c4, B4, e4, rfl, -⟩ := h4.form
       have hbv := (Below.refl V.heap.size V)
       clear hV hK
       go_simp
       exact ⟨⟨V.heap.size, 4, _, [⟨_, A1, _, c1, _, B1, _, e1⟩, ⟨_, A2, _, c2, _, B2, _, e2⟩, ⟨_, A3, _, c3, _, B3, _, e3⟩, ⟨_, A4, _, c4, _, B4, _, e4⟩], rfl, Blk.new V _ _, List.prefix_refl _, ⟨h1.below (hbv.alloc (Nat.le_refl _) _), h2.below (hbv.alloc (Nat.le_refl _) _), h3.below (hbv.alloc (Nat.le_refl _) _), h4.below (hbv.alloc (Nat.le_refl _) _), trivial⟩, by simp⟩, hbv.alloc (Nat.le_refl _) _⟩)
    | (intro V hV hK h1
       obtain ⟨g9, c9, cs9, l9, rfl, -⟩ := h1.form
       clear hV hK
       go_simp
       first
       | exact Below.refl _ _
       | exact ⟨h1, Below.refl _ _⟩)
  · simp [EndF, FactsF, freeAct, fill, pairs]
    intro u1 u2 u3 u4 u5 u6 V1 hV hK h1 h2 h3 h4 h5 h6 _ _ _
    obtain ⟨g9, c9, cs9, l9, rfl, -⟩ := h6.form
    have HF := Hd h6
    have HB9 := Hd (HB.out.trans (hV.mono HB.out.size))
    clear hV hK h1 h2 h3 h4 h5 h6
    go_wp2_with fail
    go_ret
    exact ⟨_, rfl, HF.out, HB9.out⟩

theorem rcross_c {m1 f1 m2 f2 p1 q1 p2 q2 N D : Int} {Ar1 Ar2 Ar3 Ar4 : Option Addr} {cr1 cr2 cr3 cr4 : Nat} {As1 As2 As3 As4 : Option Addr} {cs1 cs2 cs3 cs4 : Nat} (C1 : PairI 42 m1 f1 m2 f2 p1 q1 p2 q2 N D) (w : World) {br : Nat} {bs : Nat} (b_r : Oct w br 29 (.bool (decide (m1 < 0))) (.slice Ar1 (natL m1.natAbs).length cr1) (.bool (decide (f1 < 0))) (.slice Ar2 (natL f1.natAbs).length cr2) (.bool (decide (m2 < 0))) (.slice Ar3 (natL m2.natAbs).length cr3) (.bool (decide (f2 < 0))) (.slice Ar4 (natL f2.natAbs).length cr4)) (g_r : GaussAt w (.agg #[.bool (decide (m1 < 0)), .slice Ar1 (natL m1.natAbs).length cr1, .bool (decide (f1 < 0)), .slice Ar2 (natL f1.natAbs).length cr2, .bool (decide (m2 < 0)), .slice Ar3 (natL m2.natAbs).length cr3, .bool (decide (f2 < 0)), .slice Ar4 (natL f2.natAbs).length cr4]) m1 f1 m2 f2) (b_s : Oct w bs 29 (.bool (decide (p1 < 0))) (.slice As1 (natL p1.natAbs).length cs1) (.bool (decide (q1 < 0))) (.slice As2 (natL q1.natAbs).length cs2) (.bool (decide (p2 < 0))) (.slice As3 (natL p2.natAbs).length cs3) (.bool (decide (q2 < 0))) (.slice As4 (natL q2.natAbs).length cs4)) (g_s : GaussAt w (.agg #[.bool (decide (p1 < 0)), .slice As1 (natL p1.natAbs).length cs1, .bool (decide (q1 < 0)), .slice As2 (natL q1.natAbs).length cs2, .bool (decide (p2 < 0)), .slice As3 (natL p2.natAbs).length cs3, .bool (decide (q2 < 0)), .slice As4 (natL q2.natAbs).length cs4]) p1 q1 p2 q2) :
    Calls Tryz.prog 45 #[.pointer (some ⟨br, 0, none⟩), .pointer (some ⟨bs, 0, none⟩)] w (RetFL w [(N, D)]) := by
  have H1 := Hd C1
  clear C1
  have G_r := Hd g_r
  have P_r := Hd b_r
  have G_s := Hd g_s
  have P_s := Hd b_s
  clear g_r b_r g_s b_s
  have HB := Hd (Below.refl w.heap.size w)
  go_enter Tryz.func45, Tryz.ntmps45
  obtain ⟨-, a_r0, a_r1, a_r2, a_r3, a_r4, a_r5, a_r6, a_r7⟩ := P_r.out.facts
  obtain ⟨-, a_s0, a_s1, a_s2, a_s3, a_s4, a_s5, a_s6, a_s7⟩ := P_s.out.facts
  have gr := G_r.out.below HB.out
  have gs := G_s.out.below HB.out
  go_wp2_with fail
  refine (H1.out w _ _ _ _ gr.re gr.im gs.re gs.im).mono ?_
  rintro e w1 ⟨v, rfl, hv, hb⟩
  clear a_r0 a_r1 a_r2 a_r3 a_r4 a_r5 a_r6 a_r7 a_s0 a_s1 a_s2 a_s3 a_s4 a_s5 a_s6 a_s7
  obtain ⟨A1, c1, B1, e1, rfl, -⟩ := hv.form
  have hbv := Below.refl w1.heap.size w1
  have HF := Hd (show FL (w1.alloc (.cells #[.bool (decide (N < 0)), .slice A1 (natL N.natAbs).length c1, .bool (decide (D < 0)), .slice B1 (natL D.natAbs).length e1] 27)) (.slice (some ⟨w1.heap.size, 0, none⟩) 1 1) [(N, D)] from ⟨w1.heap.size, 1, _, [⟨_, A1, _, c1, _, B1, _, e1⟩], rfl, Blk.new w1 _ _, List.prefix_refl _, ⟨hv.below (hbv.alloc (Nat.le_refl _) _), trivial⟩, by simp⟩)
  have HB9 := Hd (hb.alloc hb.size (.cells #[.bool (decide (N < 0)), .slice A1 (natL N.natAbs).length c1, .bool (decide (D < 0)), .slice B1 (natL D.natAbs).length e1] 27))
  clear hv hb gr gs hbv
  go_wp2_with fail
  go_ret
  exact ⟨_, rfl, HF.out, HB9.out⟩
/- Package ray: the keeper. (Written by wip/top/genrayc.py.) -/

theorem answer_back_false {zs : List (Int × Int)} {p0 : Value} (hl : longZ zs = false) (w : World) {kk : Nat} (hk : Cell1 w kk 74 (.int .i64 0)) (C1 : Calls Tryz.prog 47 #[p0] w (RetFL w zs)) :
    Calls Tryz.prog 38 #[.pointer (some ⟨kk, 0, none⟩), .func (.func 47) #[] #[p0]] w (RetFL w zs) := by
  have H1 := Hd C1
  have HL := Hd hl.symm
  have K := Hd hk
  clear C1 hl hk
  have k0 := K.out.blk.cell 0
  simp at k0
  go_enter Tryz.func38, Tryz.ntmps38
  go_wp2_with fail
  refine H1.out.mono ?_
  rintro e w1 ⟨v, rfl, hv, hb⟩
  clear k0
  have K := Hd (K.out.below hb)
  have HV := Hd hv
  have HB := Hd hb
  obtain ⟨g9, c9, cs9, l9, rfl, -⟩ := hv.form
  clear hv hb
  go_wp2_with fail
  refine (HV.out.at_.answer HL.out).mono ?_
  rintro e w2 ⟨rfl, hb⟩
  have K := Hd (K.out.below hb)
  have HV := Hd (HV.out.below hb)
  have HB := Hd (belowTo HB.out hb)
  clear hb
  have k1 := K.out.blk.cell 0
  simp at k1
  have k2 := K.out.blk.frozen 0
  have HV := Hd (HV.out.below (below_same (Below.refl _ _) K.out.blk))
  have HB := Hd (below_same HB.out K.out.blk)
  go_wp2_with fail
  go_ret
  exact ⟨_, rfl, HV.out, HB.out⟩

theorem answer_cross_false {zs : List (Int × Int)} {p0 p1 : Value} (hl : longZ zs = false) (w : World) {kk : Nat} (hk : Cell1 w kk 74 (.int .i64 0)) (C1 : Calls Tryz.prog 45 #[p0, p1] w (RetFL w zs)) :
    Calls Tryz.prog 38 #[.pointer (some ⟨kk, 0, none⟩), .func (.func 45) #[] #[p0, p1]] w (RetFL w zs) := by
  have H1 := Hd C1
  have HL := Hd hl.symm
  have K := Hd hk
  clear C1 hl hk
  have k0 := K.out.blk.cell 0
  simp at k0
  go_enter Tryz.func38, Tryz.ntmps38
  go_wp2_with fail
  refine H1.out.mono ?_
  rintro e w1 ⟨v, rfl, hv, hb⟩
  clear k0
  have K := Hd (K.out.below hb)
  have HV := Hd hv
  have HB := Hd hb
  obtain ⟨g9, c9, cs9, l9, rfl, -⟩ := hv.form
  clear hv hb
  go_wp2_with fail
  refine (HV.out.at_.answer HL.out).mono ?_
  rintro e w2 ⟨rfl, hb⟩
  have K := Hd (K.out.below hb)
  have HV := Hd (HV.out.below hb)
  have HB := Hd (belowTo HB.out hb)
  clear hb
  have k1 := K.out.blk.cell 0
  simp at k1
  have k2 := K.out.blk.frozen 0
  have HV := Hd (HV.out.below (below_same (Below.refl _ _) K.out.blk))
  have HB := Hd (below_same HB.out K.out.blk)
  go_wp2_with fail
  go_ret
  exact ⟨_, rfl, HV.out, HB.out⟩

theorem answer_cross_true {zs : List (Int × Int)} {p0 p1 : Value} (hl : longZ zs = true) (w : World) {kk : Nat} (hk : Cell1 w kk 74 (.int .i64 0)) (C1 : Calls Tryz.prog 45 #[p0, p1] w (RetFL w zs)) :
    Calls Tryz.prog 38 #[.pointer (some ⟨kk, 0, none⟩), .func (.func 45) #[] #[p0, p1]] w fun e w' => e = .returned (.slice none 0 0) ∧ ∃ w1, w' = w1.setCell ⟨kk, 0, none⟩ (.int .i64 4) ∧ Below w.heap.size w w1 := by
  have H1 := Hd C1
  have HL := Hd hl.symm
  have K := Hd hk
  clear C1 hl hk
  have k0 := K.out.blk.cell 0
  simp at k0
  go_enter Tryz.func38, Tryz.ntmps38
  go_wp2_with fail
  refine H1.out.mono ?_
  rintro e w1 ⟨v, rfl, hv, hb⟩
  clear k0
  have K := Hd (K.out.below hb)
  have HV := Hd hv
  have HB := Hd hb
  obtain ⟨g9, c9, cs9, l9, rfl, -⟩ := hv.form
  clear hv hb
  go_wp2_with fail
  refine (HV.out.at_.answer HL.out).mono ?_
  rintro e w2 ⟨rfl, hb⟩
  have K := Hd (K.out.below hb)
  have HV := Hd (HV.out.below hb)
  have HB := Hd (belowTo HB.out hb)
  clear hb
  have k1 := K.out.blk.cell 0
  simp at k1
  have k2 := K.out.blk.frozen 0
  go_wp2_with fail
  go_ret
  exact ⟨rfl, w2, rfl, HB.out⟩
/- Package ray: Back, Through, Cross. (Written by wip/top/genrayd.py.) -/

theorem FL.one {w : World} {u : Value} {N1 D1 : Int} (h : FL w u [(N1, D1)]) : ∃ g c cs A0 c0 A1 c1, u = .slice (some ⟨g, 0, none⟩) 1 c ∧ (Blk w g 27 cs ∧ [.bool (decide (N1 < 0)), .slice A0 (natL N1.natAbs).length c0, .bool (decide (D1 < 0)), .slice A1 (natL D1.natAbs).length c1] <+: cs.toList) ∧ FracIn w 0 (.agg #[.bool (decide (N1 < 0)), .slice A0 (natL N1.natAbs).length c0, .bool (decide (D1 < 0)), .slice A1 (natL D1.natAbs).length c1]) N1 D1 := by
  obtain ⟨g, c, cs, l, rfl, h1, h2, h3, -⟩ := h.form
  obtain ⟨q0, t0, rfl, e0, h3⟩ := h3.cons
  obtain rfl := h3.nil
  obtain ⟨A0, c0, A1, c1, f0, -⟩ := e0.form
  rw [show cellsF [q0] = [.bool (decide (N1 < 0)), .slice A0 (natL N1.natAbs).length c0, .bool (decide (D1 < 0)), .slice A1 (natL D1.natAbs).length c1] from by
    simp only [FLoc.val, Value.agg.injEq, Array.mk.injEq, List.cons.injEq, and_true] at f0
    simp only [cellsF, List.flatMap_cons, List.flatMap_nil, FLoc.cells, f0, List.cons_append, List.nil_append]] at h2
  rw [f0] at e0
  exact ⟨g, c, cs, A0, c0, A1, c1, rfl, ⟨h1, h2⟩, e0⟩

theorem as_back_false {N1 D1 N2 D2 N3 D3 N4 D4 : Int} {p0 : Value} (hl : longZ [(N1, D1), (N2, D2), (N3, D3), (N4, D4)] = false) (w : World) {kk : Nat} (hk : Cell1 w kk 74 (.int .i64 0)) (C1 : ∀ V, Below w.heap.size w V → Calls Tryz.prog 47 #[p0] V (RetFL V [(N1, D1), (N2, D2), (N3, D3), (N4, D4)])) :
    Calls Tryz.prog 32 #[.pointer (some ⟨kk, 0, none⟩), .func (.func 47) #[] #[p0]] w (RetMatK w kk N1 D1 N2 D2 N3 D3 N4 D4 0) := by
  have hz := Hd (Nat.le_of_lt hk.blk.lt)
  have H1 := Hd C1
  have HL := Hd hl
  have K := Hd hk
  clear C1 hl hk
  go_enter Tryz.func32, Tryz.ntmps32
  go_upto_region 1 with fail
  refine boxes1 (P := fun W => Code.wp _ _ _ _ W) fun W p0 b0 => ?_
  have PR := Hd (Hex.mk p0)
  have HB := Hd b0
  have K := Hd (K.out.below b0)
  clear p0 b0
  go_wp2_with fail
  refine (answer_back_false HL.out W K.out (H1.out W HB.out)).mono ?_
  rintro e w1 ⟨u, rfl, hu, hb⟩
  obtain ⟨g, c, cs, A0, c0, A1, c1, A2, c2, A3, c3, A4, c4, A5, c5, A6, c6, A7, c7, rfl, hr, hm⟩ := hu.four
  have HR := Hd (range_cells hr.1 hr.2)
  have HM := Hd hm
  have PR := Hd (PR.out.below hb)
  have HB := Hd (belowTo HB.out hb)
  clear hu hr hm hb K
  have hat : ∀ w, (Instr.arrayAt 79 (.slice (some ⟨g, 0, none⟩) 4 c)).run Tryz.prog w = .ok (.pointer (some ⟨g, 0, none⟩)) w := fun w => run_arrayAt w 79 _ 4 _ 4 c Tryz.underlying79 (Nat.le_refl _)
  go_wp2_with (first | (refine wpList_load_mid rfl _ _ (by rfl) _ _ (by rfl) _ _ HR.out Tryz.underlying79 rfl fourInfo ?_) | (rw [hat]) | (go_at_call 65; refine (matrix_w w1).mono ?_; rintro e w2 ⟨rfl, hb⟩; have PR := Hd (PR.out.below hb); have HM := Hd (HM.out.below hb); have HB := Hd (belowTo HB.out hb); clear hb) | (refine wpList_store_M rfl _ _ (by rfl) (by rfl) _ _ _ (by rfl) (by rfl) PR.out.blk rfl HM.out.cells ?_; intro w9 hput))
  have HF := Hd (HM.out.kept (hput.kept _ (Nat.le_refl _)) (by decide))
  have HB9 := Hd ((hput.below HB.out (Nat.le_refl _)).mono hz.out)
  have k9 := hput.blk
  simp [Value.cells] at k9
  refine bodyPost_ret (results_two rfl _ _ w.heap.size _ _ _ _ _ (by rfl) k9 Tryz.underlying38 rfl matInfo (by rfl)) rfl ⟨_, rfl, HF.out, HB9.out⟩

theorem as_cross_false {N D : Int} {p0 p1 : Value} (hl : longZ [(N, D)] = false) (w : World) {kk : Nat} (hk : Cell1 w kk 74 (.int .i64 0)) (C1 : ∀ V, Below w.heap.size w V → Calls Tryz.prog 45 #[p0, p1] V (RetFL V [(N, D)])) :
    Calls Tryz.prog 44 #[.pointer (some ⟨kk, 0, none⟩), .func (.func 45) #[] #[p0, p1]] w (RetFracK w kk N D 0) := by
  have hz := Hd (Nat.le_of_lt hk.blk.lt)
  have H1 := Hd C1
  have HL := Hd hl
  have K := Hd hk
  clear C1 hl hk
  go_enter Tryz.func44, Tryz.ntmps44
  go_upto_region 1 with fail
  refine boxes1 (P := fun W => Code.wp _ _ _ _ W) fun W p0 b0 => ?_
  have PR := Hd (Quad.mk p0)
  have HB := Hd b0
  have K := Hd (K.out.below b0)
  clear p0 b0
  go_wp2_with fail
  refine (answer_cross_false HL.out W K.out (H1.out W HB.out)).mono ?_
  rintro e w1 ⟨u, rfl, hu, hb⟩
  obtain ⟨g, c, cs, A0, c0, A1, c1, rfl, hr, hm⟩ := hu.one
  have HR := Hd (range_cells hr.1 hr.2)
  have HM := Hd hm
  have PR := Hd (PR.out.below hb)
  have HB := Hd (belowTo HB.out hb)
  clear hu hr hm hb K
  have x0 := HR.out 0 _ rfl
  have x1 := HR.out 1 _ rfl
  have x2 := HR.out 2 _ rfl
  have x3 := HR.out 3 _ rfl
  simp at x0 x1 x2 x3
  go_wp2_with (refine wpList_store_N rfl _ _ _ (by rfl) (by rfl) _ _ _ 4 (by rfl) (by rfl) PR.out.blk rfl HM.out.cells fracInfo4 ?_; intro w9 hput)
  have HF := Hd (HM.out.kept (hput.kept _ (Nat.le_refl _)) (by decide))
  have HB9 := Hd ((hput.below HB.out (Nat.le_refl _)).mono hz.out)
  have k9 := hput.blk
  simp [Value.cells] at k9
  refine bodyPost_ret (results_two rfl _ _ w.heap.size _ _ _ _ _ (by rfl) k9 Tryz.underlying27 rfl fracInfo4 (by rfl)) rfl ⟨_, rfl, HF.out, HB9.out⟩

theorem as_cross_true {N D : Int} {p0 p1 : Value} (hl : longZ [(N, D)] = true) (w : World) {kk : Nat} (hk : Cell1 w kk 74 (.int .i64 0)) (C1 : ∀ V, Below w.heap.size w V → Calls Tryz.prog 45 #[p0, p1] V (RetFL V [(N, D)])) :
    Calls Tryz.prog 44 #[.pointer (some ⟨kk, 0, none⟩), .func (.func 45) #[] #[p0, p1]] w (RetFracK w kk 0 0 4) := by
  have hz := Hd (Nat.le_of_lt hk.blk.lt)
  have hkk := hk.blk.lt
  have H1 := Hd C1
  have HL := Hd hl
  have K := Hd hk
  clear C1 hl hk
  go_enter Tryz.func44, Tryz.ntmps44
  go_upto_region 1 with fail
  refine boxes1 (P := fun W => Code.wp _ _ _ _ W) fun W p0 b0 => ?_
  have PR := Hd (Quad.mk p0)
  have HB := Hd b0
  have K := Hd (K.out.below b0)
  clear p0 b0
  go_wp2_with fail
  refine (answer_cross_true HL.out W K.out (H1.out W HB.out)).mono ?_
  rintro e w2 ⟨rfl, w1, hw, hb⟩
  have PR := Hd (PR.out.below hb)
  have HB := Hd (belowTo HB.out hb)
  have K := Hd (K.out.below hb)
  have hk2 : Cell1 w2 kk 74 (.int .i64 4) := ⟨by rw [hw]; exact K.out.blk.set_ 0 _⟩
  have hp2 := (show w2.heap[w.heap.size]? = w1.heap[w.heap.size]? from by rw [hw]; exact Below.heap_setCell _ ⟨kk, 0, none⟩ _ _ (by show w.heap.size ≠ kk; omega)).trans PR.out.blk
  have PR := Hd (Quad.mk hp2)
  have HB := Hd (show Below kk w w2 from by rw [hw]; exact (HB.out.mono hz.out).setCell (p := ⟨kk, 0, none⟩) (Nat.le_refl _) _)
  have K := Hd hk2
  clear hw hb hk2 hp2 H1
  go_wp2_with fail
  have hlt := PR.out.blk.lt
  refine wp_region_free [.val (.agg #[.bool false, .slice none 0 0, .bool false, .slice none 0 0]) [], .val (.pointer (some ⟨kk, 0, none⟩)) [], .val (.pointer (some ⟨kk, 0, none⟩)) [], .val (.pointer (some ⟨kk, 0, none⟩)) [], .val (.int .i64 4) [999], .old w.heap.size 27 #[.bool false, .slice none 0 0, .bool false, .slice none 0 0] 0 4 0 [], .val (.int .i64 4) []] w.heap.size w2 [27] (fun _ _ => False) _ mixedOrders2 (by omega) (Below.refl _ _) (KeptV.refl _ _ _) rfl (by kernel_rfl) (by kernel_rfl) (by kernel_rfl) (by kernel_rfl) (by kernel_rfl) (by kernel_rfl) (by kernel_rfl) (by kernel_rfl) rfl (by simp [oldsF]) ?_ ?_ ?_ ?_
  · simp only [StableF]
  · simp only [OldsF, and_true]
    exact ⟨Nat.le_refl _, PR.out.blk.lt, PR.out.blk, by simp⟩
  · simp (maxSteps := 4000000) [StepsF, DepF, oldsF, freeAct, fill, pairs]
    repeat' (first | apply And.intro | (intro (u : Value)) | (intro (u : Nat)))
    all_goals try exact ⟨_, _, _, rfl, rfl, rfl, rfl, fracInfo4⟩
    all_goals first
    | (intro V hV hK ho
       have hb4 : Cell1 V kk 74 (.int .i64 4) := ⟨(ho kk K.out.blk.lt (by omega)).trans K.out.blk⟩
       have k1 := hb4.blk.cell 0
       simp at k1
       clear hV hK ho hb4
       go_simp
       exact Below.refl _ _)
    | (intro V hV hK
       clear hV hK
       go_simp
       exact Below.refl _ _)
    | exact fun _ _ _ => ⟨rfl, by simp [Value.cells, Value.oneCell']⟩
    | exact fun _ _ _ _ => ⟨rfl, by simp [Value.cells, Value.oneCell']⟩
  · simp [EndF, FactsF, freeAct, fill, pairs]
    intro V hV hK bq _ _ _
    simp [setAll, Value.cells] at bq
    have HB9 := Hd (HB.out.trans (hV.mono (by omega)))
    have k9 := bq
    clear bq hV hK
    go_wp2_with fail
    refine bodyPost_ret (results_two rfl _ _ w.heap.size _ _ _ _ _ (by rfl) k9 Tryz.underlying27 rfl fracInfo4 (by rfl)) rfl ⟨_, rfl, (FracOwn.nought _ 0).in_, HB9.out⟩
/- Benches as products of matrices of rationals: cut anywhere, of determinant 1, and how many limbs their numbers have; plain. -/

theorem rayM_one (r : Rat × Rat) : rayM M2.one r = r := by
  unfold rayM M2.one
  ext <;> dsimp only <;> grind
theorem M2.back_mul {m : M2} (h : m.det = 1) : m.back.mul m = M2.one := by
  unfold M2.det at h
  unfold M2.back M2.mul M2.one
  ext <;> dsimp only <;> grind
theorem M2.back_det {m : M2} (h : m.det = 1) : m.back.det = 1 := by
  unfold M2.det at h ⊢
  unfold M2.back
  dsimp only
  grind
theorem cross_kept {m : M2} (h : m.det = 1) (r s : Rat × Rat) : crossM (rayM m r) (rayM m s) = crossM r s := by
  unfold M2.det at h
  unfold crossM rayM
  dsimp only
  grind
end Go.Proofs.YtmcnmoljliggfaaGreatDoor
