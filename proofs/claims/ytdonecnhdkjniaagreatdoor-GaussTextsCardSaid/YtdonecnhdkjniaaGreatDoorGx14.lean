/- Several texts in one: BitsLz, RCommon, Common02, TurnedR, Lowest02. -/
import Derived.Test.YtdonecnhdkjniaaGreatDoorGx13
set_option maxRecDepth 100000
set_option maxHeartbeats 8000000
namespace Go.Proofs.YtdonecnhdkjniaaGreatDoor

def bz (x : Int) : Nat := Xs (Za x.natAbs)
open Go.RowKit

theorem rcommon (x y z : Int) (A B : Option Addr) (c d : Nat) (w : World) (h : Zm w A c (Za x.natAbs)) (g : Zm w B d (Za y.natAbs)) (hx : lz x <= 30000) (hy : lz y <= 30000) (hz : z = ZL x y) :
   Calls Tryz.prog 259 #[.agg #[.bool (decide (x < 0)), .slice A (Za x.natAbs).length c], .agg #[.bool (decide (y < 0)), .slice B (Za y.natAbs).length d]] w (RetAt w z) := by
 refine (ref_Common (decide (x < 0)) (decide (y < 0)) A B c d _ _ (ZB _) (ZB _) hx hy w h g).mono ?_
 rintro e w' ⟨v, rfl, hv, hb⟩
 rw [Zi, Zi] at hv
 have e1 : ((Nat.gcd x.natAbs y.natAbs : Nat) : Int) = z := by rw [hz]; rfl
 rw [e1] at hv
 refine ⟨v, rfl, ?_, hb⟩
 rcases hv with h1 | ⟨h1, h2⟩ | ⟨h1, h2⟩
 . exact h1.at_
 . rw [h1, h2]; exact XS.sv (h.below hb)
 . rw [h1, h2]; exact XS.sv (g.below hb)
theorem gcdZ_comm (x y : Int) : ZL x y = ZL y x := by unfold ZL; rw [Nat.gcd_comm]
theorem gcdZ_rest (x y : Int) : ZL y (x.tmod y) = ZL x y := by
 unfold ZL
 rw [Int.natAbs_tmod, Nat.gcd_comm y.natAbs, Nat.gcd_rec y.natAbs x.natAbs |>.symm, Nat.gcd_comm]
theorem bz_one {y : Int} (h : bz y = 1) : y.natAbs = 1 := by
 have h0 : y ≠ 0 := fun e => by rw [e] at h; revert h; decide
 have := bits_val (show 0 < y.natAbs by omega)
 have e : Xs (Za y.natAbs) = 1 := h
 rw [e] at this
 omega
theorem gcdZ_one {x y : Int} (h : y.natAbs = 1) : ZL x y = 1 := by
 unfold ZL; rw [h, Nat.gcd_one_right]; rfl
theorem tmod_lz (n g : Int) : lz (n.tmod g) <= lz n := lz_mono (by rw [Int.natAbs_tmod]; exact Nat.mod_le _ _)

theorem common02_stay (x y : Int) (A B : Option Addr) (c d : Nat) (w : World) (h_x : Zm w A c (Za x.natAbs)) (h_y : Zm w B d (Za y.natAbs)) (hx : lz x <= 30000) (hy : lz y <= 30000) (hlt : ¬ bz x < bz y) :
   Calls Tryz.prog 225 #[.agg #[.bool (decide (x < 0)), .slice A (Za x.natAbs).length c], .agg #[.bool (decide (y < 0)), .slice B (Za y.natAbs).length d]] w (RetAt w (ZL x y)) := by
 obtain ⟨kx, hkx⟩ : ∃ k : Int, k = ((Xs (Za x.natAbs) : Nat) : Int) := ⟨_, rfl⟩
 obtain ⟨ky, hky⟩ : ∃ k : Int, k = ((Xs (Za y.natAbs) : Nat) : Int) := ⟨_, rfl⟩
 obtain ⟨sg, hsg⟩ : ∃ k : Int, k = y.sign := ⟨_, rfl⟩
 obtain ⟨g, hg⟩ : ∃ k : Int, k = ZL x y := ⟨_, rfl⟩
 have HKX := Hd hkx
 have HKY := Hd hky
 have HSG := Hd hsg
 have HLT := Hd (show decide (kx < ky) = false from decide_eq_false (by rw [hkx, hky]; have h1 : bz x = Xs (Za x.natAbs) := rfl; have h2 : bz y = Xs (Za y.natAbs) := rfl; omega))
 have HGG := Hd hg
 clear hkx hky hsg hg hlt
 have b0 := ((((Below.refl w.heap.size w).alloc (Nat.le_refl _) (.cells #[.bool (decide (x < 0)), .slice A (Za x.natAbs).length c] 24)).alloc (by simp) (.cells #[.bool (decide (y < 0)), .slice B (Za y.natAbs).length d] 24)).alloc (by simp; omega) (.cells #[.bool false, .slice none 0 0] 24))
 have p0 := ((Zr.new w 24 (.bool (decide (x < 0))) (.slice A (Za x.natAbs).length c)).alloc (.cells #[.bool (decide (y < 0)), .slice B (Za y.natAbs).length d] 24)).alloc (.cells #[.bool false, .slice none 0 0] 24)
 have p1 := (Zr.new (w.alloc (.cells #[.bool (decide (x < 0)), .slice A (Za x.natAbs).length c] 24)) 24 (.bool (decide (y < 0))) (.slice B (Za y.natAbs).length d)).alloc (.cells #[.bool false, .slice none 0 0] 24)
 have p2 := Zr.new ((w.alloc (.cells #[.bool (decide (x < 0)), .slice A (Za x.natAbs).length c] 24)).alloc (.cells #[.bool (decide (y < 0)), .slice B (Za y.natAbs).length d] 24)) 24 (.bool false) (.slice none 0 0)
 simp only [World.size_alloc] at p1 p2
 have V_x := Hd (NV.of h_x b0 p0)
 have V_y := Hd (NV.of h_y b0 p1)
 have P_r0 := Hd p2
 have RW_x := Hd h_x
 have RW_y := Hd h_y
 have HBW := Hd b0
 clear b0 p0 p1 p2 h_x h_y
 go_enter Tryz.func225, Tryz.ntmps225
 obtain ⟨W, E⟩ : ∃ W, W = (((w.alloc (.cells #[.bool (decide (x < 0)), .slice A (Za x.natAbs).length c] 24)).alloc (.cells #[.bool (decide (y < 0)), .slice B (Za y.natAbs).length d] 24)).alloc (.cells #[.bool false, .slice none 0 0] 24)) := ⟨_, rfl⟩
 go_upto_region 1 with fail
 rw [<- E] at V_x V_y P_r0 HBW ⊢
 clear E
 have hsz := P_r0.out.blk.lt
 go_wp2_with fail
 obtain ⟨W0, hW⟩ : ∃ W0, W0 = W := ⟨_, rfl⟩
 rw [<- hW] at HBW P_r0 V_x V_y  ⊢
 clear hW
 refine Zd [.val (.agg #[.bool (decide (x < 0)), .slice A (Za x.natAbs).length c]) [], .val (.int .i64 kx) [], .val (.agg #[.bool (decide (y < 0)), .slice B (Za y.natAbs).length d]) [], .val (.int .i64 ky) [], .val (.bool false) []] W0.heap.size W0 [] (fun _ _ => False) _ Zf (Nat.le_refl _) (Below.refl _ _) (Zu.refl _ _ _) rfl ?_ ?_ ?_ ?_ ?_ ?_ ?_ ?_ rfl (by simp [ZP]) ?_ ?_ ?_ ?_
 iterate 8 kernel_rfl
 . simp only [Zy]
 . simp only [Z5]
 . simp (maxSteps := 4000000) [ZH, YD, Zg, ZF, Zn]
   repeat' (first | apply And.intro)
   all_goals
     intro V hV hK
     obtain ⟨-, a_x, b_x, -, -⟩ := (V_x.out.below hV).pair.facts
     have r_x := Hd (V_x.out.below hV).raw
     obtain ⟨-, a_y, b_y, -, -⟩ := (V_y.out.below hV).pair.facts
     have r_y := Hd (V_y.out.below hV).raw
     clear hV hK
     go_simp
     first
     | exact Below.refl _ _
     | exact ⟨by have := HLT.out; simpa using this, Below.refl _ _⟩
     | ((with_reducible refine (rbits x kx A c V r_x.out (by omega) HKX.out).mono ?_); rintro e w' ⟨rfl, hb⟩; exact ⟨rfl, hb⟩)
     | ((with_reducible refine (rbits y ky B d V r_y.out (by omega) HKY.out).mono ?_); rintro e w' ⟨rfl, hb⟩; exact ⟨rfl, hb⟩)
 . simp [YH, ZK, Zg, ZF, Zn]
   intro V hV hK _ _ _
   have V_x := Hd (V_x.out.below hV)
   have V_y := Hd (V_y.out.below hV)
   have P_r0 := Hd (P_r0.out.below hV)
   have HBW := Hd (Zb HBW.out hV)
   clear hV hK
   obtain ⟨v1, hV0⟩ : ∃ Y, Y = V := ⟨_, rfl⟩
   rw [<- hV0] at HBW P_r0 V_x V_y  ⊢
   clear hV0
   have V_a := V_x
   have V_b := V_y
   clear V_x V_y
   obtain ⟨l_b, a_b, b_b, -, -⟩ := V_b.out.pair.facts
   go_wp2_with fail
   refine (rsign y sg B d v1 V_b.out.raw HSG.out).mono ?_
   rintro e x2 ⟨rfl, hb⟩
   clear l_b a_b b_b
   have V_a := Hd (V_a.out.below hb)
   have V_b := Hd (V_b.out.below hb)
   have P_r0 := Hd (P_r0.out.below hb)
   have HBW := Hd (Zb HBW.out hb)
   clear hb
   by_cases he : y = 0
   . have hs0 : (sg == 0) = true := by rw [HSG.out, he]; rfl
     have HG := Hd (show g = ZL x y from by rw [HGG.out])
     clear he
     obtain ⟨l_a, a_a, b_a, -, -⟩ := V_a.out.pair.facts
     obtain ⟨l_b, a_b, b_b, -, -⟩ := V_b.out.pair.facts
     go_wp2_with fail
     refine (rcommon x y g A B c d x2 V_a.out.raw V_b.out.raw (by omega) (by omega) HG.out).mono ?_
     rintro e w9 ⟨v, rfl, hI, hb⟩
     clear l_a a_a b_a l_b a_b b_b
     obtain ⟨A9, c9, rfl, r9⟩ := hI.form
     have pr := P_r0.out.below hb
     obtain ⟨q1, q2, q3, q4, q5⟩ := pr.facts
     have R9 := Hd (r9.pairT pr (.bool (decide (g < 0))) (.slice A9 (Za g.natAbs).length c9))
     have HB := Hd (ZW (Zb HBW.out hb) (show w.heap.size <= w.heap.size + 1 + 1 by omega) (.bool (decide (g < 0))) (.slice A9 (Za g.natAbs).length c9))
     have HQ9 := Hd (pr.store (.bool (decide (g < 0))) (.slice A9 (Za g.natAbs).length c9))
     clear hI hb pr r9
     go_wp2_with fail
     obtain ⟨_, k0, k1, _, _⟩ := HQ9.out.facts
     exact bodyPost_ret (by simp [results, Tryz.results225, go_sem, k0, k1]) rfl ⟨.agg #[.bool (decide (g < 0)), .slice A9 (Za g.natAbs).length c9], rfl, by rw [<- HGG.out]; exact ⟨_, _, rfl, R9.out⟩, HB.out⟩
   have hs0 : (sg == 0) = false := beq_false_of_ne (by rw [HSG.out]; exact fun e => he (Int.sign_eq_zero_iff_zero.1 e))
   obtain ⟨q, hq⟩ : ∃ k : Int, k = x.tdiv y := ⟨_, rfl⟩
   obtain ⟨r, hr⟩ : ∃ k : Int, k = x.tmod y := ⟨_, rfl⟩
   have HQ := Hd (show y ≠ 0 /\ q = x.tdiv y /\ r = x.tmod y from ⟨he, hq, hr⟩)
   have hlr : lz r <= 30000 := by rw [hr]; exact Nat.le_trans (tmod_lz _ _) (by omega)
   clear he hq hr
   obtain ⟨l_a, a_a, b_a, -, -⟩ := V_a.out.pair.facts
   obtain ⟨l_b, a_b, b_b, -, -⟩ := V_b.out.pair.facts
   go_wp2_with fail
   refine (rdivide x y q r A B c d x2 V_a.out.raw V_b.out.raw (by omega) (by omega) HQ.out.1 HQ.out.2.1 HQ.out.2.2).mono ?_
   rintro e x3 ⟨v1, v2, rfl, hI1, hI2, hb⟩
   obtain ⟨A2, c2, rfl, r2⟩ := hI1.raw
   obtain ⟨A3, c3, rfl, r3⟩ := hI2.raw
   clear l_a a_a b_a l_b a_b b_b
   have V_a := Hd (V_a.out.below hb)
   have V_b := Hd (V_b.out.below hb)
   have P_r0 := Hd (P_r0.out.below hb)
   have HBW := Hd (Zb HBW.out hb)
   have R_q := Hd r2
   have R_r := Hd r3
   clear hb hI1 hI2 r2 r3 hs0
   go_upto_region 6 with fail
   have ha := (((Below.refl x3.heap.size x3).alloc (Nat.le_refl _) (.cells #[.bool (decide (q < 0)), .slice A2 (Za q.natAbs).length c2] 24)).alloc (by simp) (.cells #[.bool (decide (r < 0)), .slice A3 (Za r.natAbs).length c3] 24))
   have p_q := ((Zr.new x3 24 (.bool (decide (q < 0))) (.slice A2 (Za q.natAbs).length c2)).alloc (.cells #[.bool (decide (r < 0)), .slice A3 (Za r.natAbs).length c3] 24))
   have p_r := (Zr.new (x3.alloc (.cells #[.bool (decide (q < 0)), .slice A2 (Za q.natAbs).length c2] 24)) 24 (.bool (decide (r < 0))) (.slice A3 (Za r.natAbs).length c3))
   simp only [World.size_alloc] at p_r
   obtain ⟨y4, E⟩ : ∃ W, W = ((x3.alloc (.cells #[.bool (decide (q < 0)), .slice A2 (Za q.natAbs).length c2] 24)).alloc (.cells #[.bool (decide (r < 0)), .slice A3 (Za r.natAbs).length c3] 24)) := ⟨_, rfl⟩
   rw [<- E] at ha p_q p_r ⊢
   have V_q := Hd (NV.of R_q.out ha p_q)
   have V_r := Hd (NV.of R_r.out ha p_r)
   have V_a := Hd (V_a.out.below ha)
   have V_b := Hd (V_b.out.below ha)
   have P_r0 := Hd (P_r0.out.below ha)
   have HBW := Hd (Zb HBW.out ha)
   obtain ⟨g4, hg⟩ : ∃ g, g = x3.heap.size := ⟨_, rfl⟩
   rw [<- hg] at V_q V_r ⊢
   clear E ha hg p_q p_r
   obtain ⟨l_b, a_b, b_b, -, -⟩ := V_b.out.pair.facts
   go_wp2_with fail
   refine (rbits y ky B d y4 V_b.out.raw (by omega) HKY.out).mono ?_
   rintro e x5 ⟨rfl, hb⟩
   clear l_b a_b b_b
   have V_a := Hd (V_a.out.below hb)
   have V_b := Hd (V_b.out.below hb)
   have V_q := Hd (V_q.out.below hb)
   have V_r := Hd (V_r.out.below hb)
   have P_r0 := Hd (P_r0.out.below hb)
   have HBW := Hd (Zb HBW.out hb)
   clear hb
   have h9 : bz y = Xs (Za y.natAbs) := rfl
   by_cases he : bz y = 1
   . have hb1 : (ky == 1) = true := by rw [HKY.out, <- h9, he]; rfl
     have HG := Hd (show g = 1 from by rw [HGG.out]; exact gcdZ_one (bz_one he))
     clear he h9
     obtain ⟨l_b, a_b, b_b, -, -⟩ := V_b.out.pair.facts
     go_wp2_with fail
     refine (rof 1 g HG.out (by decide) (by decide) x5).mono ?_
     rintro e w9 ⟨v, rfl, hI, hb⟩
     clear l_b a_b b_b
     obtain ⟨A9, c9, rfl, r9⟩ := hI.raw
     have pr := P_r0.out.below hb
     obtain ⟨q1, q2, q3, q4, q5⟩ := pr.facts
     have R9 := Hd (r9.pairT pr (.bool (decide (g < 0))) (.slice A9 (Za g.natAbs).length c9))
     have HB := Hd (ZW (Zb HBW.out hb) (show w.heap.size <= w.heap.size + 1 + 1 by omega) (.bool (decide (g < 0))) (.slice A9 (Za g.natAbs).length c9))
     have HQ9 := Hd (pr.store (.bool (decide (g < 0))) (.slice A9 (Za g.natAbs).length c9))
     clear hI hb pr r9
     go_wp2_with fail
     obtain ⟨_, k0, k1, _, _⟩ := HQ9.out.facts
     exact bodyPost_ret (by simp [results, Tryz.results225, go_sem, k0, k1]) rfl ⟨.agg #[.bool (decide (g < 0)), .slice A9 (Za g.natAbs).length c9], rfl, by rw [<- HGG.out]; exact ⟨_, _, rfl, R9.out⟩, HB.out⟩
   . have hb1 : (ky == 1) = false := beq_false_of_ne (by rw [HKY.out, <- h9]; omega)
     have HG := Hd (show g = ZL y r from by rw [HGG.out, HQ.out.2.2, gcdZ_rest])
     clear he h9
     obtain ⟨l_b, a_b, b_b, -, -⟩ := V_b.out.pair.facts
     obtain ⟨l_r, a_r, b_r, -, -⟩ := V_r.out.pair.facts
     go_wp2_with fail
     refine (rcommon y r g B A3 d c3 x5 V_b.out.raw V_r.out.raw (by omega) (by omega) HG.out).mono ?_
     rintro e w9 ⟨v, rfl, hI, hb⟩
     clear l_b a_b b_b l_r a_r b_r
     obtain ⟨A9, c9, rfl, r9⟩ := hI.form
     have pr := P_r0.out.below hb
     obtain ⟨q1, q2, q3, q4, q5⟩ := pr.facts
     have R9 := Hd (r9.pairT pr (.bool (decide (g < 0))) (.slice A9 (Za g.natAbs).length c9))
     have HB := Hd (ZW (Zb HBW.out hb) (show w.heap.size <= w.heap.size + 1 + 1 by omega) (.bool (decide (g < 0))) (.slice A9 (Za g.natAbs).length c9))
     have HQ9 := Hd (pr.store (.bool (decide (g < 0))) (.slice A9 (Za g.natAbs).length c9))
     clear hI hb pr r9
     go_wp2_with fail
     obtain ⟨_, k0, k1, _, _⟩ := HQ9.out.facts
     exact bodyPost_ret (by simp [results, Tryz.results225, go_sem, k0, k1]) rfl ⟨.agg #[.bool (decide (g < 0)), .slice A9 (Za g.natAbs).length c9], rfl, by rw [<- HGG.out]; exact ⟨_, _, rfl, R9.out⟩, HB.out⟩

theorem common02_swap (x y : Int) (A B : Option Addr) (c d : Nat) (w : World) (h_x : Zm w A c (Za x.natAbs)) (h_y : Zm w B d (Za y.natAbs)) (hx : lz x <= 30000) (hy : lz y <= 30000) (hlt : bz x < bz y) :
   Calls Tryz.prog 225 #[.agg #[.bool (decide (x < 0)), .slice A (Za x.natAbs).length c], .agg #[.bool (decide (y < 0)), .slice B (Za y.natAbs).length d]] w (RetAt w (ZL x y)) := by
 obtain ⟨kx, hkx⟩ : ∃ k : Int, k = ((Xs (Za x.natAbs) : Nat) : Int) := ⟨_, rfl⟩
 obtain ⟨ky, hky⟩ : ∃ k : Int, k = ((Xs (Za y.natAbs) : Nat) : Int) := ⟨_, rfl⟩
 obtain ⟨sg, hsg⟩ : ∃ k : Int, k = x.sign := ⟨_, rfl⟩
 obtain ⟨g, hg⟩ : ∃ k : Int, k = ZL x y := ⟨_, rfl⟩
 have HKX := Hd hkx
 have HKY := Hd hky
 have HSG := Hd hsg
 have HLT := Hd (show decide (kx < ky) = true from decide_eq_true (by rw [hkx, hky]; have h1 : bz x = Xs (Za x.natAbs) := rfl; have h2 : bz y = Xs (Za y.natAbs) := rfl; omega))
 have HGG := Hd hg
 clear hkx hky hsg hg hlt
 have b0 := ((((Below.refl w.heap.size w).alloc (Nat.le_refl _) (.cells #[.bool (decide (x < 0)), .slice A (Za x.natAbs).length c] 24)).alloc (by simp) (.cells #[.bool (decide (y < 0)), .slice B (Za y.natAbs).length d] 24)).alloc (by simp; omega) (.cells #[.bool false, .slice none 0 0] 24))
 have p0 := ((Zr.new w 24 (.bool (decide (x < 0))) (.slice A (Za x.natAbs).length c)).alloc (.cells #[.bool (decide (y < 0)), .slice B (Za y.natAbs).length d] 24)).alloc (.cells #[.bool false, .slice none 0 0] 24)
 have p1 := (Zr.new (w.alloc (.cells #[.bool (decide (x < 0)), .slice A (Za x.natAbs).length c] 24)) 24 (.bool (decide (y < 0))) (.slice B (Za y.natAbs).length d)).alloc (.cells #[.bool false, .slice none 0 0] 24)
 have p2 := Zr.new ((w.alloc (.cells #[.bool (decide (x < 0)), .slice A (Za x.natAbs).length c] 24)).alloc (.cells #[.bool (decide (y < 0)), .slice B (Za y.natAbs).length d] 24)) 24 (.bool false) (.slice none 0 0)
 simp only [World.size_alloc] at p1 p2
 have V_x := Hd (NV.of h_x b0 p0)
 have V_y := Hd (NV.of h_y b0 p1)
 have P_r0 := Hd p2
 have RW_x := Hd h_x
 have RW_y := Hd h_y
 have HBW := Hd b0
 clear b0 p0 p1 p2 h_x h_y
 go_enter Tryz.func225, Tryz.ntmps225
 obtain ⟨W, E⟩ : ∃ W, W = (((w.alloc (.cells #[.bool (decide (x < 0)), .slice A (Za x.natAbs).length c] 24)).alloc (.cells #[.bool (decide (y < 0)), .slice B (Za y.natAbs).length d] 24)).alloc (.cells #[.bool false, .slice none 0 0] 24)) := ⟨_, rfl⟩
 go_upto_region 1 with fail
 rw [<- E] at V_x V_y P_r0 HBW ⊢
 clear E
 have hsz := P_r0.out.blk.lt
 go_wp2_with fail
 obtain ⟨W0, hW⟩ : ∃ W0, W0 = W := ⟨_, rfl⟩
 rw [<- hW] at HBW P_r0 V_x V_y  ⊢
 clear hW
 refine Zd [.val (.agg #[.bool (decide (x < 0)), .slice A (Za x.natAbs).length c]) [], .val (.int .i64 kx) [], .val (.agg #[.bool (decide (y < 0)), .slice B (Za y.natAbs).length d]) [], .val (.int .i64 ky) [], .val (.bool true) []] W0.heap.size W0 [] (fun _ _ => False) _ Zf (Nat.le_refl _) (Below.refl _ _) (Zu.refl _ _ _) rfl ?_ ?_ ?_ ?_ ?_ ?_ ?_ ?_ rfl (by simp [ZP]) ?_ ?_ ?_ ?_
 iterate 8 kernel_rfl
 . simp only [Zy]
 . simp only [Z5]
 . simp (maxSteps := 4000000) [ZH, YD, Zg, ZF, Zn]
   repeat' (first | apply And.intro)
   all_goals
     intro V hV hK
     obtain ⟨-, a_x, b_x, -, -⟩ := (V_x.out.below hV).pair.facts
     have r_x := Hd (V_x.out.below hV).raw
     obtain ⟨-, a_y, b_y, -, -⟩ := (V_y.out.below hV).pair.facts
     have r_y := Hd (V_y.out.below hV).raw
     clear hV hK
     go_simp
     first
     | exact Below.refl _ _
     | exact ⟨by have := HLT.out; simpa using this, Below.refl _ _⟩
     | ((with_reducible refine (rbits x kx A c V r_x.out (by omega) HKX.out).mono ?_); rintro e w' ⟨rfl, hb⟩; exact ⟨rfl, hb⟩)
     | ((with_reducible refine (rbits y ky B d V r_y.out (by omega) HKY.out).mono ?_); rintro e w' ⟨rfl, hb⟩; exact ⟨rfl, hb⟩)
 . simp [YH, ZK, Zg, ZF, Zn]
   intro V hV hK _ _ _
   have V_x := Hd (V_x.out.below hV)
   have V_y := Hd (V_y.out.below hV)
   have P_r0 := Hd (P_r0.out.below hV)
   have HBW := Hd (Zb HBW.out hV)
   clear hV hK
   obtain ⟨v1, hV0⟩ : ∃ Y, Y = V := ⟨_, rfl⟩
   rw [<- hV0] at HBW P_r0 V_x V_y  ⊢
   clear hV0
   obtain ⟨l_x, a_x, b_x, f_x, g_x⟩ := V_x.out.pair.facts
   obtain ⟨l_y, a_y, b_y, f_y, g_y⟩ := V_y.out.pair.facts
   have M_x := (V_x.out.pair.store (.bool (decide (y < 0))) (.slice B (Za y.natAbs).length d)).far (show w.heap.size ≠ w.heap.size + 1 by omega) (.bool (decide (x < 0))) (.slice A (Za x.natAbs).length c)
   have M_y := (V_y.out.pair.far (show w.heap.size + 1 ≠ w.heap.size by omega) (.bool (decide (y < 0))) (.slice B (Za y.natAbs).length d)).store (.bool (decide (x < 0))) (.slice A (Za x.natAbs).length c)
   have HB9 := ZW (ZW HBW.out (show w.heap.size <= w.heap.size by omega) (.bool (decide (y < 0))) (.slice B (Za y.natAbs).length d)) (show w.heap.size <= w.heap.size + 1 by omega) (.bool (decide (x < 0))) (.slice A (Za x.natAbs).length c)
   have M_r := (P_r0.out.far (show w.heap.size + 1 + 1 ≠ w.heap.size by omega) (.bool (decide (y < 0))) (.slice B (Za y.natAbs).length d)).far (show w.heap.size + 1 + 1 ≠ w.heap.size + 1 by omega) (.bool (decide (x < 0))) (.slice A (Za x.natAbs).length c)
   go_upto_region 3 with fail
   obtain ⟨ys, E⟩ : ∃ W, W = (((((v1).setCell ⟨w.heap.size, 0, none⟩ (.bool (decide (y < 0)))).setCell ⟨w.heap.size, 1, none⟩ (.slice B (Za y.natAbs).length d)).setCell ⟨w.heap.size + 1, 0, none⟩ (.bool (decide (x < 0)))).setCell ⟨w.heap.size + 1, 1, none⟩ (.slice A (Za x.natAbs).length c)) := ⟨_, rfl⟩
   rw [<- E] at M_x M_y M_r HB9 ⊢
   clear E l_x a_x b_x f_x g_x l_y a_y b_y f_y g_y
   have HBW := Hd HB9
   have P_r0 := Hd M_r
   have V_a := Hd (show NV ys (w.heap.size) y B d from ⟨M_x, RW_y.out.below HBW.out⟩)
   have V_b := Hd (show NV ys (w.heap.size + 1) x A c from ⟨M_y, RW_x.out.below HBW.out⟩)
   clear M_x M_y M_r HB9 V_x V_y
   obtain ⟨l_b, a_b, b_b, -, -⟩ := V_b.out.pair.facts
   go_wp2_with fail
   refine (rsign x sg A c ys V_b.out.raw HSG.out).mono ?_
   rintro e x2 ⟨rfl, hb⟩
   clear l_b a_b b_b
   have V_a := Hd (V_a.out.below hb)
   have V_b := Hd (V_b.out.below hb)
   have P_r0 := Hd (P_r0.out.below hb)
   have HBW := Hd (Zb HBW.out hb)
   clear hb
   by_cases he : x = 0
   . have hs0 : (sg == 0) = true := by rw [HSG.out, he]; rfl
     have HG := Hd (show g = ZL y x from by rw [HGG.out, gcdZ_comm])
     clear he
     obtain ⟨l_a, a_a, b_a, -, -⟩ := V_a.out.pair.facts
     obtain ⟨l_b, a_b, b_b, -, -⟩ := V_b.out.pair.facts
     go_wp2_with fail
     refine (rcommon y x g B A d c x2 V_a.out.raw V_b.out.raw (by omega) (by omega) HG.out).mono ?_
     rintro e w9 ⟨v, rfl, hI, hb⟩
     clear l_a a_a b_a l_b a_b b_b
     obtain ⟨A9, c9, rfl, r9⟩ := hI.form
     have pr := P_r0.out.below hb
     obtain ⟨q1, q2, q3, q4, q5⟩ := pr.facts
     have R9 := Hd (r9.pairT pr (.bool (decide (g < 0))) (.slice A9 (Za g.natAbs).length c9))
     have HB := Hd (ZW (Zb HBW.out hb) (show w.heap.size <= w.heap.size + 1 + 1 by omega) (.bool (decide (g < 0))) (.slice A9 (Za g.natAbs).length c9))
     have HQ9 := Hd (pr.store (.bool (decide (g < 0))) (.slice A9 (Za g.natAbs).length c9))
     clear hI hb pr r9
     go_wp2_with fail
     obtain ⟨_, k0, k1, _, _⟩ := HQ9.out.facts
     exact bodyPost_ret (by simp [results, Tryz.results225, go_sem, k0, k1]) rfl ⟨.agg #[.bool (decide (g < 0)), .slice A9 (Za g.natAbs).length c9], rfl, by rw [<- HGG.out]; exact ⟨_, _, rfl, R9.out⟩, HB.out⟩
   have hs0 : (sg == 0) = false := beq_false_of_ne (by rw [HSG.out]; exact fun e => he (Int.sign_eq_zero_iff_zero.1 e))
   obtain ⟨q, hq⟩ : ∃ k : Int, k = y.tdiv x := ⟨_, rfl⟩
   obtain ⟨r, hr⟩ : ∃ k : Int, k = y.tmod x := ⟨_, rfl⟩
   have HQ := Hd (show x ≠ 0 /\ q = y.tdiv x /\ r = y.tmod x from ⟨he, hq, hr⟩)
   have hlr : lz r <= 30000 := by rw [hr]; exact Nat.le_trans (tmod_lz _ _) (by omega)
   clear he hq hr
   obtain ⟨l_a, a_a, b_a, -, -⟩ := V_a.out.pair.facts
   obtain ⟨l_b, a_b, b_b, -, -⟩ := V_b.out.pair.facts
   go_wp2_with fail
   refine (rdivide y x q r B A d c x2 V_a.out.raw V_b.out.raw (by omega) (by omega) HQ.out.1 HQ.out.2.1 HQ.out.2.2).mono ?_
   rintro e x3 ⟨v1, v2, rfl, hI1, hI2, hb⟩
   obtain ⟨A2, c2, rfl, r2⟩ := hI1.raw
   obtain ⟨A3, c3, rfl, r3⟩ := hI2.raw
   clear l_a a_a b_a l_b a_b b_b
   have V_a := Hd (V_a.out.below hb)
   have V_b := Hd (V_b.out.below hb)
   have P_r0 := Hd (P_r0.out.below hb)
   have HBW := Hd (Zb HBW.out hb)
   have R_q := Hd r2
   have R_r := Hd r3
   clear hb hI1 hI2 r2 r3 hs0
   go_upto_region 6 with fail
   have ha := (((Below.refl x3.heap.size x3).alloc (Nat.le_refl _) (.cells #[.bool (decide (q < 0)), .slice A2 (Za q.natAbs).length c2] 24)).alloc (by simp) (.cells #[.bool (decide (r < 0)), .slice A3 (Za r.natAbs).length c3] 24))
   have p_q := ((Zr.new x3 24 (.bool (decide (q < 0))) (.slice A2 (Za q.natAbs).length c2)).alloc (.cells #[.bool (decide (r < 0)), .slice A3 (Za r.natAbs).length c3] 24))
   have p_r := (Zr.new (x3.alloc (.cells #[.bool (decide (q < 0)), .slice A2 (Za q.natAbs).length c2] 24)) 24 (.bool (decide (r < 0))) (.slice A3 (Za r.natAbs).length c3))
   simp only [World.size_alloc] at p_r
   obtain ⟨y4, E⟩ : ∃ W, W = ((x3.alloc (.cells #[.bool (decide (q < 0)), .slice A2 (Za q.natAbs).length c2] 24)).alloc (.cells #[.bool (decide (r < 0)), .slice A3 (Za r.natAbs).length c3] 24)) := ⟨_, rfl⟩
   rw [<- E] at ha p_q p_r ⊢
   have V_q := Hd (NV.of R_q.out ha p_q)
   have V_r := Hd (NV.of R_r.out ha p_r)
   have V_a := Hd (V_a.out.below ha)
   have V_b := Hd (V_b.out.below ha)
   have P_r0 := Hd (P_r0.out.below ha)
   have HBW := Hd (Zb HBW.out ha)
   obtain ⟨g4, hg⟩ : ∃ g, g = x3.heap.size := ⟨_, rfl⟩
   rw [<- hg] at V_q V_r ⊢
   clear E ha hg p_q p_r
   obtain ⟨l_b, a_b, b_b, -, -⟩ := V_b.out.pair.facts
   go_wp2_with fail
   refine (rbits x kx A c y4 V_b.out.raw (by omega) HKX.out).mono ?_
   rintro e x5 ⟨rfl, hb⟩
   clear l_b a_b b_b
   have V_a := Hd (V_a.out.below hb)
   have V_b := Hd (V_b.out.below hb)
   have V_q := Hd (V_q.out.below hb)
   have V_r := Hd (V_r.out.below hb)
   have P_r0 := Hd (P_r0.out.below hb)
   have HBW := Hd (Zb HBW.out hb)
   clear hb
   have h9 : bz x = Xs (Za x.natAbs) := rfl
   by_cases he : bz x = 1
   . have hb1 : (kx == 1) = true := by rw [HKX.out, <- h9, he]; rfl
     have HG := Hd (show g = 1 from by rw [HGG.out, gcdZ_comm]; exact gcdZ_one (bz_one he))
     clear he h9
     obtain ⟨l_b, a_b, b_b, -, -⟩ := V_b.out.pair.facts
     go_wp2_with fail
     refine (rof 1 g HG.out (by decide) (by decide) x5).mono ?_
     rintro e w9 ⟨v, rfl, hI, hb⟩
     clear l_b a_b b_b
     obtain ⟨A9, c9, rfl, r9⟩ := hI.raw
     have pr := P_r0.out.below hb
     obtain ⟨q1, q2, q3, q4, q5⟩ := pr.facts
     have R9 := Hd (r9.pairT pr (.bool (decide (g < 0))) (.slice A9 (Za g.natAbs).length c9))
     have HB := Hd (ZW (Zb HBW.out hb) (show w.heap.size <= w.heap.size + 1 + 1 by omega) (.bool (decide (g < 0))) (.slice A9 (Za g.natAbs).length c9))
     have HQ9 := Hd (pr.store (.bool (decide (g < 0))) (.slice A9 (Za g.natAbs).length c9))
     clear hI hb pr r9
     go_wp2_with fail
     obtain ⟨_, k0, k1, _, _⟩ := HQ9.out.facts
     exact bodyPost_ret (by simp [results, Tryz.results225, go_sem, k0, k1]) rfl ⟨.agg #[.bool (decide (g < 0)), .slice A9 (Za g.natAbs).length c9], rfl, by rw [<- HGG.out]; exact ⟨_, _, rfl, R9.out⟩, HB.out⟩
   . have hb1 : (kx == 1) = false := beq_false_of_ne (by rw [HKX.out, <- h9]; omega)
     have HG := Hd (show g = ZL x r from by rw [HGG.out, HQ.out.2.2, gcdZ_rest, gcdZ_comm])
     clear he h9
     obtain ⟨l_b, a_b, b_b, -, -⟩ := V_b.out.pair.facts
     obtain ⟨l_r, a_r, b_r, -, -⟩ := V_r.out.pair.facts
     go_wp2_with fail
     refine (rcommon x r g A A3 c c3 x5 V_b.out.raw V_r.out.raw (by omega) (by omega) HG.out).mono ?_
     rintro e w9 ⟨v, rfl, hI, hb⟩
     clear l_b a_b b_b l_r a_r b_r
     obtain ⟨A9, c9, rfl, r9⟩ := hI.form
     have pr := P_r0.out.below hb
     obtain ⟨q1, q2, q3, q4, q5⟩ := pr.facts
     have R9 := Hd (r9.pairT pr (.bool (decide (g < 0))) (.slice A9 (Za g.natAbs).length c9))
     have HB := Hd (ZW (Zb HBW.out hb) (show w.heap.size <= w.heap.size + 1 + 1 by omega) (.bool (decide (g < 0))) (.slice A9 (Za g.natAbs).length c9))
     have HQ9 := Hd (pr.store (.bool (decide (g < 0))) (.slice A9 (Za g.natAbs).length c9))
     clear hI hb pr r9
     go_wp2_with fail
     obtain ⟨_, k0, k1, _, _⟩ := HQ9.out.facts
     exact bodyPost_ret (by simp [results, Tryz.results225, go_sem, k0, k1]) rfl ⟨.agg #[.bool (decide (g < 0)), .slice A9 (Za g.natAbs).length c9], rfl, by rw [<- HGG.out]; exact ⟨_, _, rfl, R9.out⟩, HB.out⟩

theorem common02 (x y : Int) (A B : Option Addr) (c d : Nat) (w : World) (h : Zm w A c (Za x.natAbs)) (g : Zm w B d (Za y.natAbs)) (hx : lz x <= 30000) (hy : lz y <= 30000) :
   Calls Tryz.prog 225 #[.agg #[.bool (decide (x < 0)), .slice A (Za x.natAbs).length c], .agg #[.bool (decide (y < 0)), .slice B (Za y.natAbs).length d]] w (RetAt w (ZL x y)) := by
 by_cases hlt : bz x < bz y
 . exact common02_swap x y A B c d w h g hx hy hlt
 . exact common02_stay x y A B c d w h g hx hy hlt


theorem YN : (Tryz.prog.info? 26).map (·.size) = some 4 := by kernel_rfl
structure ZE (w : World) (base : Nat) (v : Value) (n d : Int) : Prop where
 form : ∃ A c B e, v = .agg #[.bool (decide (n < 0)), .slice A (Za n.natAbs).length c, .bool (decide (d < 0)), .slice B (Za d.natAbs).length e] /\ Zc w base (.agg #[.bool (decide (n < 0)), .slice A (Za n.natAbs).length c]) n /\ Zc w base (.agg #[.bool (decide (d < 0)), .slice B (Za d.natAbs).length e]) d
theorem ZE.kept {B : Nat} {Ts : List TypeId} {w w' : World} {base : Nat} {v : Value} {n d : Int} (h : ZE w base v n d) (k : Zu B Ts w w') (hT : 109 ∉ Ts) : ZE w' base v n d := by
 obtain ⟨A, c, B, e, h1, h2, h3⟩ := h.form
 exact ⟨A, c, B, e, h1, h2.kept k hT, h3.kept k hT⟩
theorem ZE.at_ {w : World} {base : Nat} {v : Value} {n d : Int} (h : ZE w base v n d) : Yq w v n d := by
 obtain ⟨A, c, B, e, h1, h2, h3⟩ := h.form
 exact ⟨A, c, B, e, h1, h2.rawAt, h3.rawAt⟩
theorem ZE.cells {w : World} {base : Nat} {v : Value} {n d : Int} (h : ZE w base v n d) : JT v 4 := by
 obtain ⟨A, c, B, e, rfl, -⟩ := h.form
 exact ⟨rfl, by simp [Value.cells, Value.oneCell']⟩

end Go.Proofs.YtdonecnhdkjniaaGreatDoor
