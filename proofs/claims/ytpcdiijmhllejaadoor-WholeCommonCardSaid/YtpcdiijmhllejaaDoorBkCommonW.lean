/- Several texts in one: CommonW. -/
import Derived.Test.YtpcdiijmhllejaaDoorBk31
/- WholeCommon: the walk. (Written by wip/whole/gencommon.py.) -/
namespace Go.Proofs.YtpcdiijmhllejaaDoor
open Go.RowKit

theorem gcd_fit {x y : Int} (hx : Fit x) (hy : Fit y) : Fit ((Nat.gcd x.natAbs y.natAbs : Nat) : Int) := by
  rcases Nat.eq_zero_or_pos x.natAbs with h0 | h0
  · rw [h0, Nat.gcd_zero_left]
    exact hy.mono (by simp)
  · exact hx.mono (by
      rw [Int.natAbs_natCast]
      exact Nat.gcd_le_left _ h0)
theorem gcd_parts {x y : Int} {g : Nat} (hg : g = Nat.gcd x.natAbs y.natAbs) (h0 : g ≠ 0) : x.tmod (g : Int) = 0 ∧ y.tmod (g : Int) = 0 ∧ Nat.gcd (x.tdiv (g : Int)).natAbs (y.tdiv (g : Int)).natAbs = 1 := by
  have h1 : (g : Int) ∣ x := Int.natAbs_dvd_natAbs.1 (by rw [Int.natAbs_natCast, hg]; exact Nat.gcd_dvd_left _ _)
  have h2 : (g : Int) ∣ y := Int.natAbs_dvd_natAbs.1 (by rw [Int.natAbs_natCast, hg]; exact Nat.gcd_dvd_right _ _)
  refine ⟨Int.tmod_eq_zero_of_dvd h1, Int.tmod_eq_zero_of_dvd h2, ?_⟩
  rw [Int.natAbs_tdiv, Int.natAbs_tdiv, Int.natAbs_natCast, hg]
  show Nat.gcd (x.natAbs / Nat.gcd x.natAbs y.natAbs) (y.natAbs / Nat.gcd x.natAbs y.natAbs) = 1
  rw [Nat.gcd_div (Nat.gcd_dvd_left _ _) (Nat.gcd_dvd_right _ _), Nat.div_self (by rw [← hg]; omega)]
theorem gcd_rest {x y : Int} : Nat.gcd y.natAbs (x.tmod y).natAbs = Nat.gcd x.natAbs y.natAbs := by
  rw [Int.natAbs_tmod, Nat.gcd_comm y.natAbs, Nat.gcd_rec y.natAbs x.natAbs |>.symm, Nat.gcd_comm]

set_option maxRecDepth 100000 in
set_option maxHeartbeats 8000000 in
theorem common_none (x y : Int) (A B : Option Addr) (c d : Nat) (hx : Fit x) (hy : Fit y) (hx0 : x = 0) (hy0 : y = 0) (w : World) (h : Raw w A c (natL x.natAbs)) (g : Raw w B d (natL y.natAbs)) (htab : powTab w) :
    Calls Tryd.prog 3 #[.agg #[.bool (decide (x < 0)), .slice A (natL x.natAbs).length c], .agg #[.bool (decide (y < 0)), .slice B (natL y.natAbs).length d]] w fun e w' => e = .returned (.bool true) ∧ Below w.heap.size w w' := by
  obtain ⟨g0, hg0⟩ : ∃ g0 : Nat, g0 = Nat.gcd x.natAbs y.natAbs := ⟨_, rfl⟩
  obtain ⟨p, hg⟩ : ∃ p : Int, p = (g0 : Int) := ⟨_, rfl⟩
  have HG := Lib.hid (show p = ((Nat.gcd x.natAbs y.natAbs : Nat) : Int) from by rw [hg, hg0])
  have HT2 := Lib.hid (show p = ((Nat.gcd y.natAbs x.natAbs : Nat) : Int) from by rw [hg, hg0, Nat.gcd_comm])
  have F_p := Lib.hid (show Fit p from by rw [hg, hg0]; exact gcd_fit hx hy)
  have HNEG := Lib.hid (show decide (p < 0) = false from decide_eq_false (by omega))
  have HZ := Lib.hid (show p = 0 ∧ x = 0 ∧ y = 0 from ⟨by rw [hg, hg0, hx0, hy0]; rfl, hx0, hy0⟩)
  clear hx0 hy0 hg0 hg
  have p0 := (Pair.new w 24 (.bool (decide (x < 0))) (.slice A (natL x.natAbs).length c)).alloc (.cells #[.bool (decide (y < 0)), .slice B (natL y.natAbs).length d] 24)
  have p1 := Pair.new (w.alloc (.cells #[.bool (decide (x < 0)), .slice A (natL x.natAbs).length c] 24)) 24 (.bool (decide (y < 0))) (.slice B (natL y.natAbs).length d)
  have b0 := (((Below.refl w.heap.size w).alloc (Nat.le_refl _) (.cells #[.bool (decide (x < 0)), .slice A (natL x.natAbs).length c] 24)).alloc (by simp) (.cells #[.bool (decide (y < 0)), .slice B (natL y.natAbs).length d] 24))
  simp only [World.size_alloc] at p1
  have V_x := Lib.hid (NV.of h b0 p0)
  have V_y := Lib.hid (NV.of g b0 p1)
  have F_x := Lib.hid hx
  have F_y := Lib.hid hy
  have HT := Lib.hid (htab.below b0)
  have HBW := Lib.hid b0
  clear h g htab p0 p1 b0 hx hy
  go_enter Tryd.func3, Tryd.ntmps3
  obtain ⟨W, E⟩ : ∃ W, W = ((w.alloc (.cells #[.bool (decide (x < 0)), .slice A (natL x.natAbs).length c] 24)).alloc (.cells #[.bool (decide (y < 0)), .slice B (natL y.natAbs).length d] 24)) := ⟨_, rfl⟩
  go_upto_region 1 with fail
  rw [← E] at V_x V_y HT HBW ⊢
  clear E
  go_wp2_with fail
  refine (alive_true W HT.out).mono ?_
  rintro e x1 ⟨rfl, hb⟩
  have V_x := Lib.hid (V_x.out.below hb)
  have V_y := Lib.hid (V_y.out.below hb)
  have HT := Lib.hid (HT.out.below hb)
  have HBW := Lib.hid (belowTo HBW.out hb)
  clear hb
  obtain ⟨l_x, a_x, b_x, -, -⟩ := V_x.out.pair.facts
  obtain ⟨l_y, a_y, b_y, -, -⟩ := V_y.out.pair.facts
  go_wp2_with fail
  refine (may2 x y A B c d x1 V_x.out.raw V_y.out.raw F_x.out F_y.out 24).mono ?_
  rintro e x2 ⟨rfl, hb⟩
  clear l_x a_x b_x l_y a_y b_y
  have V_x := Lib.hid (V_x.out.below hb)
  have V_y := Lib.hid (V_y.out.below hb)
  have HT := Lib.hid (HT.out.below hb)
  have HBW := Lib.hid (belowTo HBW.out hb)
  clear hb
  obtain ⟨l_x, a_x, b_x, -, -⟩ := V_x.out.pair.facts
  obtain ⟨l_y, a_y, b_y, -, -⟩ := V_y.out.pair.facts
  go_wp2_with fail
  refine (gcd_z x y p A B c d F_x.out F_y.out x2 V_x.out.raw V_y.out.raw HG.out).mono ?_
  rintro e x3 ⟨A1, c1, rfl, r1, hb⟩
  clear l_x a_x b_x l_y a_y b_y
  have V_x := Lib.hid (V_x.out.below hb)
  have V_y := Lib.hid (V_y.out.below hb)
  have HT := Lib.hid (HT.out.below hb)
  have HBW := Lib.hid (belowTo HBW.out hb)
  have R_p := Lib.hid r1
  clear hb r1
  go_upto_region 4 with fail
  have ha := ((Below.refl x3.heap.size x3).alloc (Nat.le_refl _) (.cells #[.bool (decide (p < 0)), .slice A1 (natL p.natAbs).length c1] 24))
  have p_p := (Pair.new x3 24 (.bool (decide (p < 0))) (.slice A1 (natL p.natAbs).length c1))
  obtain ⟨y4, E⟩ : ∃ W, W = (x3.alloc (.cells #[.bool (decide (p < 0)), .slice A1 (natL p.natAbs).length c1] 24)) := ⟨_, rfl⟩
  rw [← E] at ha p_p ⊢
  have V_p := Lib.hid (NV.of R_p.out ha p_p)
  have V_x := Lib.hid (V_x.out.below ha)
  have V_y := Lib.hid (V_y.out.below ha)
  have HT := Lib.hid (HT.out.below ha)
  have HBW := Lib.hid (belowTo HBW.out ha)
  obtain ⟨g4, hg⟩ : ∃ g, g = x3.heap.size := ⟨_, rfl⟩
  rw [← hg] at V_p ⊢
  clear E ha hg p_p
  obtain ⟨l_p, a_p, b_p, -, -⟩ := V_p.out.pair.facts
  go_wp2_with fail
  refine (may1 p A1 c1 y4 V_p.out.raw 24 true (by simp [F_p.out])).mono ?_
  rintro e x5 ⟨rfl, hb⟩
  clear l_p a_p b_p
  have V_x := Lib.hid (V_x.out.below hb)
  have V_y := Lib.hid (V_y.out.below hb)
  have V_p := Lib.hid (V_p.out.below hb)
  have HT := Lib.hid (HT.out.below hb)
  have HBW := Lib.hid (belowTo HBW.out hb)
  clear hb
  have hng := HNEG.out
  have h1 := nought_len HZ.out.1
  have h2 := nought_len HZ.out.2.1
  have h3 := nought_len HZ.out.2.2
  obtain ⟨l_x, a_x, b_x, -, -⟩ := V_x.out.pair.facts
  obtain ⟨l_y, a_y, b_y, -, -⟩ := V_y.out.pair.facts
  obtain ⟨l_p, a_p, b_p, -, -⟩ := V_p.out.pair.facts
  go_wp2_with fail
  go_ret
  exact ⟨rfl, HBW.out⟩

set_option maxRecDepth 100000 in
set_option maxHeartbeats 8000000 in
theorem common_left (x y : Int) (A B : Option Addr) (c d : Nat) (hx : Fit x) (hy : Fit y) (hx0 : x ≠ 0) (hy0 : y = 0) (w : World) (h : Raw w A c (natL x.natAbs)) (g : Raw w B d (natL y.natAbs)) (htab : powTab w) :
    Calls Tryd.prog 3 #[.agg #[.bool (decide (x < 0)), .slice A (natL x.natAbs).length c], .agg #[.bool (decide (y < 0)), .slice B (natL y.natAbs).length d]] w fun e w' => e = .returned (.bool true) ∧ Below w.heap.size w w' := by
  obtain ⟨g0, hg0⟩ : ∃ g0 : Nat, g0 = Nat.gcd x.natAbs y.natAbs := ⟨_, rfl⟩
  obtain ⟨p, hg⟩ : ∃ p : Int, p = (g0 : Int) := ⟨_, rfl⟩
  have HG := Lib.hid (show p = ((Nat.gcd x.natAbs y.natAbs : Nat) : Int) from by rw [hg, hg0])
  have HT2 := Lib.hid (show p = ((Nat.gcd y.natAbs x.natAbs : Nat) : Int) from by rw [hg, hg0, Nat.gcd_comm])
  have F_p := Lib.hid (show Fit p from by rw [hg, hg0]; exact gcd_fit hx hy)
  have HNEG := Lib.hid (show decide (p < 0) = false from decide_eq_false (by omega))
  have hgn : g0 ≠ 0 := fun e => by
    rw [hg0] at e
    have h1 := Nat.eq_zero_of_gcd_eq_zero_left e
    have h2 := Nat.eq_zero_of_gcd_eq_zero_right e
    omega
  obtain ⟨e1, e2, e3⟩ := gcd_parts hg0 hgn
  rw [← hg] at e1 e2 e3
  obtain ⟨a, ha⟩ : ∃ a : Int, a = x.tdiv p := ⟨_, rfl⟩
  obtain ⟨r, hr⟩ : ∃ a : Int, a = x.tmod p := ⟨_, rfl⟩
  obtain ⟨b, hb⟩ : ∃ a : Int, a = y.tdiv p := ⟨_, rfl⟩
  obtain ⟨t, ht⟩ : ∃ a : Int, a = y.tmod p := ⟨_, rfl⟩
  obtain ⟨u, hu⟩ : ∃ a : Int, a = 1 := ⟨_, rfl⟩
  have HNZ := Lib.hid (show p ≠ 0 from by omega)
  have HA := Lib.hid (And.intro ha hr)
  have HB := Lib.hid (And.intro hb ht)
  have HU := Lib.hid (show u = ((Nat.gcd a.natAbs b.natAbs : Nat) : Int) from by rw [hu, ha, hb, e3]; rfl)
  have HU1 := Lib.hid hu
  have HR0 := Lib.hid (show r = 0 ∧ t = 0 from ⟨by rw [hr, e1], by rw [ht, e2]⟩)
  have F_a := Lib.hid (show Fit a from by rw [ha]; exact tdiv_fit hx)
  have F_b := Lib.hid (show Fit b from by rw [hb]; exact tdiv_fit hy)
  have F_u := Lib.hid (show Fit u from Fit.small (by rw [hu]; decide))
  have HUU := Lib.hid (show (0 : Int) = cmpz u u from by unfold cmpz; simp)
  have HXY := Lib.hid (show x ≠ 0 ∨ y ≠ 0 from by omega)
  have HY := Lib.hid hy0
  clear hx0 hy0
  clear hgn e1 e2 e3 ha hr hb ht hu hg0 hg
  have p0 := (Pair.new w 24 (.bool (decide (x < 0))) (.slice A (natL x.natAbs).length c)).alloc (.cells #[.bool (decide (y < 0)), .slice B (natL y.natAbs).length d] 24)
  have p1 := Pair.new (w.alloc (.cells #[.bool (decide (x < 0)), .slice A (natL x.natAbs).length c] 24)) 24 (.bool (decide (y < 0))) (.slice B (natL y.natAbs).length d)
  have b0 := (((Below.refl w.heap.size w).alloc (Nat.le_refl _) (.cells #[.bool (decide (x < 0)), .slice A (natL x.natAbs).length c] 24)).alloc (by simp) (.cells #[.bool (decide (y < 0)), .slice B (natL y.natAbs).length d] 24))
  simp only [World.size_alloc] at p1
  have V_x := Lib.hid (NV.of h b0 p0)
  have V_y := Lib.hid (NV.of g b0 p1)
  have F_x := Lib.hid hx
  have F_y := Lib.hid hy
  have HT := Lib.hid (htab.below b0)
  have HBW := Lib.hid b0
  clear h g htab p0 p1 b0 hx hy
  go_enter Tryd.func3, Tryd.ntmps3
  obtain ⟨W, E⟩ : ∃ W, W = ((w.alloc (.cells #[.bool (decide (x < 0)), .slice A (natL x.natAbs).length c] 24)).alloc (.cells #[.bool (decide (y < 0)), .slice B (natL y.natAbs).length d] 24)) := ⟨_, rfl⟩
  go_upto_region 1 with fail
  rw [← E] at V_x V_y HT HBW ⊢
  clear E
  go_wp2_with fail
  refine (alive_true W HT.out).mono ?_
  rintro e x1 ⟨rfl, hb⟩
  have V_x := Lib.hid (V_x.out.below hb)
  have V_y := Lib.hid (V_y.out.below hb)
  have HT := Lib.hid (HT.out.below hb)
  have HBW := Lib.hid (belowTo HBW.out hb)
  clear hb
  obtain ⟨l_x, a_x, b_x, -, -⟩ := V_x.out.pair.facts
  obtain ⟨l_y, a_y, b_y, -, -⟩ := V_y.out.pair.facts
  go_wp2_with fail
  refine (may2 x y A B c d x1 V_x.out.raw V_y.out.raw F_x.out F_y.out 24).mono ?_
  rintro e x2 ⟨rfl, hb⟩
  clear l_x a_x b_x l_y a_y b_y
  have V_x := Lib.hid (V_x.out.below hb)
  have V_y := Lib.hid (V_y.out.below hb)
  have HT := Lib.hid (HT.out.below hb)
  have HBW := Lib.hid (belowTo HBW.out hb)
  clear hb
  obtain ⟨l_x, a_x, b_x, -, -⟩ := V_x.out.pair.facts
  obtain ⟨l_y, a_y, b_y, -, -⟩ := V_y.out.pair.facts
  go_wp2_with fail
  refine (gcd_z x y p A B c d F_x.out F_y.out x2 V_x.out.raw V_y.out.raw HG.out).mono ?_
  rintro e x3 ⟨A1, c1, rfl, r1, hb⟩
  clear l_x a_x b_x l_y a_y b_y
  have V_x := Lib.hid (V_x.out.below hb)
  have V_y := Lib.hid (V_y.out.below hb)
  have HT := Lib.hid (HT.out.below hb)
  have HBW := Lib.hid (belowTo HBW.out hb)
  have R_p := Lib.hid r1
  clear hb r1
  go_upto_region 4 with fail
  have ha := ((Below.refl x3.heap.size x3).alloc (Nat.le_refl _) (.cells #[.bool (decide (p < 0)), .slice A1 (natL p.natAbs).length c1] 24))
  have p_p := (Pair.new x3 24 (.bool (decide (p < 0))) (.slice A1 (natL p.natAbs).length c1))
  obtain ⟨y4, E⟩ : ∃ W, W = (x3.alloc (.cells #[.bool (decide (p < 0)), .slice A1 (natL p.natAbs).length c1] 24)) := ⟨_, rfl⟩
  rw [← E] at ha p_p ⊢
  have V_p := Lib.hid (NV.of R_p.out ha p_p)
  have V_x := Lib.hid (V_x.out.below ha)
  have V_y := Lib.hid (V_y.out.below ha)
  have HT := Lib.hid (HT.out.below ha)
  have HBW := Lib.hid (belowTo HBW.out ha)
  obtain ⟨g4, hg⟩ : ∃ g, g = x3.heap.size := ⟨_, rfl⟩
  rw [← hg] at V_p ⊢
  clear E ha hg p_p
  obtain ⟨l_p, a_p, b_p, -, -⟩ := V_p.out.pair.facts
  go_wp2_with fail
  refine (may1 p A1 c1 y4 V_p.out.raw 24 true (by simp [F_p.out])).mono ?_
  rintro e x5 ⟨rfl, hb⟩
  clear l_p a_p b_p
  have V_x := Lib.hid (V_x.out.below hb)
  have V_y := Lib.hid (V_y.out.below hb)
  have V_p := Lib.hid (V_p.out.below hb)
  have HT := Lib.hid (HT.out.below hb)
  have HBW := Lib.hid (belowTo HBW.out hb)
  clear hb
  have hng := HNEG.out
  have h1 := more_len HNZ.out
  obtain ⟨h2, h3⟩ := sum_len F_x.out F_y.out HXY.out
  obtain ⟨l_x, a_x, b_x, -, -⟩ := V_x.out.pair.facts
  obtain ⟨l_y, a_y, b_y, -, -⟩ := V_y.out.pair.facts
  obtain ⟨l_p, a_p, b_p, -, -⟩ := V_p.out.pair.facts
  go_upto_region 8 with fail
  clear l_x a_x b_x l_y a_y b_y l_p a_p b_p
  clear h1 h2 h3 hng
  obtain ⟨l_x, a_x, b_x, -, -⟩ := V_x.out.pair.facts
  obtain ⟨l_p, a_p, b_p, -, -⟩ := V_p.out.pair.facts
  go_wp2_with fail
  refine (quorem_z x p A A1 c c1 F_x.out F_p.out x5 V_x.out.raw V_p.out.raw a r HNZ.out HA.out.1 HA.out.2).mono ?_
  rintro e x6 ⟨A2, c2, A3, c3, rfl, r2, r3, hb⟩
  clear l_x a_x b_x l_p a_p b_p
  have V_x := Lib.hid (V_x.out.below hb)
  have V_y := Lib.hid (V_y.out.below hb)
  have V_p := Lib.hid (V_p.out.below hb)
  have HT := Lib.hid (HT.out.below hb)
  have HBW := Lib.hid (belowTo HBW.out hb)
  have R_a := Lib.hid r2
  have R_r := Lib.hid r3
  clear hb r2 r3
  go_upto_region 9 with fail
  have ha := (((Below.refl x6.heap.size x6).alloc (Nat.le_refl _) (.cells #[.bool (decide (a < 0)), .slice A2 (natL a.natAbs).length c2] 24)).alloc (by simp) (.cells #[.bool (decide (r < 0)), .slice A3 (natL r.natAbs).length c3] 24))
  have p_a := ((Pair.new x6 24 (.bool (decide (a < 0))) (.slice A2 (natL a.natAbs).length c2)).alloc (.cells #[.bool (decide (r < 0)), .slice A3 (natL r.natAbs).length c3] 24))
  have p_r := (Pair.new (x6.alloc (.cells #[.bool (decide (a < 0)), .slice A2 (natL a.natAbs).length c2] 24)) 24 (.bool (decide (r < 0))) (.slice A3 (natL r.natAbs).length c3))
  simp only [World.size_alloc] at p_r
  obtain ⟨y7, E⟩ : ∃ W, W = ((x6.alloc (.cells #[.bool (decide (a < 0)), .slice A2 (natL a.natAbs).length c2] 24)).alloc (.cells #[.bool (decide (r < 0)), .slice A3 (natL r.natAbs).length c3] 24)) := ⟨_, rfl⟩
  rw [← E] at ha p_a p_r ⊢
  have V_a := Lib.hid (NV.of R_a.out ha p_a)
  have V_r := Lib.hid (NV.of R_r.out ha p_r)
  have V_x := Lib.hid (V_x.out.below ha)
  have V_y := Lib.hid (V_y.out.below ha)
  have V_p := Lib.hid (V_p.out.below ha)
  have HT := Lib.hid (HT.out.below ha)
  have HBW := Lib.hid (belowTo HBW.out ha)
  obtain ⟨g7, hg⟩ : ∃ g, g = x6.heap.size := ⟨_, rfl⟩
  rw [← hg] at V_a V_r ⊢
  clear E ha hg p_a p_r
  obtain ⟨l_y, a_y, b_y, -, -⟩ := V_y.out.pair.facts
  obtain ⟨l_p, a_p, b_p, -, -⟩ := V_p.out.pair.facts
  go_wp2_with fail
  refine (quorem_z y p B A1 d c1 F_y.out F_p.out y7 V_y.out.raw V_p.out.raw b t HNZ.out HB.out.1 HB.out.2).mono ?_
  rintro e x8 ⟨A4, c4, A5, c5, rfl, r4, r5, hb⟩
  clear l_y a_y b_y l_p a_p b_p
  have V_x := Lib.hid (V_x.out.below hb)
  have V_y := Lib.hid (V_y.out.below hb)
  have V_p := Lib.hid (V_p.out.below hb)
  have V_a := Lib.hid (V_a.out.below hb)
  have V_r := Lib.hid (V_r.out.below hb)
  have HT := Lib.hid (HT.out.below hb)
  have HBW := Lib.hid (belowTo HBW.out hb)
  have R_b := Lib.hid r4
  have R_t := Lib.hid r5
  clear hb r4 r5
  go_upto_region 10 with fail
  have ha := (((Below.refl x8.heap.size x8).alloc (Nat.le_refl _) (.cells #[.bool (decide (b < 0)), .slice A4 (natL b.natAbs).length c4] 24)).alloc (by simp) (.cells #[.bool (decide (t < 0)), .slice A5 (natL t.natAbs).length c5] 24))
  have p_b := ((Pair.new x8 24 (.bool (decide (b < 0))) (.slice A4 (natL b.natAbs).length c4)).alloc (.cells #[.bool (decide (t < 0)), .slice A5 (natL t.natAbs).length c5] 24))
  have p_t := (Pair.new (x8.alloc (.cells #[.bool (decide (b < 0)), .slice A4 (natL b.natAbs).length c4] 24)) 24 (.bool (decide (t < 0))) (.slice A5 (natL t.natAbs).length c5))
  simp only [World.size_alloc] at p_t
  obtain ⟨y9, E⟩ : ∃ W, W = ((x8.alloc (.cells #[.bool (decide (b < 0)), .slice A4 (natL b.natAbs).length c4] 24)).alloc (.cells #[.bool (decide (t < 0)), .slice A5 (natL t.natAbs).length c5] 24)) := ⟨_, rfl⟩
  rw [← E] at ha p_b p_t ⊢
  have V_b := Lib.hid (NV.of R_b.out ha p_b)
  have V_t := Lib.hid (NV.of R_t.out ha p_t)
  have V_x := Lib.hid (V_x.out.below ha)
  have V_y := Lib.hid (V_y.out.below ha)
  have V_p := Lib.hid (V_p.out.below ha)
  have V_a := Lib.hid (V_a.out.below ha)
  have V_r := Lib.hid (V_r.out.below ha)
  have HT := Lib.hid (HT.out.below ha)
  have HBW := Lib.hid (belowTo HBW.out ha)
  obtain ⟨g9, hg⟩ : ∃ g, g = x8.heap.size := ⟨_, rfl⟩
  rw [← hg] at V_b V_t ⊢
  clear E ha hg p_b p_t
  obtain ⟨l_a, a_a, b_a, -, -⟩ := V_a.out.pair.facts
  obtain ⟨l_b, a_b, b_b, -, -⟩ := V_b.out.pair.facts
  go_wp2_with fail
  refine (gcd_z a b u A2 A4 c2 c4 F_a.out F_b.out y9 V_a.out.raw V_b.out.raw HU.out).mono ?_
  rintro e x10 ⟨A6, c6, rfl, r6, hb⟩
  clear l_a a_a b_a l_b a_b b_b
  have V_x := Lib.hid (V_x.out.below hb)
  have V_y := Lib.hid (V_y.out.below hb)
  have V_p := Lib.hid (V_p.out.below hb)
  have V_a := Lib.hid (V_a.out.below hb)
  have V_r := Lib.hid (V_r.out.below hb)
  have V_b := Lib.hid (V_b.out.below hb)
  have V_t := Lib.hid (V_t.out.below hb)
  have HT := Lib.hid (HT.out.below hb)
  have HBW := Lib.hid (belowTo HBW.out hb)
  have R_u := Lib.hid r6
  clear hb r6
  go_upto_region 11 with fail
  have ha := ((Below.refl x10.heap.size x10).alloc (Nat.le_refl _) (.cells #[.bool (decide (u < 0)), .slice A6 (natL u.natAbs).length c6] 24))
  have p_u := (Pair.new x10 24 (.bool (decide (u < 0))) (.slice A6 (natL u.natAbs).length c6))
  obtain ⟨y11, E⟩ : ∃ W, W = (x10.alloc (.cells #[.bool (decide (u < 0)), .slice A6 (natL u.natAbs).length c6] 24)) := ⟨_, rfl⟩
  rw [← E] at ha p_u ⊢
  have V_u := Lib.hid (NV.of R_u.out ha p_u)
  have V_x := Lib.hid (V_x.out.below ha)
  have V_y := Lib.hid (V_y.out.below ha)
  have V_p := Lib.hid (V_p.out.below ha)
  have V_a := Lib.hid (V_a.out.below ha)
  have V_r := Lib.hid (V_r.out.below ha)
  have V_b := Lib.hid (V_b.out.below ha)
  have V_t := Lib.hid (V_t.out.below ha)
  have HT := Lib.hid (HT.out.below ha)
  have HBW := Lib.hid (belowTo HBW.out ha)
  obtain ⟨g11, hg⟩ : ∃ g, g = x10.heap.size := ⟨_, rfl⟩
  rw [← hg] at V_u ⊢
  clear E ha hg p_u
  have OU := Lib.hid (fun (V : World) => of_n 1 u HU1.out (by decide) (by decide) V)
  obtain ⟨W0, hW⟩ : ∃ W0, W0 = y11 := ⟨_, rfl⟩
  rw [← hW] at HT HBW V_x V_y V_p V_a V_r V_b V_t V_u  ⊢
  clear hW
  refine wp_region_free [.val (.int .i64 0) [], .val (.bool false) [], .val (.bool false) [], .val (.int .i64 0) [], .val (.bool false) [], .val (.bool false) [], .val (.bool false) [], .val (.int .i64 0) [], .val (.bool false) [], .val (.bool false) [], .val (.bool false) [], .val (.pointer (some ⟨g7 + 1, 1, none⟩)) [], .val (.slice A3 (natL r.natAbs).length c3) [], .val (.int .i64 0) [], .val (.pointer (some ⟨g9 + 1, 1, none⟩)) [], .val (.slice A5 (natL t.natAbs).length c5) [], .val (.int .i64 0) [], .val (.int .i64 0) [], .val (.bool false) [], .val (.bool false) [], .val (.bool false) [], .val (.agg #[.bool (decide (u < 0)), .slice A6 (natL u.natAbs).length c6]) [], .any false (fun u0 V => IntAt V u0 u) [], .val (.int .i64 0) [22], .val (.bool false) [], .val (.bool false) []] W0.heap.size W0 [] (fun _ _ => False) _ mixedOrders2 (Nat.le_refl _) (Below.refl _ _) (KeptV.refl _ _ _) rfl (by kernel_rfl) (by kernel_rfl) (by kernel_rfl) (by kernel_rfl) (by kernel_rfl) (by kernel_rfl) (by kernel_rfl) (by kernel_rfl) rfl (by simp [oldsF]) ?_ ?_ ?_ ?_
  · simp only [StableF, and_true]
    exact fun u0 V V' h k => h.keptNone k
  · simp only [OldsF]
  · simp (maxSteps := 4000000) [StepsF, DepF, freeAct, fill, pairs]
    repeat' (first | apply And.intro | (intro (u0 : Value)))
    all_goals first
    | (intro V hV hK
       obtain ⟨-, a_r, b_r, -, -⟩ := (V_r.out.below hV).pair.facts
       have r_r := Lib.hid (V_r.out.below hV).raw
       obtain ⟨-, a_t, b_t, -, -⟩ := (V_t.out.below hV).pair.facts
       have r_t := Lib.hid (V_t.out.below hV).raw
       obtain ⟨-, a_u, b_u, -, -⟩ := (V_u.out.below hV).pair.facts
       have r_u := Lib.hid (V_u.out.below hV).raw
       have n_r := nought_len HR0.out.1
       have n_t := nought_len HR0.out.2
       clear hV hK
       go_simp
       first
       | exact Below.refl _ _
       | exact ⟨by first | rfl | decide | go_num, Below.refl _ _⟩
       | ((with_reducible refine (OU.out V).mono ?_); rintro e w' ⟨A', c', rfl, hr, hb⟩; exact ⟨⟨A', c', rfl, hr⟩, hb⟩))
    | (intro V hV hK hu
       obtain ⟨A', c', rfl, hr⟩ := hu.form
       have r_u := Lib.hid (V_u.out.below hV).raw
       have r' := Lib.hid hr
       clear hV hK hu hr
       go_simp
       (with_reducible refine (cmp_z u u A6 A' c6 c' F_u.out F_u.out V r_u.out r'.out 0 HUU.out).mono ?_)
       rintro e w' ⟨rfl, hb⟩
       exact ⟨rfl, hb⟩)
  · simp [EndF, FactsF, freeAct, fill, pairs]
    intro u1 V hV hK _ _ _ _
    have V_x := Lib.hid (V_x.out.below hV)
    have V_y := Lib.hid (V_y.out.below hV)
    have V_p := Lib.hid (V_p.out.below hV)
    have V_a := Lib.hid (V_a.out.below hV)
    have V_r := Lib.hid (V_r.out.below hV)
    have V_b := Lib.hid (V_b.out.below hV)
    have V_t := Lib.hid (V_t.out.below hV)
    have V_u := Lib.hid (V_u.out.below hV)
    have HT := Lib.hid (HT.out.below hV)
    have HBW := Lib.hid (belowTo HBW.out hV)
    clear hV hK
    obtain ⟨v12, hV0⟩ : ∃ Y, Y = V := ⟨_, rfl⟩
    rw [← hV0] at HT HBW V_x V_y V_p V_a V_r V_b V_t V_u  ⊢
    clear hV0
    clear V_a
    clear V_b
    clear V_r
    clear V_t
    clear V_u
    go_upto_region 13 with fail
    obtain ⟨l_y, a_y, b_y, -, -⟩ := V_y.out.pair.facts
    obtain ⟨l_x, a_x, b_x, -, -⟩ := V_x.out.pair.facts
    go_wp2_with fail
    refine (gcd_z y x p B A d c F_y.out F_x.out v12 V_y.out.raw V_x.out.raw HT2.out).mono ?_
    rintro e x13 ⟨A7, c7, rfl, r7, hb⟩
    clear l_y a_y b_y l_x a_x b_x
    have V_x := Lib.hid (V_x.out.below hb)
    have V_y := Lib.hid (V_y.out.below hb)
    have V_p := Lib.hid (V_p.out.below hb)
    have HT := Lib.hid (HT.out.below hb)
    have HBW := Lib.hid (belowTo HBW.out hb)
    have R_p := Lib.hid r7
    clear hb r7
    have R_p2 := R_p
    clear R_p
    go_upto_region 14 with fail
    have ha := ((Below.refl x13.heap.size x13).alloc (Nat.le_refl _) (.cells #[.bool (decide (p < 0)), .slice A7 (natL p.natAbs).length c7] 24))
    have p_p2 := (Pair.new x13 24 (.bool (decide (p < 0))) (.slice A7 (natL p.natAbs).length c7))
    obtain ⟨y14, E⟩ : ∃ W, W = (x13.alloc (.cells #[.bool (decide (p < 0)), .slice A7 (natL p.natAbs).length c7] 24)) := ⟨_, rfl⟩
    rw [← E] at ha p_p2 ⊢
    have V_p2 := Lib.hid (NV.of R_p2.out ha p_p2)
    have V_x := Lib.hid (V_x.out.below ha)
    have V_y := Lib.hid (V_y.out.below ha)
    have V_p := Lib.hid (V_p.out.below ha)
    have HT := Lib.hid (HT.out.below ha)
    have HBW := Lib.hid (belowTo HBW.out ha)
    obtain ⟨g14, hg⟩ : ∃ g, g = x13.heap.size := ⟨_, rfl⟩
    rw [← hg] at V_p2 ⊢
    clear E ha hg p_p2
    obtain ⟨l_p2, a_p2, b_p2, -, -⟩ := V_p2.out.pair.facts
    obtain ⟨l_p, a_p, b_p, -, -⟩ := V_p.out.pair.facts
    go_wp2_with fail
    refine (same_z p p A7 A1 c7 c1 y14 V_p2.out.raw V_p.out.raw true (by simp)).mono ?_
    rintro e x15 ⟨rfl, hb⟩
    clear l_p2 a_p2 b_p2 l_p a_p b_p
    have V_x := Lib.hid (V_x.out.below hb)
    have V_y := Lib.hid (V_y.out.below hb)
    have V_p := Lib.hid (V_p.out.below hb)
    have V_p2 := Lib.hid (V_p2.out.below hb)
    have HT := Lib.hid (HT.out.below hb)
    have HBW := Lib.hid (belowTo HBW.out hb)
    clear hb
    have hly := nought_len HY.out
    obtain ⟨l_y, a_y, b_y, -, -⟩ := V_y.out.pair.facts
    go_upto_region 15 with fail
    clear l_y a_y b_y
    clear hly
    obtain ⟨l_p2, a_p2, b_p2, -, -⟩ := V_p2.out.pair.facts
    obtain ⟨l_p, a_p, b_p, -, -⟩ := V_p.out.pair.facts
    go_wp2_with fail
    refine (same_z p p A7 A1 c7 c1 x15 V_p2.out.raw V_p.out.raw true (by simp)).mono ?_
    rintro e x16 ⟨rfl, hb⟩
    clear l_p2 a_p2 b_p2 l_p a_p b_p
    have V_x := Lib.hid (V_x.out.below hb)
    have V_y := Lib.hid (V_y.out.below hb)
    have V_p := Lib.hid (V_p.out.below hb)
    have V_p2 := Lib.hid (V_p2.out.below hb)
    have HT := Lib.hid (HT.out.below hb)
    have HBW := Lib.hid (belowTo HBW.out hb)
    clear hb
    go_wp2_with fail
    go_ret
    exact ⟨rfl, HBW.out⟩

set_option maxRecDepth 100000 in
set_option maxHeartbeats 8000000 in
theorem common_more (x y : Int) (A B : Option Addr) (c d : Nat) (hx : Fit x) (hy : Fit y) (hy0 : y ≠ 0) (w : World) (h : Raw w A c (natL x.natAbs)) (g : Raw w B d (natL y.natAbs)) (htab : powTab w) :
    Calls Tryd.prog 3 #[.agg #[.bool (decide (x < 0)), .slice A (natL x.natAbs).length c], .agg #[.bool (decide (y < 0)), .slice B (natL y.natAbs).length d]] w fun e w' => e = .returned (.bool true) ∧ Below w.heap.size w w' := by
  obtain ⟨g0, hg0⟩ : ∃ g0 : Nat, g0 = Nat.gcd x.natAbs y.natAbs := ⟨_, rfl⟩
  obtain ⟨p, hg⟩ : ∃ p : Int, p = (g0 : Int) := ⟨_, rfl⟩
  have HG := Lib.hid (show p = ((Nat.gcd x.natAbs y.natAbs : Nat) : Int) from by rw [hg, hg0])
  have HT2 := Lib.hid (show p = ((Nat.gcd y.natAbs x.natAbs : Nat) : Int) from by rw [hg, hg0, Nat.gcd_comm])
  have F_p := Lib.hid (show Fit p from by rw [hg, hg0]; exact gcd_fit hx hy)
  have HNEG := Lib.hid (show decide (p < 0) = false from decide_eq_false (by omega))
  have hgn : g0 ≠ 0 := fun e => by
    rw [hg0] at e
    have h1 := Nat.eq_zero_of_gcd_eq_zero_left e
    have h2 := Nat.eq_zero_of_gcd_eq_zero_right e
    omega
  obtain ⟨e1, e2, e3⟩ := gcd_parts hg0 hgn
  rw [← hg] at e1 e2 e3
  obtain ⟨a, ha⟩ : ∃ a : Int, a = x.tdiv p := ⟨_, rfl⟩
  obtain ⟨r, hr⟩ : ∃ a : Int, a = x.tmod p := ⟨_, rfl⟩
  obtain ⟨b, hb⟩ : ∃ a : Int, a = y.tdiv p := ⟨_, rfl⟩
  obtain ⟨t, ht⟩ : ∃ a : Int, a = y.tmod p := ⟨_, rfl⟩
  obtain ⟨u, hu⟩ : ∃ a : Int, a = 1 := ⟨_, rfl⟩
  have HNZ := Lib.hid (show p ≠ 0 from by omega)
  have HA := Lib.hid (And.intro ha hr)
  have HB := Lib.hid (And.intro hb ht)
  have HU := Lib.hid (show u = ((Nat.gcd a.natAbs b.natAbs : Nat) : Int) from by rw [hu, ha, hb, e3]; rfl)
  have HU1 := Lib.hid hu
  have HR0 := Lib.hid (show r = 0 ∧ t = 0 from ⟨by rw [hr, e1], by rw [ht, e2]⟩)
  have F_a := Lib.hid (show Fit a from by rw [ha]; exact tdiv_fit hx)
  have F_b := Lib.hid (show Fit b from by rw [hb]; exact tdiv_fit hy)
  have F_u := Lib.hid (show Fit u from Fit.small (by rw [hu]; decide))
  have HUU := Lib.hid (show (0 : Int) = cmpz u u from by unfold cmpz; simp)
  have HXY := Lib.hid (show x ≠ 0 ∨ y ≠ 0 from by omega)
  obtain ⟨q, hq⟩ : ∃ a : Int, a = x.tdiv y := ⟨_, rfl⟩
  obtain ⟨s, hs⟩ : ∃ a : Int, a = x.tmod y := ⟨_, rfl⟩
  have HQ := Lib.hid (And.intro hy0 (And.intro hq hs))
  have F_s := Lib.hid (show Fit s from by rw [hs]; exact tmod_fit hx)
  have HG3 := Lib.hid (show p = ((Nat.gcd y.natAbs s.natAbs : Nat) : Int) from by rw [hg, hg0, hs, gcd_rest])
  clear hq hs hy0
  clear hgn e1 e2 e3 ha hr hb ht hu hg0 hg
  have p0 := (Pair.new w 24 (.bool (decide (x < 0))) (.slice A (natL x.natAbs).length c)).alloc (.cells #[.bool (decide (y < 0)), .slice B (natL y.natAbs).length d] 24)
  have p1 := Pair.new (w.alloc (.cells #[.bool (decide (x < 0)), .slice A (natL x.natAbs).length c] 24)) 24 (.bool (decide (y < 0))) (.slice B (natL y.natAbs).length d)
  have b0 := (((Below.refl w.heap.size w).alloc (Nat.le_refl _) (.cells #[.bool (decide (x < 0)), .slice A (natL x.natAbs).length c] 24)).alloc (by simp) (.cells #[.bool (decide (y < 0)), .slice B (natL y.natAbs).length d] 24))
  simp only [World.size_alloc] at p1
  have V_x := Lib.hid (NV.of h b0 p0)
  have V_y := Lib.hid (NV.of g b0 p1)
  have F_x := Lib.hid hx
  have F_y := Lib.hid hy
  have HT := Lib.hid (htab.below b0)
  have HBW := Lib.hid b0
  clear h g htab p0 p1 b0 hx hy
  go_enter Tryd.func3, Tryd.ntmps3
  obtain ⟨W, E⟩ : ∃ W, W = ((w.alloc (.cells #[.bool (decide (x < 0)), .slice A (natL x.natAbs).length c] 24)).alloc (.cells #[.bool (decide (y < 0)), .slice B (natL y.natAbs).length d] 24)) := ⟨_, rfl⟩
  go_upto_region 1 with fail
  rw [← E] at V_x V_y HT HBW ⊢
  clear E
  go_wp2_with fail
  refine (alive_true W HT.out).mono ?_
  rintro e x1 ⟨rfl, hb⟩
  have V_x := Lib.hid (V_x.out.below hb)
  have V_y := Lib.hid (V_y.out.below hb)
  have HT := Lib.hid (HT.out.below hb)
  have HBW := Lib.hid (belowTo HBW.out hb)
  clear hb
  obtain ⟨l_x, a_x, b_x, -, -⟩ := V_x.out.pair.facts
  obtain ⟨l_y, a_y, b_y, -, -⟩ := V_y.out.pair.facts
  go_wp2_with fail
  refine (may2 x y A B c d x1 V_x.out.raw V_y.out.raw F_x.out F_y.out 24).mono ?_
  rintro e x2 ⟨rfl, hb⟩
  clear l_x a_x b_x l_y a_y b_y
  have V_x := Lib.hid (V_x.out.below hb)
  have V_y := Lib.hid (V_y.out.below hb)
  have HT := Lib.hid (HT.out.below hb)
  have HBW := Lib.hid (belowTo HBW.out hb)
  clear hb
  obtain ⟨l_x, a_x, b_x, -, -⟩ := V_x.out.pair.facts
  obtain ⟨l_y, a_y, b_y, -, -⟩ := V_y.out.pair.facts
  go_wp2_with fail
  refine (gcd_z x y p A B c d F_x.out F_y.out x2 V_x.out.raw V_y.out.raw HG.out).mono ?_
  rintro e x3 ⟨A1, c1, rfl, r1, hb⟩
  clear l_x a_x b_x l_y a_y b_y
  have V_x := Lib.hid (V_x.out.below hb)
  have V_y := Lib.hid (V_y.out.below hb)
  have HT := Lib.hid (HT.out.below hb)
  have HBW := Lib.hid (belowTo HBW.out hb)
  have R_p := Lib.hid r1
  clear hb r1
  go_upto_region 4 with fail
  have ha := ((Below.refl x3.heap.size x3).alloc (Nat.le_refl _) (.cells #[.bool (decide (p < 0)), .slice A1 (natL p.natAbs).length c1] 24))
  have p_p := (Pair.new x3 24 (.bool (decide (p < 0))) (.slice A1 (natL p.natAbs).length c1))
  obtain ⟨y4, E⟩ : ∃ W, W = (x3.alloc (.cells #[.bool (decide (p < 0)), .slice A1 (natL p.natAbs).length c1] 24)) := ⟨_, rfl⟩
  rw [← E] at ha p_p ⊢
  have V_p := Lib.hid (NV.of R_p.out ha p_p)
  have V_x := Lib.hid (V_x.out.below ha)
  have V_y := Lib.hid (V_y.out.below ha)
  have HT := Lib.hid (HT.out.below ha)
  have HBW := Lib.hid (belowTo HBW.out ha)
  obtain ⟨g4, hg⟩ : ∃ g, g = x3.heap.size := ⟨_, rfl⟩
  rw [← hg] at V_p ⊢
  clear E ha hg p_p
  obtain ⟨l_p, a_p, b_p, -, -⟩ := V_p.out.pair.facts
  go_wp2_with fail
  refine (may1 p A1 c1 y4 V_p.out.raw 24 true (by simp [F_p.out])).mono ?_
  rintro e x5 ⟨rfl, hb⟩
  clear l_p a_p b_p
  have V_x := Lib.hid (V_x.out.below hb)
  have V_y := Lib.hid (V_y.out.below hb)
  have V_p := Lib.hid (V_p.out.below hb)
  have HT := Lib.hid (HT.out.below hb)
  have HBW := Lib.hid (belowTo HBW.out hb)
  clear hb
  have hng := HNEG.out
  have h1 := more_len HNZ.out
  obtain ⟨h2, h3⟩ := sum_len F_x.out F_y.out HXY.out
  obtain ⟨l_x, a_x, b_x, -, -⟩ := V_x.out.pair.facts
  obtain ⟨l_y, a_y, b_y, -, -⟩ := V_y.out.pair.facts
  obtain ⟨l_p, a_p, b_p, -, -⟩ := V_p.out.pair.facts
  go_upto_region 8 with fail
  clear l_x a_x b_x l_y a_y b_y l_p a_p b_p
  clear h1 h2 h3 hng
  obtain ⟨l_x, a_x, b_x, -, -⟩ := V_x.out.pair.facts
  obtain ⟨l_p, a_p, b_p, -, -⟩ := V_p.out.pair.facts
  go_wp2_with fail
  refine (quorem_z x p A A1 c c1 F_x.out F_p.out x5 V_x.out.raw V_p.out.raw a r HNZ.out HA.out.1 HA.out.2).mono ?_
  rintro e x6 ⟨A2, c2, A3, c3, rfl, r2, r3, hb⟩
  clear l_x a_x b_x l_p a_p b_p
  have V_x := Lib.hid (V_x.out.below hb)
  have V_y := Lib.hid (V_y.out.below hb)
  have V_p := Lib.hid (V_p.out.below hb)
  have HT := Lib.hid (HT.out.below hb)
  have HBW := Lib.hid (belowTo HBW.out hb)
  have R_a := Lib.hid r2
  have R_r := Lib.hid r3
  clear hb r2 r3
  go_upto_region 9 with fail
  have ha := (((Below.refl x6.heap.size x6).alloc (Nat.le_refl _) (.cells #[.bool (decide (a < 0)), .slice A2 (natL a.natAbs).length c2] 24)).alloc (by simp) (.cells #[.bool (decide (r < 0)), .slice A3 (natL r.natAbs).length c3] 24))
  have p_a := ((Pair.new x6 24 (.bool (decide (a < 0))) (.slice A2 (natL a.natAbs).length c2)).alloc (.cells #[.bool (decide (r < 0)), .slice A3 (natL r.natAbs).length c3] 24))
  have p_r := (Pair.new (x6.alloc (.cells #[.bool (decide (a < 0)), .slice A2 (natL a.natAbs).length c2] 24)) 24 (.bool (decide (r < 0))) (.slice A3 (natL r.natAbs).length c3))
  simp only [World.size_alloc] at p_r
  obtain ⟨y7, E⟩ : ∃ W, W = ((x6.alloc (.cells #[.bool (decide (a < 0)), .slice A2 (natL a.natAbs).length c2] 24)).alloc (.cells #[.bool (decide (r < 0)), .slice A3 (natL r.natAbs).length c3] 24)) := ⟨_, rfl⟩
  rw [← E] at ha p_a p_r ⊢
  have V_a := Lib.hid (NV.of R_a.out ha p_a)
  have V_r := Lib.hid (NV.of R_r.out ha p_r)
  have V_x := Lib.hid (V_x.out.below ha)
  have V_y := Lib.hid (V_y.out.below ha)
  have V_p := Lib.hid (V_p.out.below ha)
  have HT := Lib.hid (HT.out.below ha)
  have HBW := Lib.hid (belowTo HBW.out ha)
  obtain ⟨g7, hg⟩ : ∃ g, g = x6.heap.size := ⟨_, rfl⟩
  rw [← hg] at V_a V_r ⊢
  clear E ha hg p_a p_r
  obtain ⟨l_y, a_y, b_y, -, -⟩ := V_y.out.pair.facts
  obtain ⟨l_p, a_p, b_p, -, -⟩ := V_p.out.pair.facts
  go_wp2_with fail
  refine (quorem_z y p B A1 d c1 F_y.out F_p.out y7 V_y.out.raw V_p.out.raw b t HNZ.out HB.out.1 HB.out.2).mono ?_
  rintro e x8 ⟨A4, c4, A5, c5, rfl, r4, r5, hb⟩
  clear l_y a_y b_y l_p a_p b_p
  have V_x := Lib.hid (V_x.out.below hb)
  have V_y := Lib.hid (V_y.out.below hb)
  have V_p := Lib.hid (V_p.out.below hb)
  have V_a := Lib.hid (V_a.out.below hb)
  have V_r := Lib.hid (V_r.out.below hb)
  have HT := Lib.hid (HT.out.below hb)
  have HBW := Lib.hid (belowTo HBW.out hb)
  have R_b := Lib.hid r4
  have R_t := Lib.hid r5
  clear hb r4 r5
  go_upto_region 10 with fail
  have ha := (((Below.refl x8.heap.size x8).alloc (Nat.le_refl _) (.cells #[.bool (decide (b < 0)), .slice A4 (natL b.natAbs).length c4] 24)).alloc (by simp) (.cells #[.bool (decide (t < 0)), .slice A5 (natL t.natAbs).length c5] 24))
  have p_b := ((Pair.new x8 24 (.bool (decide (b < 0))) (.slice A4 (natL b.natAbs).length c4)).alloc (.cells #[.bool (decide (t < 0)), .slice A5 (natL t.natAbs).length c5] 24))
  have p_t := (Pair.new (x8.alloc (.cells #[.bool (decide (b < 0)), .slice A4 (natL b.natAbs).length c4] 24)) 24 (.bool (decide (t < 0))) (.slice A5 (natL t.natAbs).length c5))
  simp only [World.size_alloc] at p_t
  obtain ⟨y9, E⟩ : ∃ W, W = ((x8.alloc (.cells #[.bool (decide (b < 0)), .slice A4 (natL b.natAbs).length c4] 24)).alloc (.cells #[.bool (decide (t < 0)), .slice A5 (natL t.natAbs).length c5] 24)) := ⟨_, rfl⟩
  rw [← E] at ha p_b p_t ⊢
  have V_b := Lib.hid (NV.of R_b.out ha p_b)
  have V_t := Lib.hid (NV.of R_t.out ha p_t)
  have V_x := Lib.hid (V_x.out.below ha)
  have V_y := Lib.hid (V_y.out.below ha)
  have V_p := Lib.hid (V_p.out.below ha)
  have V_a := Lib.hid (V_a.out.below ha)
  have V_r := Lib.hid (V_r.out.below ha)
  have HT := Lib.hid (HT.out.below ha)
  have HBW := Lib.hid (belowTo HBW.out ha)
  obtain ⟨g9, hg⟩ : ∃ g, g = x8.heap.size := ⟨_, rfl⟩
  rw [← hg] at V_b V_t ⊢
  clear E ha hg p_b p_t
  obtain ⟨l_a, a_a, b_a, -, -⟩ := V_a.out.pair.facts
  obtain ⟨l_b, a_b, b_b, -, -⟩ := V_b.out.pair.facts
  go_wp2_with fail
  refine (gcd_z a b u A2 A4 c2 c4 F_a.out F_b.out y9 V_a.out.raw V_b.out.raw HU.out).mono ?_
  rintro e x10 ⟨A6, c6, rfl, r6, hb⟩
  clear l_a a_a b_a l_b a_b b_b
  have V_x := Lib.hid (V_x.out.below hb)
  have V_y := Lib.hid (V_y.out.below hb)
  have V_p := Lib.hid (V_p.out.below hb)
  have V_a := Lib.hid (V_a.out.below hb)
  have V_r := Lib.hid (V_r.out.below hb)
  have V_b := Lib.hid (V_b.out.below hb)
  have V_t := Lib.hid (V_t.out.below hb)
  have HT := Lib.hid (HT.out.below hb)
  have HBW := Lib.hid (belowTo HBW.out hb)
  have R_u := Lib.hid r6
  clear hb r6
  go_upto_region 11 with fail
  have ha := ((Below.refl x10.heap.size x10).alloc (Nat.le_refl _) (.cells #[.bool (decide (u < 0)), .slice A6 (natL u.natAbs).length c6] 24))
  have p_u := (Pair.new x10 24 (.bool (decide (u < 0))) (.slice A6 (natL u.natAbs).length c6))
  obtain ⟨y11, E⟩ : ∃ W, W = (x10.alloc (.cells #[.bool (decide (u < 0)), .slice A6 (natL u.natAbs).length c6] 24)) := ⟨_, rfl⟩
  rw [← E] at ha p_u ⊢
  have V_u := Lib.hid (NV.of R_u.out ha p_u)
  have V_x := Lib.hid (V_x.out.below ha)
  have V_y := Lib.hid (V_y.out.below ha)
  have V_p := Lib.hid (V_p.out.below ha)
  have V_a := Lib.hid (V_a.out.below ha)
  have V_r := Lib.hid (V_r.out.below ha)
  have V_b := Lib.hid (V_b.out.below ha)
  have V_t := Lib.hid (V_t.out.below ha)
  have HT := Lib.hid (HT.out.below ha)
  have HBW := Lib.hid (belowTo HBW.out ha)
  obtain ⟨g11, hg⟩ : ∃ g, g = x10.heap.size := ⟨_, rfl⟩
  rw [← hg] at V_u ⊢
  clear E ha hg p_u
  have OU := Lib.hid (fun (V : World) => of_n 1 u HU1.out (by decide) (by decide) V)
  obtain ⟨W0, hW⟩ : ∃ W0, W0 = y11 := ⟨_, rfl⟩
  rw [← hW] at HT HBW V_x V_y V_p V_a V_r V_b V_t V_u  ⊢
  clear hW
  refine wp_region_free [.val (.int .i64 0) [], .val (.bool false) [], .val (.bool false) [], .val (.int .i64 0) [], .val (.bool false) [], .val (.bool false) [], .val (.bool false) [], .val (.int .i64 0) [], .val (.bool false) [], .val (.bool false) [], .val (.bool false) [], .val (.pointer (some ⟨g7 + 1, 1, none⟩)) [], .val (.slice A3 (natL r.natAbs).length c3) [], .val (.int .i64 0) [], .val (.pointer (some ⟨g9 + 1, 1, none⟩)) [], .val (.slice A5 (natL t.natAbs).length c5) [], .val (.int .i64 0) [], .val (.int .i64 0) [], .val (.bool false) [], .val (.bool false) [], .val (.bool false) [], .val (.agg #[.bool (decide (u < 0)), .slice A6 (natL u.natAbs).length c6]) [], .any false (fun u0 V => IntAt V u0 u) [], .val (.int .i64 0) [22], .val (.bool false) [], .val (.bool false) []] W0.heap.size W0 [] (fun _ _ => False) _ mixedOrders2 (Nat.le_refl _) (Below.refl _ _) (KeptV.refl _ _ _) rfl (by kernel_rfl) (by kernel_rfl) (by kernel_rfl) (by kernel_rfl) (by kernel_rfl) (by kernel_rfl) (by kernel_rfl) (by kernel_rfl) rfl (by simp [oldsF]) ?_ ?_ ?_ ?_
  · simp only [StableF, and_true]
    exact fun u0 V V' h k => h.keptNone k
  · simp only [OldsF]
  · simp (maxSteps := 4000000) [StepsF, DepF, freeAct, fill, pairs]
    repeat' (first | apply And.intro | (intro (u0 : Value)))
    all_goals first
    | (intro V hV hK
       obtain ⟨-, a_r, b_r, -, -⟩ := (V_r.out.below hV).pair.facts
       have r_r := Lib.hid (V_r.out.below hV).raw
       obtain ⟨-, a_t, b_t, -, -⟩ := (V_t.out.below hV).pair.facts
       have r_t := Lib.hid (V_t.out.below hV).raw
       obtain ⟨-, a_u, b_u, -, -⟩ := (V_u.out.below hV).pair.facts
       have r_u := Lib.hid (V_u.out.below hV).raw
       have n_r := nought_len HR0.out.1
       have n_t := nought_len HR0.out.2
       clear hV hK
       go_simp
       first
       | exact Below.refl _ _
       | exact ⟨by first | rfl | decide | go_num, Below.refl _ _⟩
       | ((with_reducible refine (OU.out V).mono ?_); rintro e w' ⟨A', c', rfl, hr, hb⟩; exact ⟨⟨A', c', rfl, hr⟩, hb⟩))
    | (intro V hV hK hu
       obtain ⟨A', c', rfl, hr⟩ := hu.form
       have r_u := Lib.hid (V_u.out.below hV).raw
       have r' := Lib.hid hr
       clear hV hK hu hr
       go_simp
       (with_reducible refine (cmp_z u u A6 A' c6 c' F_u.out F_u.out V r_u.out r'.out 0 HUU.out).mono ?_)
       rintro e w' ⟨rfl, hb⟩
       exact ⟨rfl, hb⟩)
  · simp [EndF, FactsF, freeAct, fill, pairs]
    intro u1 V hV hK _ _ _ _
    have V_x := Lib.hid (V_x.out.below hV)
    have V_y := Lib.hid (V_y.out.below hV)
    have V_p := Lib.hid (V_p.out.below hV)
    have V_a := Lib.hid (V_a.out.below hV)
    have V_r := Lib.hid (V_r.out.below hV)
    have V_b := Lib.hid (V_b.out.below hV)
    have V_t := Lib.hid (V_t.out.below hV)
    have V_u := Lib.hid (V_u.out.below hV)
    have HT := Lib.hid (HT.out.below hV)
    have HBW := Lib.hid (belowTo HBW.out hV)
    clear hV hK
    obtain ⟨v12, hV0⟩ : ∃ Y, Y = V := ⟨_, rfl⟩
    rw [← hV0] at HT HBW V_x V_y V_p V_a V_r V_b V_t V_u  ⊢
    clear hV0
    clear V_a
    clear V_b
    clear V_r
    clear V_t
    clear V_u
    go_upto_region 13 with fail
    obtain ⟨l_y, a_y, b_y, -, -⟩ := V_y.out.pair.facts
    obtain ⟨l_x, a_x, b_x, -, -⟩ := V_x.out.pair.facts
    go_wp2_with fail
    refine (gcd_z y x p B A d c F_y.out F_x.out v12 V_y.out.raw V_x.out.raw HT2.out).mono ?_
    rintro e x13 ⟨A7, c7, rfl, r7, hb⟩
    clear l_y a_y b_y l_x a_x b_x
    have V_x := Lib.hid (V_x.out.below hb)
    have V_y := Lib.hid (V_y.out.below hb)
    have V_p := Lib.hid (V_p.out.below hb)
    have HT := Lib.hid (HT.out.below hb)
    have HBW := Lib.hid (belowTo HBW.out hb)
    have R_p := Lib.hid r7
    clear hb r7
    have R_p2 := R_p
    clear R_p
    go_upto_region 14 with fail
    have ha := ((Below.refl x13.heap.size x13).alloc (Nat.le_refl _) (.cells #[.bool (decide (p < 0)), .slice A7 (natL p.natAbs).length c7] 24))
    have p_p2 := (Pair.new x13 24 (.bool (decide (p < 0))) (.slice A7 (natL p.natAbs).length c7))
    obtain ⟨y14, E⟩ : ∃ W, W = (x13.alloc (.cells #[.bool (decide (p < 0)), .slice A7 (natL p.natAbs).length c7] 24)) := ⟨_, rfl⟩
    rw [← E] at ha p_p2 ⊢
    have V_p2 := Lib.hid (NV.of R_p2.out ha p_p2)
    have V_x := Lib.hid (V_x.out.below ha)
    have V_y := Lib.hid (V_y.out.below ha)
    have V_p := Lib.hid (V_p.out.below ha)
    have HT := Lib.hid (HT.out.below ha)
    have HBW := Lib.hid (belowTo HBW.out ha)
    obtain ⟨g14, hg⟩ : ∃ g, g = x13.heap.size := ⟨_, rfl⟩
    rw [← hg] at V_p2 ⊢
    clear E ha hg p_p2
    obtain ⟨l_p2, a_p2, b_p2, -, -⟩ := V_p2.out.pair.facts
    obtain ⟨l_p, a_p, b_p, -, -⟩ := V_p.out.pair.facts
    go_wp2_with fail
    refine (same_z p p A7 A1 c7 c1 y14 V_p2.out.raw V_p.out.raw true (by simp)).mono ?_
    rintro e x15 ⟨rfl, hb⟩
    clear l_p2 a_p2 b_p2 l_p a_p b_p
    have V_x := Lib.hid (V_x.out.below hb)
    have V_y := Lib.hid (V_y.out.below hb)
    have V_p := Lib.hid (V_p.out.below hb)
    have V_p2 := Lib.hid (V_p2.out.below hb)
    have HT := Lib.hid (HT.out.below hb)
    have HBW := Lib.hid (belowTo HBW.out hb)
    clear hb
    have hly := more_len HQ.out.1
    obtain ⟨l_y, a_y, b_y, -, -⟩ := V_y.out.pair.facts
    go_upto_region 16 with fail
    clear l_y a_y b_y
    clear hly
    obtain ⟨l_x, a_x, b_x, -, -⟩ := V_x.out.pair.facts
    obtain ⟨l_y, a_y, b_y, -, -⟩ := V_y.out.pair.facts
    go_wp2_with fail
    refine (quorem_z x y A B c d F_x.out F_y.out x15 V_x.out.raw V_y.out.raw q s HQ.out.1 HQ.out.2.1 HQ.out.2.2).mono ?_
    rintro e x16 ⟨A8, c8, A9, c9, rfl, r8, r9, hb⟩
    clear l_x a_x b_x l_y a_y b_y
    have V_x := Lib.hid (V_x.out.below hb)
    have V_y := Lib.hid (V_y.out.below hb)
    have V_p := Lib.hid (V_p.out.below hb)
    have V_p2 := Lib.hid (V_p2.out.below hb)
    have HT := Lib.hid (HT.out.below hb)
    have HBW := Lib.hid (belowTo HBW.out hb)
    have R_q := Lib.hid r8
    have R_s := Lib.hid r9
    clear hb r8 r9
    go_upto_region 17 with fail
    have ha := (((Below.refl x16.heap.size x16).alloc (Nat.le_refl _) (.cells #[.bool (decide (q < 0)), .slice A8 (natL q.natAbs).length c8] 24)).alloc (by simp) (.cells #[.bool (decide (s < 0)), .slice A9 (natL s.natAbs).length c9] 24))
    have p_q := ((Pair.new x16 24 (.bool (decide (q < 0))) (.slice A8 (natL q.natAbs).length c8)).alloc (.cells #[.bool (decide (s < 0)), .slice A9 (natL s.natAbs).length c9] 24))
    have p_s := (Pair.new (x16.alloc (.cells #[.bool (decide (q < 0)), .slice A8 (natL q.natAbs).length c8] 24)) 24 (.bool (decide (s < 0))) (.slice A9 (natL s.natAbs).length c9))
    simp only [World.size_alloc] at p_s
    obtain ⟨y17, E⟩ : ∃ W, W = ((x16.alloc (.cells #[.bool (decide (q < 0)), .slice A8 (natL q.natAbs).length c8] 24)).alloc (.cells #[.bool (decide (s < 0)), .slice A9 (natL s.natAbs).length c9] 24)) := ⟨_, rfl⟩
    rw [← E] at ha p_q p_s ⊢
    have V_q := Lib.hid (NV.of R_q.out ha p_q)
    have V_s := Lib.hid (NV.of R_s.out ha p_s)
    have V_x := Lib.hid (V_x.out.below ha)
    have V_y := Lib.hid (V_y.out.below ha)
    have V_p := Lib.hid (V_p.out.below ha)
    have V_p2 := Lib.hid (V_p2.out.below ha)
    have HT := Lib.hid (HT.out.below ha)
    have HBW := Lib.hid (belowTo HBW.out ha)
    obtain ⟨g17, hg⟩ : ∃ g, g = x16.heap.size := ⟨_, rfl⟩
    rw [← hg] at V_q V_s ⊢
    clear E ha hg p_q p_s
    obtain ⟨l_y, a_y, b_y, -, -⟩ := V_y.out.pair.facts
    obtain ⟨l_s, a_s, b_s, -, -⟩ := V_s.out.pair.facts
    go_wp2_with fail
    refine (gcd_z y s p B A9 d c9 F_y.out F_s.out y17 V_y.out.raw V_s.out.raw HG3.out).mono ?_
    rintro e x18 ⟨A10, c10, rfl, r10, hb⟩
    clear l_y a_y b_y l_s a_s b_s
    have V_x := Lib.hid (V_x.out.below hb)
    have V_y := Lib.hid (V_y.out.below hb)
    have V_p := Lib.hid (V_p.out.below hb)
    have V_p2 := Lib.hid (V_p2.out.below hb)
    have V_q := Lib.hid (V_q.out.below hb)
    have V_s := Lib.hid (V_s.out.below hb)
    have HT := Lib.hid (HT.out.below hb)
    have HBW := Lib.hid (belowTo HBW.out hb)
    have R_p := Lib.hid r10
    clear hb r10
    have R_p3 := R_p
    clear R_p
    go_upto_region 18 with fail
    have ha := ((Below.refl x18.heap.size x18).alloc (Nat.le_refl _) (.cells #[.bool (decide (p < 0)), .slice A10 (natL p.natAbs).length c10] 24))
    have p_p3 := (Pair.new x18 24 (.bool (decide (p < 0))) (.slice A10 (natL p.natAbs).length c10))
    obtain ⟨y19, E⟩ : ∃ W, W = (x18.alloc (.cells #[.bool (decide (p < 0)), .slice A10 (natL p.natAbs).length c10] 24)) := ⟨_, rfl⟩
    rw [← E] at ha p_p3 ⊢
    have V_p3 := Lib.hid (NV.of R_p3.out ha p_p3)
    have V_x := Lib.hid (V_x.out.below ha)
    have V_y := Lib.hid (V_y.out.below ha)
    have V_p := Lib.hid (V_p.out.below ha)
    have V_p2 := Lib.hid (V_p2.out.below ha)
    have V_q := Lib.hid (V_q.out.below ha)
    have V_s := Lib.hid (V_s.out.below ha)
    have HT := Lib.hid (HT.out.below ha)
    have HBW := Lib.hid (belowTo HBW.out ha)
    obtain ⟨g19, hg⟩ : ∃ g, g = x18.heap.size := ⟨_, rfl⟩
    rw [← hg] at V_p3 ⊢
    clear E ha hg p_p3
    obtain ⟨l_p3, a_p3, b_p3, -, -⟩ := V_p3.out.pair.facts
    obtain ⟨l_p, a_p, b_p, -, -⟩ := V_p.out.pair.facts
    go_wp2_with fail
    refine (same_z p p A10 A1 c10 c1 y19 V_p3.out.raw V_p.out.raw true (by simp)).mono ?_
    rintro e x20 ⟨rfl, hb⟩
    clear l_p3 a_p3 b_p3 l_p a_p b_p
    have V_x := Lib.hid (V_x.out.below hb)
    have V_y := Lib.hid (V_y.out.below hb)
    have V_p := Lib.hid (V_p.out.below hb)
    have V_p2 := Lib.hid (V_p2.out.below hb)
    have V_q := Lib.hid (V_q.out.below hb)
    have V_s := Lib.hid (V_s.out.below hb)
    have V_p3 := Lib.hid (V_p3.out.below hb)
    have HT := Lib.hid (HT.out.below hb)
    have HBW := Lib.hid (belowTo HBW.out hb)
    clear hb
    go_wp2_with fail
    go_ret
    exact ⟨rfl, HBW.out⟩

set_option maxRecDepth 100000 in
set_option maxHeartbeats 2000000 in
theorem common_bad (n1 n2 : Bool) (A B : Option Addr) (c d : Nat) (xs ys : List Nat) (o : (okI n1 xs && okI n2 ys) = false) (w : World) (h : Raw w A c xs) (g : Raw w B d ys) (htab : powTab w) :
    Calls Tryd.prog 3 #[.agg #[.bool n1, .slice A xs.length c], .agg #[.bool n2, .slice B ys.length d]] w fun e w' => e = .returned (.bool true) ∧ Below w.heap.size w w' := by
  have p0 := (Pair.new w 24 (.bool n1) (.slice A xs.length c)).alloc (.cells #[.bool n2, .slice B ys.length d] 24)
  have p1 := Pair.new (w.alloc (.cells #[.bool n1, .slice A xs.length c] 24)) 24 (.bool n2) (.slice B ys.length d)
  have r0 := ((h.alloc (.cells #[.bool n1, .slice A xs.length c] 24)).alloc (.cells #[.bool n2, .slice B ys.length d] 24))
  have r1 := ((g.alloc (.cells #[.bool n1, .slice A xs.length c] 24)).alloc (.cells #[.bool n2, .slice B ys.length d] 24))
  have b0 := (((Below.refl w.heap.size w).alloc (Nat.le_refl _) (.cells #[.bool n1, .slice A xs.length c] 24)).alloc (by simp) (.cells #[.bool n2, .slice B ys.length d] 24))
  simp only [World.size_alloc] at p1
  have HT := Lib.hid (htab.below b0)
  have HO := Lib.hid o
  clear h g htab o
  go_enter Tryd.func3, Tryd.ntmps3
  obtain ⟨W, E⟩ : ∃ W, W = ((w.alloc (.cells #[.bool n1, .slice A xs.length c] 24)).alloc (.cells #[.bool n2, .slice B ys.length d] 24)) := ⟨_, rfl⟩
  go_upto_region 1 with fail
  rw [← E] at p0 r0 p1 r1 b0 HT ⊢
  clear E
  have P0 := Lib.hid p0
  have R0 := Lib.hid r0
  have P1 := Lib.hid p1
  have R1 := Lib.hid r1
  have HB := Lib.hid b0
  clear p0 r0 p1 r1 b0
  go_wp2_with fail
  refine (alive_true W HT.out).mono ?_
  rintro e x1 ⟨rfl, hb⟩
  have P0 := Lib.hid (P0.out.below hb)
  have R0 := Lib.hid (R0.out.below hb)
  have P1 := Lib.hid (P1.out.below hb)
  have R1 := Lib.hid (R1.out.below hb)
  have HT := Lib.hid (HT.out.below hb)
  have HB := Lib.hid (belowTo HB.out hb)
  clear hb
  obtain ⟨l0, a0, b0, -, -⟩ := P0.out.facts
  obtain ⟨l1, a1, b1, -, -⟩ := P1.out.facts
  go_wp2_with fail
  refine (may_list [(n1, A, c, xs), (n2, B, d, ys)] (by simp) x1 (by intro m hm; simp at hm; rcases hm with rfl | rfl <;> first | exact R0.out | exact R1.out) 24 false (by have := HO.out; simp only [List.all_cons, List.all_nil, Bool.and_true, okNum]; exact this.symm)).mono ?_
  rintro e x2 ⟨rfl, hb⟩
  have HT := Lib.hid (HT.out.below hb)
  have HB := Lib.hid (belowTo HB.out hb)
  clear hb l0 a0 b0 l1 a1 b1
  go_wp2_with fail
  refine (alive_true x2 HT.out).mono ?_
  rintro e x3 ⟨rfl, hb⟩
  have HF := Lib.hid (belowTo HB.out hb)
  clear hb
  go_wp2_with fail
  go_ret
  exact ⟨rfl, HF.out⟩

theorem common_true (n1 n2 : Bool) (A B : Option Addr) (c d : Nat) (xs ys : List Nat) (w : World) (h : Raw w A c xs) (g : Raw w B d ys) (htab : powTab w) :
    Calls Tryd.prog 3 #[.agg #[.bool n1, .slice A xs.length c], .agg #[.bool n2, .slice B ys.length d]] w fun e w' => e = .returned (.bool true) ∧ Below w.heap.size w w' := by
  by_cases o : (okI n1 xs && okI n2 ys) = true
  · obtain ⟨o1, o2⟩ := Bool.and_eq_true_iff.1 o
    obtain ⟨e1, e2, e3⟩ := ok_num h.limbs o1
    obtain ⟨f1, f2, f3⟩ := ok_num g.limbs o2
    generalize ival n1 xs = x at *
    generalize ival n2 ys = y at *
    subst e1 e2 f1 f2
    by_cases hy : y = 0
    · by_cases hx : x = 0
      · exact common_none x y A B c d e3 f3 hx hy w h g htab
      · exact common_left x y A B c d e3 f3 hx hy w h g htab
    · exact common_more x y A B c d e3 f3 hy w h g htab
  · exact common_bad n1 n2 A B c d xs ys (by simpa using o) w h g htab
end Go.Proofs.YtpcdiijmhllejaaDoor
