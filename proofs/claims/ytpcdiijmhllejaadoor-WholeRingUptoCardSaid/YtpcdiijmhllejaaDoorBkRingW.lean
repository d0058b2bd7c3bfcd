/- Several texts in one: RingW. -/
import Derived.Test.YtpcdiijmhllejaaDoorBk31
import Derived.Test.YtpcdiijmhllejaaDoorBk32
/- WholeRing: the walk. (Written by wip/whole/genring.py.) -/
namespace Go.Proofs.YtpcdiijmhllejaaDoor
open Go.RowKit

set_option maxRecDepth 100000 in
set_option maxHeartbeats 8000000 in
theorem ring_long (x y z : Int) (A B C : Option Addr) (c d e0 : Nat) (hx : Fit x) (hy : Fit y) (hz : Fit z) (hs : ¬ lz x + lz y + lz z + 3 ≤ 2048) (w : World) (h : Raw w A c (natL x.natAbs)) (g : Raw w B d (natL y.natAbs)) (k : Raw w C e0 (natL z.natAbs)) (htab : powTab w) :
    Calls Tryd.prog 5 #[.agg #[.bool (decide (x < 0)), .slice A (natL x.natAbs).length c], .agg #[.bool (decide (y < 0)), .slice B (natL y.natAbs).length d], .agg #[.bool (decide (z < 0)), .slice C (natL z.natAbs).length e0]] w fun e w' => e = .returned (.bool true) ∧ Below w.heap.size w w' := by
  have HS := Lib.hid (decide_eq_false hs)
  clear hs
  have p0 := ((Pair.new w 24 (.bool (decide (x < 0))) (.slice A (natL x.natAbs).length c)).alloc (.cells #[.bool (decide (y < 0)), .slice B (natL y.natAbs).length d] 24)).alloc (.cells #[.bool (decide (z < 0)), .slice C (natL z.natAbs).length e0] 24)
  have p1 := (Pair.new (w.alloc (.cells #[.bool (decide (x < 0)), .slice A (natL x.natAbs).length c] 24)) 24 (.bool (decide (y < 0))) (.slice B (natL y.natAbs).length d)).alloc (.cells #[.bool (decide (z < 0)), .slice C (natL z.natAbs).length e0] 24)
  have p2 := Pair.new ((w.alloc (.cells #[.bool (decide (x < 0)), .slice A (natL x.natAbs).length c] 24)).alloc (.cells #[.bool (decide (y < 0)), .slice B (natL y.natAbs).length d] 24)) 24 (.bool (decide (z < 0))) (.slice C (natL z.natAbs).length e0)
  have b0 := ((((Below.refl w.heap.size w).alloc (Nat.le_refl _) (.cells #[.bool (decide (x < 0)), .slice A (natL x.natAbs).length c] 24)).alloc (by simp) (.cells #[.bool (decide (y < 0)), .slice B (natL y.natAbs).length d] 24)).alloc (by simp; omega) (.cells #[.bool (decide (z < 0)), .slice C (natL z.natAbs).length e0] 24))
  simp only [World.size_alloc] at p1 p2
  have V_x := Lib.hid (NV.of h b0 p0)
  have V_y := Lib.hid (NV.of g b0 p1)
  have V_z := Lib.hid (NV.of k b0 p2)
  have F_x := Lib.hid hx
  have F_y := Lib.hid hy
  have F_z := Lib.hid hz
  have HT := Lib.hid (htab.below b0)
  have HBW := Lib.hid b0
  clear h g k htab p0 p1 p2 b0 hx hy hz
  go_enter Tryd.func5, Tryd.ntmps5
  obtain ⟨W, E⟩ : ∃ W, W = (((w.alloc (.cells #[.bool (decide (x < 0)), .slice A (natL x.natAbs).length c] 24)).alloc (.cells #[.bool (decide (y < 0)), .slice B (natL y.natAbs).length d] 24)).alloc (.cells #[.bool (decide (z < 0)), .slice C (natL z.natAbs).length e0] 24)) := ⟨_, rfl⟩
  go_upto_region 1 with fail
  rw [← E] at V_x V_y V_z HT HBW ⊢
  clear E
  go_wp2_with fail
  refine (alive_true W HT.out).mono ?_
  rintro e x1 ⟨rfl, hb⟩
  have V_x := Lib.hid (V_x.out.below hb)
  have V_y := Lib.hid (V_y.out.below hb)
  have V_z := Lib.hid (V_z.out.below hb)
  have HT := Lib.hid (HT.out.below hb)
  have HBW := Lib.hid (belowTo HBW.out hb)
  clear hb
  obtain ⟨l_x, a_x, b_x, -, -⟩ := V_x.out.pair.facts
  obtain ⟨l_y, a_y, b_y, -, -⟩ := V_y.out.pair.facts
  obtain ⟨l_z, a_z, b_z, -, -⟩ := V_z.out.pair.facts
  go_wp2_with fail
  refine (may3 x y z A B C c d e0 x1 V_x.out.raw V_y.out.raw V_z.out.raw F_x.out F_y.out F_z.out 24).mono ?_
  rintro e x2 ⟨rfl, hb⟩
  clear l_x a_x b_x l_y a_y b_y l_z a_z b_z
  have V_x := Lib.hid (V_x.out.below hb)
  have V_y := Lib.hid (V_y.out.below hb)
  have V_z := Lib.hid (V_z.out.below hb)
  have HT := Lib.hid (HT.out.below hb)
  have HBW := Lib.hid (belowTo HBW.out hb)
  clear hb
  obtain ⟨l_x, a_x, b_x, -, -⟩ := V_x.out.pair.facts
  obtain ⟨l_y, a_y, b_y, -, -⟩ := V_y.out.pair.facts
  obtain ⟨l_z, a_z, b_z, -, -⟩ := V_z.out.pair.facts
  go_wp2_with fail
  refine (small3 x y z A B C c d e0 x2 F_x.out F_y.out F_z.out 24 false HS.out.symm).mono ?_
  rintro e x3 ⟨rfl, hb⟩
  clear l_x a_x b_x l_y a_y b_y l_z a_z b_z
  have V_x := Lib.hid (V_x.out.below hb)
  have V_y := Lib.hid (V_y.out.below hb)
  have V_z := Lib.hid (V_z.out.below hb)
  have HT := Lib.hid (HT.out.below hb)
  have HBW := Lib.hid (belowTo HBW.out hb)
  clear hb
  go_wp2_with fail
  refine (alive_true x3 HT.out).mono ?_
  rintro e x4 ⟨rfl, hb⟩
  have V_x := Lib.hid (V_x.out.below hb)
  have V_y := Lib.hid (V_y.out.below hb)
  have V_z := Lib.hid (V_z.out.below hb)
  have HT := Lib.hid (HT.out.below hb)
  have HBW := Lib.hid (belowTo HBW.out hb)
  clear hb
  go_wp2_with fail
  go_ret
  exact ⟨rfl, HBW.out⟩

set_option maxRecDepth 100000 in
set_option maxHeartbeats 8000000 in
theorem ring_more (x y z : Int) (A B C : Option Addr) (c d e0 : Nat) (hx : Fit x) (hy : Fit y) (hz : Fit z) (hs : lz x + lz y + lz z + 3 ≤ 2048) (w : World) (h : Raw w A c (natL x.natAbs)) (g : Raw w B d (natL y.natAbs)) (k : Raw w C e0 (natL z.natAbs)) (htab : powTab w) :
    Calls Tryd.prog 5 #[.agg #[.bool (decide (x < 0)), .slice A (natL x.natAbs).length c], .agg #[.bool (decide (y < 0)), .slice B (natL y.natAbs).length d], .agg #[.bool (decide (z < 0)), .slice C (natL z.natAbs).length e0]] w fun e w' => e = .returned (.bool true) ∧ Below w.heap.size w w' := by
  have HS := Lib.hid (decide_eq_true hs)
  obtain ⟨a, h_a⟩ : ∃ z0 : Int, z0 = x + y := ⟨_, rfl⟩
  obtain ⟨l, h_l⟩ : ∃ z0 : Int, z0 = a * z := ⟨_, rfl⟩
  obtain ⟨b1, h_b1⟩ : ∃ z0 : Int, z0 = x * z := ⟨_, rfl⟩
  obtain ⟨b2, h_b2⟩ : ∃ z0 : Int, z0 = y * z := ⟨_, rfl⟩
  obtain ⟨s, h_s⟩ : ∃ z0 : Int, z0 = a + z := ⟨_, rfl⟩
  obtain ⟨t1, h_t1⟩ : ∃ z0 : Int, z0 = z + y := ⟨_, rfl⟩
  obtain ⟨m, h_m⟩ : ∃ z0 : Int, z0 = x * y := ⟨_, rfl⟩
  obtain ⟨p, h_p⟩ : ∃ z0 : Int, z0 = m * z := ⟨_, rfl⟩
  have la := lz_add x y
  have ll := lz_mul a z
  have lb1 := lz_mul x z
  have lb2 := lz_mul y z
  have ls := lz_add a z
  have lt1 := lz_add z y
  have lm := lz_mul x y
  have lp := lz_mul m z
  rw [← h_a] at la
  rw [← h_l] at ll
  rw [← h_b1] at lb1
  rw [← h_b2] at lb2
  rw [← h_s] at ls
  rw [← h_t1] at lt1
  rw [← h_m] at lm
  rw [← h_p] at lp
  have F_a := Lib.hid (show Fit a from by rw [fit_lz]; omega)
  have F_l := Lib.hid (show Fit l from by rw [fit_lz]; omega)
  have F_b1 := Lib.hid (show Fit b1 from by rw [fit_lz]; omega)
  have F_b2 := Lib.hid (show Fit b2 from by rw [fit_lz]; omega)
  have F_s := Lib.hid (show Fit s from by rw [fit_lz]; omega)
  have F_t1 := Lib.hid (show Fit t1 from by rw [fit_lz]; omega)
  have F_m := Lib.hid (show Fit m from by rw [fit_lz]; omega)
  have F_p := Lib.hid (show Fit p from by rw [fit_lz]; omega)
  have H_a := Lib.hid h_a
  have H_l := Lib.hid h_l
  have H_b1 := Lib.hid h_b1
  have H_b2 := Lib.hid h_b2
  have H_s := Lib.hid h_s
  have H_t1 := Lib.hid h_t1
  have H_m := Lib.hid h_m
  have H_p := Lib.hid h_p
  have H_l2 := Lib.hid (show l = b1 + b2 from by rw [h_l, h_a, h_b1, h_b2, Int.add_mul])
  have H_s2 := Lib.hid (show s = x + t1 from by rw [h_s, h_a, h_t1]; omega)
  have H_d := Lib.hid (show a = s - z from by rw [h_s]; omega)
  have H_a2 := Lib.hid (show a = y + x from by rw [h_a]; omega)
  have H_m2 := Lib.hid (show m = y * x from by rw [h_m, Int.mul_comm])
  have H_p2 := Lib.hid (show p = z * m from by rw [h_p, Int.mul_comm])
  have H_c := Lib.hid (show (0 : Int) = cmpz p p from by unfold cmpz; simp)
  clear hs la ll lb1 lb2 ls lt1 lm lp h_a h_l h_b1 h_b2 h_s h_t1 h_m h_p
  have p0 := ((Pair.new w 24 (.bool (decide (x < 0))) (.slice A (natL x.natAbs).length c)).alloc (.cells #[.bool (decide (y < 0)), .slice B (natL y.natAbs).length d] 24)).alloc (.cells #[.bool (decide (z < 0)), .slice C (natL z.natAbs).length e0] 24)
  have p1 := (Pair.new (w.alloc (.cells #[.bool (decide (x < 0)), .slice A (natL x.natAbs).length c] 24)) 24 (.bool (decide (y < 0))) (.slice B (natL y.natAbs).length d)).alloc (.cells #[.bool (decide (z < 0)), .slice C (natL z.natAbs).length e0] 24)
  have p2 := Pair.new ((w.alloc (.cells #[.bool (decide (x < 0)), .slice A (natL x.natAbs).length c] 24)).alloc (.cells #[.bool (decide (y < 0)), .slice B (natL y.natAbs).length d] 24)) 24 (.bool (decide (z < 0))) (.slice C (natL z.natAbs).length e0)
  have b0 := ((((Below.refl w.heap.size w).alloc (Nat.le_refl _) (.cells #[.bool (decide (x < 0)), .slice A (natL x.natAbs).length c] 24)).alloc (by simp) (.cells #[.bool (decide (y < 0)), .slice B (natL y.natAbs).length d] 24)).alloc (by simp; omega) (.cells #[.bool (decide (z < 0)), .slice C (natL z.natAbs).length e0] 24))
  simp only [World.size_alloc] at p1 p2
  have V_x := Lib.hid (NV.of h b0 p0)
  have V_y := Lib.hid (NV.of g b0 p1)
  have V_z := Lib.hid (NV.of k b0 p2)
  have F_x := Lib.hid hx
  have F_y := Lib.hid hy
  have F_z := Lib.hid hz
  have HT := Lib.hid (htab.below b0)
  have HBW := Lib.hid b0
  clear h g k htab p0 p1 p2 b0 hx hy hz
  go_enter Tryd.func5, Tryd.ntmps5
  obtain ⟨W, E⟩ : ∃ W, W = (((w.alloc (.cells #[.bool (decide (x < 0)), .slice A (natL x.natAbs).length c] 24)).alloc (.cells #[.bool (decide (y < 0)), .slice B (natL y.natAbs).length d] 24)).alloc (.cells #[.bool (decide (z < 0)), .slice C (natL z.natAbs).length e0] 24)) := ⟨_, rfl⟩
  go_upto_region 1 with fail
  rw [← E] at V_x V_y V_z HT HBW ⊢
  clear E
  go_wp2_with fail
  refine (alive_true W HT.out).mono ?_
  rintro e x1 ⟨rfl, hb⟩
  have V_x := Lib.hid (V_x.out.below hb)
  have V_y := Lib.hid (V_y.out.below hb)
  have V_z := Lib.hid (V_z.out.below hb)
  have HT := Lib.hid (HT.out.below hb)
  have HBW := Lib.hid (belowTo HBW.out hb)
  clear hb
  obtain ⟨l_x, a_x, b_x, -, -⟩ := V_x.out.pair.facts
  obtain ⟨l_y, a_y, b_y, -, -⟩ := V_y.out.pair.facts
  obtain ⟨l_z, a_z, b_z, -, -⟩ := V_z.out.pair.facts
  go_wp2_with fail
  refine (may3 x y z A B C c d e0 x1 V_x.out.raw V_y.out.raw V_z.out.raw F_x.out F_y.out F_z.out 24).mono ?_
  rintro e x2 ⟨rfl, hb⟩
  clear l_x a_x b_x l_y a_y b_y l_z a_z b_z
  have V_x := Lib.hid (V_x.out.below hb)
  have V_y := Lib.hid (V_y.out.below hb)
  have V_z := Lib.hid (V_z.out.below hb)
  have HT := Lib.hid (HT.out.below hb)
  have HBW := Lib.hid (belowTo HBW.out hb)
  clear hb
  obtain ⟨l_x, a_x, b_x, -, -⟩ := V_x.out.pair.facts
  obtain ⟨l_y, a_y, b_y, -, -⟩ := V_y.out.pair.facts
  obtain ⟨l_z, a_z, b_z, -, -⟩ := V_z.out.pair.facts
  go_wp2_with fail
  refine (small3 x y z A B C c d e0 x2 F_x.out F_y.out F_z.out 24 true HS.out.symm).mono ?_
  rintro e x3 ⟨rfl, hb⟩
  clear l_x a_x b_x l_y a_y b_y l_z a_z b_z
  have V_x := Lib.hid (V_x.out.below hb)
  have V_y := Lib.hid (V_y.out.below hb)
  have V_z := Lib.hid (V_z.out.below hb)
  have HT := Lib.hid (HT.out.below hb)
  have HBW := Lib.hid (belowTo HBW.out hb)
  clear hb
  go_upto_region 4 with fail
  have ha := (Below.refl x3.heap.size x3).alloc (Nat.le_refl _) (.cells #[.bool true] 4)
  have hp := Blk.new x3 4 #[.bool true]
  obtain ⟨Y, E⟩ : ∃ Y, Y = x3.alloc (.cells #[.bool true] 4) := ⟨_, rfl⟩
  rw [← E] at ha hp ⊢
  have V_x := Lib.hid (V_x.out.below ha)
  have V_y := Lib.hid (V_y.out.below ha)
  have V_z := Lib.hid (V_z.out.below ha)
  have HT := Lib.hid (HT.out.below ha)
  have HBW := Lib.hid (belowTo HBW.out ha)
  obtain ⟨pk, hpp⟩ : ∃ p, p = x3.heap.size := ⟨_, rfl⟩
  rw [← hpp] at hp ⊢
  have HP := Lib.hid hp
  clear E ha hp hpp
  refine wp_region_free [.val (.agg #[.bool (decide (x < 0)), .slice A (natL x.natAbs).length c]) [], .val (.agg #[.bool (decide (y < 0)), .slice B (natL y.natAbs).length d]) [], .any false (fun u0 V => IntOwn V 0 u0 a) [], .val (.agg #[.bool (decide (z < 0)), .slice C (natL z.natAbs).length e0]) [], .any false (fun u0 V => IntOwn V 0 u0 l) [2], .new 24 2, .put 24 2 5 4 []] Y.heap.size Y [24] (fun _ _ => False) _ mixedOrders2 (Nat.le_refl _) (Below.refl _ _) (KeptV.refl _ _ _) rfl (by kernel_rfl) (by kernel_rfl) (by kernel_rfl) (by kernel_rfl) (by kernel_rfl) (by kernel_rfl) (by kernel_rfl) (by kernel_rfl) rfl (by simp [oldsF]) ?_ ?_ ?_ ?_
  · simp only [StableF, and_true]
    exact ⟨fun u0 V V' h k => h.kept k (by decide), fun u0 V V' h k => h.kept k (by decide)⟩
  · simp only [OldsF]
  · simp (maxSteps := 4000000) [StepsF, DepF, freeAct, fill, pairs]
    repeat' (first | apply And.intro | (intro (u0 : Value)) | (intro (u0 : Nat)))
    all_goals try exact ⟨_, _, _, rfl, rfl, rfl, rfl, intInfo⟩
    all_goals try exact allocInt rfl
    all_goals first
    | (intro V hV hK
       obtain ⟨-, a_x, b_x, -, -⟩ := (V_x.out.below hV).pair.facts
       have r_x := Lib.hid (V_x.out.below hV).raw
       obtain ⟨-, a_y, b_y, -, -⟩ := (V_y.out.below hV).pair.facts
       have r_y := Lib.hid (V_y.out.below hV).raw
       obtain ⟨-, a_z, b_z, -, -⟩ := (V_z.out.below hV).pair.facts
       have r_z := Lib.hid (V_z.out.below hV).raw
       have pp := Lib.hid (HP.out.below hV HP.out.lt)
       clear hV hK
       go_simp
       first
       | exact Below.refl _ _
       | ((with_reducible refine (sum_o x y a A B c d pk F_x.out F_y.out V r_x.out r_y.out pp.out H_a.out F_a.out).mono ?_); rintro e w' ⟨v, rfl, hv, hb⟩; exact ⟨hv.base (Nat.zero_le _), hb⟩))
    | (intro V hV hK hu0
       obtain ⟨A'0, c'0, rfl, hr0⟩ := hu0.raw
       have r'0 := Lib.hid hr0
       obtain ⟨-, a_x, b_x, -, -⟩ := (V_x.out.below hV).pair.facts
       have r_x := Lib.hid (V_x.out.below hV).raw
       obtain ⟨-, a_y, b_y, -, -⟩ := (V_y.out.below hV).pair.facts
       have r_y := Lib.hid (V_y.out.below hV).raw
       obtain ⟨-, a_z, b_z, -, -⟩ := (V_z.out.below hV).pair.facts
       have r_z := Lib.hid (V_z.out.below hV).raw
       have pp := Lib.hid (HP.out.below hV HP.out.lt)
       clear hV hK hu0 hr0
       go_simp
       ((with_reducible refine (times_o a z l A'0 C c'0 e0 pk F_a.out F_z.out V r'0.out r_z.out pp.out H_l.out F_l.out).mono ?_); rintro e w' ⟨v, rfl, hv, hb⟩; exact ⟨hv.base (Nat.zero_le _), hb⟩))
    | exact fun _ _ _ (h : IntOwn _ _ _ _) => h.cells
    | exact fun _ _ _ (h : IntOwn _ _ _ _) _ => h.cells
  · simp [EndF, FactsF, freeAct, fill, pairs]
    intro u4_0 u4_1 bs4 hbs V hV hK h4_0 h4_1 p1 _ _ _
    obtain ⟨A4, c4, rfl, r1⟩ := h4_1.raw
    have V_l1 := Lib.hid (show NV V bs4 l A4 c4 from ⟨⟨p1⟩, r1⟩)
    have V_x := Lib.hid (V_x.out.below hV)
    have V_y := Lib.hid (V_y.out.below hV)
    have V_z := Lib.hid (V_z.out.below hV)
    have HT := Lib.hid (HT.out.below hV)
    have HP := Lib.hid (HP.out.below hV HP.out.lt)
    have HBW := Lib.hid (belowTo HBW.out hV)
    clear hV hK h4_0 h4_1 p1 r1 hbs
    obtain ⟨v4, hV0⟩ : ∃ Y, Y = V := ⟨_, rfl⟩
    rw [← hV0] at HT HBW HP V_x V_y V_z V_l1  ⊢
    clear hV0
    go_wp2_with fail
    refine wp_region_free [.val (.agg #[.bool (decide (x < 0)), .slice A (natL x.natAbs).length c]) [], .val (.agg #[.bool (decide (z < 0)), .slice C (natL z.natAbs).length e0]) [], .any false (fun u0 V => IntOwn V 0 u0 b1) [], .val (.agg #[.bool (decide (y < 0)), .slice B (natL y.natAbs).length d]) [], .val (.agg #[.bool (decide (z < 0)), .slice C (natL z.natAbs).length e0]) [], .any false (fun u0 V => IntOwn V 0 u0 b2) [], .any false (fun u0 V => IntOwn V 0 u0 l) [2, 5], .new 24 2, .put 24 2 7 6 []] v4.heap.size v4 [24] (fun _ _ => False) _ mixedOrders2 (Nat.le_refl _) (Below.refl _ _) (KeptV.refl _ _ _) rfl (by kernel_rfl) (by kernel_rfl) (by kernel_rfl) (by kernel_rfl) (by kernel_rfl) (by kernel_rfl) (by kernel_rfl) (by kernel_rfl) rfl (by simp [oldsF]) ?_ ?_ ?_ ?_
    · simp only [StableF, and_true]
      exact ⟨fun u0 V V' h k => h.kept k (by decide), fun u0 V V' h k => h.kept k (by decide), fun u0 V V' h k => h.kept k (by decide)⟩
    · simp only [OldsF]
    · simp (maxSteps := 4000000) [StepsF, DepF, freeAct, fill, pairs]
      repeat' (first | apply And.intro | (intro (u0 : Value)) | (intro (u0 : Nat)))
      all_goals try exact ⟨_, _, _, rfl, rfl, rfl, rfl, intInfo⟩
      all_goals try exact allocInt rfl
      all_goals first
      | (intro V hV hK
         obtain ⟨-, a_x, b_x, -, -⟩ := (V_x.out.below hV).pair.facts
         have r_x := Lib.hid (V_x.out.below hV).raw
         obtain ⟨-, a_y, b_y, -, -⟩ := (V_y.out.below hV).pair.facts
         have r_y := Lib.hid (V_y.out.below hV).raw
         obtain ⟨-, a_z, b_z, -, -⟩ := (V_z.out.below hV).pair.facts
         have r_z := Lib.hid (V_z.out.below hV).raw
         have pp := Lib.hid (HP.out.below hV HP.out.lt)
         clear hV hK
         go_simp
         first
         | exact Below.refl _ _
         | ((with_reducible refine (times_o x z b1 A C c e0 pk F_x.out F_z.out V r_x.out r_z.out pp.out H_b1.out F_b1.out).mono ?_); rintro e w' ⟨v, rfl, hv, hb⟩; exact ⟨hv.base (Nat.zero_le _), hb⟩)
         | ((with_reducible refine (times_o y z b2 B C d e0 pk F_y.out F_z.out V r_y.out r_z.out pp.out H_b2.out F_b2.out).mono ?_); rintro e w' ⟨v, rfl, hv, hb⟩; exact ⟨hv.base (Nat.zero_le _), hb⟩))
      | (intro V hV hK hu0 hu1
         obtain ⟨A'0, c'0, rfl, hr0⟩ := hu0.raw
         have r'0 := Lib.hid hr0
         obtain ⟨A'1, c'1, rfl, hr1⟩ := hu1.raw
         have r'1 := Lib.hid hr1
         obtain ⟨-, a_x, b_x, -, -⟩ := (V_x.out.below hV).pair.facts
         have r_x := Lib.hid (V_x.out.below hV).raw
         obtain ⟨-, a_y, b_y, -, -⟩ := (V_y.out.below hV).pair.facts
         have r_y := Lib.hid (V_y.out.below hV).raw
         obtain ⟨-, a_z, b_z, -, -⟩ := (V_z.out.below hV).pair.facts
         have r_z := Lib.hid (V_z.out.below hV).raw
         have pp := Lib.hid (HP.out.below hV HP.out.lt)
         clear hV hK hu0 hu1 hr0 hr1
         go_simp
         ((with_reducible refine (sum_o b1 b2 l A'0 A'1 c'0 c'1 pk F_b1.out F_b2.out V r'0.out r'1.out pp.out H_l2.out F_l.out).mono ?_); rintro e w' ⟨v, rfl, hv, hb⟩; exact ⟨hv.base (Nat.zero_le _), hb⟩))
      | exact fun _ _ _ (h : IntOwn _ _ _ _) => h.cells
      | exact fun _ _ _ (h : IntOwn _ _ _ _) _ => h.cells
    · simp [EndF, FactsF, freeAct, fill, pairs]
      intro u5_0 u5_1 u5_2 bs5 hbs V hV hK h5_0 h5_1 h5_2 p1 _ _ _
      obtain ⟨A5, c5, rfl, r1⟩ := h5_2.raw
      have V_l2 := Lib.hid (show NV V bs5 l A5 c5 from ⟨⟨p1⟩, r1⟩)
      have V_x := Lib.hid (V_x.out.below hV)
      have V_y := Lib.hid (V_y.out.below hV)
      have V_z := Lib.hid (V_z.out.below hV)
      have V_l1 := Lib.hid (V_l1.out.below hV)
      have HT := Lib.hid (HT.out.below hV)
      have HP := Lib.hid (HP.out.below hV HP.out.lt)
      have HBW := Lib.hid (belowTo HBW.out hV)
      clear hV hK h5_0 h5_1 h5_2 p1 r1 hbs
      obtain ⟨v5, hV0⟩ : ∃ Y, Y = V := ⟨_, rfl⟩
      rw [← hV0] at HT HBW HP V_x V_y V_z V_l1 V_l2  ⊢
      clear hV0
      have hok := HP.out.cell 0
      have hkl := HP.out.lt
      simp at hok
      obtain ⟨l_l1, a_l1, b_l1, -, -⟩ := V_l1.out.pair.facts
      obtain ⟨l_l2, a_l2, b_l2, -, -⟩ := V_l2.out.pair.facts
      go_wp2_with fail
      refine (same_z l l A4 A5 c4 c5 v5 V_l1.out.raw V_l2.out.raw true (by simp)).mono ?_
      rintro e x6 ⟨rfl, hb⟩
      clear l_l1 a_l1 b_l1 l_l2 a_l2 b_l2
      have V_x := Lib.hid (V_x.out.below hb)
      have V_y := Lib.hid (V_y.out.below hb)
      have V_z := Lib.hid (V_z.out.below hb)
      have V_l1 := Lib.hid (V_l1.out.below hb)
      have V_l2 := Lib.hid (V_l2.out.below hb)
      have HT := Lib.hid (HT.out.below hb)
      have HP := Lib.hid (HP.out.below hb HP.out.lt)
      have HBW := Lib.hid (belowTo HBW.out hb)
      clear hb
      clear hok hkl
      go_upto_region 8 with fail
      clear V_l1 V_l2
      refine wp_region_free [.val (.agg #[.bool (decide (x < 0)), .slice A (natL x.natAbs).length c]) [], .val (.agg #[.bool (decide (y < 0)), .slice B (natL y.natAbs).length d]) [], .any false (fun u0 V => IntOwn V 0 u0 a) [], .val (.agg #[.bool (decide (z < 0)), .slice C (natL z.natAbs).length e0]) [], .any false (fun u0 V => IntOwn V 0 u0 s) [2], .new 24 2, .put 24 2 5 4 []] x6.heap.size x6 [24] (fun _ _ => False) _ mixedOrders2 (Nat.le_refl _) (Below.refl _ _) (KeptV.refl _ _ _) rfl (by kernel_rfl) (by kernel_rfl) (by kernel_rfl) (by kernel_rfl) (by kernel_rfl) (by kernel_rfl) (by kernel_rfl) (by kernel_rfl) rfl (by simp [oldsF]) ?_ ?_ ?_ ?_
      · simp only [StableF, and_true]
        exact ⟨fun u0 V V' h k => h.kept k (by decide), fun u0 V V' h k => h.kept k (by decide)⟩
      · simp only [OldsF]
      · simp (maxSteps := 4000000) [StepsF, DepF, freeAct, fill, pairs]
        repeat' (first | apply And.intro | (intro (u0 : Value)) | (intro (u0 : Nat)))
        all_goals try exact ⟨_, _, _, rfl, rfl, rfl, rfl, intInfo⟩
        all_goals try exact allocInt rfl
        all_goals first
        | (intro V hV hK
           obtain ⟨-, a_x, b_x, -, -⟩ := (V_x.out.below hV).pair.facts
           have r_x := Lib.hid (V_x.out.below hV).raw
           obtain ⟨-, a_y, b_y, -, -⟩ := (V_y.out.below hV).pair.facts
           have r_y := Lib.hid (V_y.out.below hV).raw
           obtain ⟨-, a_z, b_z, -, -⟩ := (V_z.out.below hV).pair.facts
           have r_z := Lib.hid (V_z.out.below hV).raw
           have pp := Lib.hid (HP.out.below hV HP.out.lt)
           clear hV hK
           go_simp
           first
           | exact Below.refl _ _
           | ((with_reducible refine (sum_o x y a A B c d pk F_x.out F_y.out V r_x.out r_y.out pp.out H_a.out F_a.out).mono ?_); rintro e w' ⟨v, rfl, hv, hb⟩; exact ⟨hv.base (Nat.zero_le _), hb⟩))
        | (intro V hV hK hu0
           obtain ⟨A'0, c'0, rfl, hr0⟩ := hu0.raw
           have r'0 := Lib.hid hr0
           obtain ⟨-, a_x, b_x, -, -⟩ := (V_x.out.below hV).pair.facts
           have r_x := Lib.hid (V_x.out.below hV).raw
           obtain ⟨-, a_y, b_y, -, -⟩ := (V_y.out.below hV).pair.facts
           have r_y := Lib.hid (V_y.out.below hV).raw
           obtain ⟨-, a_z, b_z, -, -⟩ := (V_z.out.below hV).pair.facts
           have r_z := Lib.hid (V_z.out.below hV).raw
           have pp := Lib.hid (HP.out.below hV HP.out.lt)
           clear hV hK hu0 hr0
           go_simp
           ((with_reducible refine (sum_o a z s A'0 C c'0 e0 pk F_a.out F_z.out V r'0.out r_z.out pp.out H_s.out F_s.out).mono ?_); rintro e w' ⟨v, rfl, hv, hb⟩; exact ⟨hv.base (Nat.zero_le _), hb⟩))
        | exact fun _ _ _ (h : IntOwn _ _ _ _) => h.cells
        | exact fun _ _ _ (h : IntOwn _ _ _ _) _ => h.cells
      · simp [EndF, FactsF, freeAct, fill, pairs]
        intro u7_0 u7_1 bs7 hbs V hV hK h7_0 h7_1 p1 _ _ _
        obtain ⟨A7, c7, rfl, r1⟩ := h7_1.raw
        have V_s1 := Lib.hid (show NV V bs7 s A7 c7 from ⟨⟨p1⟩, r1⟩)
        have V_x := Lib.hid (V_x.out.below hV)
        have V_y := Lib.hid (V_y.out.below hV)
        have V_z := Lib.hid (V_z.out.below hV)
        have HT := Lib.hid (HT.out.below hV)
        have HP := Lib.hid (HP.out.below hV HP.out.lt)
        have HBW := Lib.hid (belowTo HBW.out hV)
        clear hV hK h7_0 h7_1 p1 r1 hbs
        obtain ⟨v7, hV0⟩ : ∃ Y, Y = V := ⟨_, rfl⟩
        rw [← hV0] at HT HBW HP V_x V_y V_z V_s1  ⊢
        clear hV0
        go_wp2_with fail
        refine wp_region_free [.val (.agg #[.bool (decide (x < 0)), .slice A (natL x.natAbs).length c]) [], .val (.agg #[.bool (decide (z < 0)), .slice C (natL z.natAbs).length e0]) [], .val (.agg #[.bool (decide (y < 0)), .slice B (natL y.natAbs).length d]) [], .any false (fun u0 V => IntOwn V 0 u0 t1) [], .any false (fun u0 V => IntOwn V 0 u0 s) [3], .new 24 2, .put 24 2 5 4 []] v7.heap.size v7 [24] (fun _ _ => False) _ mixedOrders2 (Nat.le_refl _) (Below.refl _ _) (KeptV.refl _ _ _) rfl (by kernel_rfl) (by kernel_rfl) (by kernel_rfl) (by kernel_rfl) (by kernel_rfl) (by kernel_rfl) (by kernel_rfl) (by kernel_rfl) rfl (by simp [oldsF]) ?_ ?_ ?_ ?_
        · simp only [StableF, and_true]
          exact ⟨fun u0 V V' h k => h.kept k (by decide), fun u0 V V' h k => h.kept k (by decide)⟩
        · simp only [OldsF]
        · simp (maxSteps := 4000000) [StepsF, DepF, freeAct, fill, pairs]
          repeat' (first | apply And.intro | (intro (u0 : Value)) | (intro (u0 : Nat)))
          all_goals try exact ⟨_, _, _, rfl, rfl, rfl, rfl, intInfo⟩
          all_goals try exact allocInt rfl
          all_goals first
          | (intro V hV hK
             obtain ⟨-, a_x, b_x, -, -⟩ := (V_x.out.below hV).pair.facts
             have r_x := Lib.hid (V_x.out.below hV).raw
             obtain ⟨-, a_y, b_y, -, -⟩ := (V_y.out.below hV).pair.facts
             have r_y := Lib.hid (V_y.out.below hV).raw
             obtain ⟨-, a_z, b_z, -, -⟩ := (V_z.out.below hV).pair.facts
             have r_z := Lib.hid (V_z.out.below hV).raw
             have pp := Lib.hid (HP.out.below hV HP.out.lt)
             clear hV hK
             go_simp
             first
             | exact Below.refl _ _
             | ((with_reducible refine (sum_o z y t1 C B e0 d pk F_z.out F_y.out V r_z.out r_y.out pp.out H_t1.out F_t1.out).mono ?_); rintro e w' ⟨v, rfl, hv, hb⟩; exact ⟨hv.base (Nat.zero_le _), hb⟩))
          | (intro V hV hK hu0
             obtain ⟨A'0, c'0, rfl, hr0⟩ := hu0.raw
             have r'0 := Lib.hid hr0
             obtain ⟨-, a_x, b_x, -, -⟩ := (V_x.out.below hV).pair.facts
             have r_x := Lib.hid (V_x.out.below hV).raw
             obtain ⟨-, a_y, b_y, -, -⟩ := (V_y.out.below hV).pair.facts
             have r_y := Lib.hid (V_y.out.below hV).raw
             obtain ⟨-, a_z, b_z, -, -⟩ := (V_z.out.below hV).pair.facts
             have r_z := Lib.hid (V_z.out.below hV).raw
             have pp := Lib.hid (HP.out.below hV HP.out.lt)
             clear hV hK hu0 hr0
             go_simp
             ((with_reducible refine (sum_o x t1 s A A'0 c c'0 pk F_x.out F_t1.out V r_x.out r'0.out pp.out H_s2.out F_s.out).mono ?_); rintro e w' ⟨v, rfl, hv, hb⟩; exact ⟨hv.base (Nat.zero_le _), hb⟩))
          | exact fun _ _ _ (h : IntOwn _ _ _ _) => h.cells
          | exact fun _ _ _ (h : IntOwn _ _ _ _) _ => h.cells
        · simp [EndF, FactsF, freeAct, fill, pairs]
          intro u8_0 u8_1 bs8 hbs V hV hK h8_0 h8_1 p1 _ _ _
          obtain ⟨A8, c8, rfl, r1⟩ := h8_1.raw
          have V_s2 := Lib.hid (show NV V bs8 s A8 c8 from ⟨⟨p1⟩, r1⟩)
          have V_x := Lib.hid (V_x.out.below hV)
          have V_y := Lib.hid (V_y.out.below hV)
          have V_z := Lib.hid (V_z.out.below hV)
          have V_s1 := Lib.hid (V_s1.out.below hV)
          have HT := Lib.hid (HT.out.below hV)
          have HP := Lib.hid (HP.out.below hV HP.out.lt)
          have HBW := Lib.hid (belowTo HBW.out hV)
          clear hV hK h8_0 h8_1 p1 r1 hbs
          obtain ⟨v8, hV0⟩ : ∃ Y, Y = V := ⟨_, rfl⟩
          rw [← hV0] at HT HBW HP V_x V_y V_z V_s1 V_s2  ⊢
          clear hV0
          obtain ⟨l_s1, a_s1, b_s1, -, -⟩ := V_s1.out.pair.facts
          obtain ⟨l_z, a_z, b_z, -, -⟩ := V_z.out.pair.facts
          go_wp2_with fail
          refine (sub_z s z a A7 C c7 e0 F_s.out F_z.out v8 V_s1.out.raw V_z.out.raw H_d.out F_a.out).mono ?_
          rintro e x9 ⟨Ad, cd, rfl, rd, hb⟩
          clear l_s1 a_s1 b_s1 l_z a_z b_z
          have V_x := Lib.hid (V_x.out.below hb)
          have V_y := Lib.hid (V_y.out.below hb)
          have V_z := Lib.hid (V_z.out.below hb)
          have V_s1 := Lib.hid (V_s1.out.below hb)
          have V_s2 := Lib.hid (V_s2.out.below hb)
          have HT := Lib.hid (HT.out.below hb)
          have HP := Lib.hid (HP.out.below hb HP.out.lt)
          have HBW := Lib.hid (belowTo HBW.out hb)
          have R_d := Lib.hid rd
          clear hb rd
          go_upto_region 11 with fail
          have ha := ((Below.refl x9.heap.size x9).alloc (Nat.le_refl _) (.cells #[.bool (decide (a < 0)), .slice Ad (natL a.natAbs).length cd] 24))
          have p_d := (Pair.new x9 24 (.bool (decide (a < 0))) (.slice Ad (natL a.natAbs).length cd))
          obtain ⟨y10, E⟩ : ∃ W, W = (x9.alloc (.cells #[.bool (decide (a < 0)), .slice Ad (natL a.natAbs).length cd] 24)) := ⟨_, rfl⟩
          rw [← E] at ha p_d ⊢
          have V_d := Lib.hid (NV.of R_d.out ha p_d)
          have V_x := Lib.hid (V_x.out.below ha)
          have V_y := Lib.hid (V_y.out.below ha)
          have V_z := Lib.hid (V_z.out.below ha)
          have V_s1 := Lib.hid (V_s1.out.below ha)
          have V_s2 := Lib.hid (V_s2.out.below ha)
          have HT := Lib.hid (HT.out.below ha)
          have HP := Lib.hid (HP.out.below ha HP.out.lt)
          have HBW := Lib.hid (belowTo HBW.out ha)
          obtain ⟨g10, hg⟩ : ∃ g, g = x9.heap.size := ⟨_, rfl⟩
          rw [← hg] at V_d ⊢
          clear E ha hg p_d
          obtain ⟨W0, hW⟩ : ∃ W0, W0 = y10 := ⟨_, rfl⟩
          rw [← hW] at HBW HT HP V_x V_y V_z V_s1 V_s2 V_d  ⊢
          clear hW
          refine wp_region_free [.val (.bool true) [], .val (.bool false) [], .val (.bool false) [], .val (.int .i64 0) [], .val (.bool false) [], .val (.bool false) [], .val (.bool false) [], .val (.agg #[.bool (decide (s < 0)), .slice A7 (natL s.natAbs).length c7]) [], .val (.agg #[.bool (decide (s < 0)), .slice A8 (natL s.natAbs).length c8]) [], .val (.bool true) [], .val (.bool false) [], .val (.bool false) [], .val (.bool false) [], .val (.agg #[.bool (decide (a < 0)), .slice Ad (natL a.natAbs).length cd]) [], .val (.agg #[.bool (decide (y < 0)), .slice B (natL y.natAbs).length d]) [], .val (.agg #[.bool (decide (x < 0)), .slice A (natL x.natAbs).length c]) [], .any false (fun u0 V => IntAt V u0 a) [], .val (.bool true) [16], .val (.bool false) [], .val (.bool false) []] W0.heap.size W0 [] (fun _ _ => False) _ mixedOrders2 (Nat.le_refl _) (Below.refl _ _) (KeptV.refl _ _ _) rfl (by kernel_rfl) (by kernel_rfl) (by kernel_rfl) (by kernel_rfl) (by kernel_rfl) (by kernel_rfl) (by kernel_rfl) (by kernel_rfl) rfl (by simp [oldsF]) ?_ ?_ ?_ ?_
          · simp only [StableF, and_true]
            exact fun u0 V V' h k => h.keptNone k
          · simp only [OldsF]
          · simp (maxSteps := 4000000) [StepsF, DepF, freeAct, fill, pairs]
            repeat' (first | apply And.intro | (intro (u0 : Value)))
            all_goals first
            | (intro V hV hK
               obtain ⟨-, a_x, b_x, -, -⟩ := (V_x.out.below hV).pair.facts
               have r_x := Lib.hid (V_x.out.below hV).raw
               obtain ⟨-, a_y, b_y, -, -⟩ := (V_y.out.below hV).pair.facts
               have r_y := Lib.hid (V_y.out.below hV).raw
               obtain ⟨-, a_s1, b_s1, -, -⟩ := (V_s1.out.below hV).pair.facts
               have r_s1 := Lib.hid (V_s1.out.below hV).raw
               obtain ⟨-, a_s2, b_s2, -, -⟩ := (V_s2.out.below hV).pair.facts
               have r_s2 := Lib.hid (V_s2.out.below hV).raw
               obtain ⟨-, a_d, b_d, -, -⟩ := (V_d.out.below hV).pair.facts
               have r_d := Lib.hid (V_d.out.below hV).raw
               have pp := Lib.hid (HP.out.below hV HP.out.lt)
               have hok := pp.out.cell 0
               have hkl := pp.out.lt
               simp at hok
               clear hV hK
               go_simp
               first
               | exact Below.refl _ _
               | exact ⟨by first | rfl | decide | go_num, Below.refl _ _⟩
               | ((with_reducible refine (same_z s s A7 A8 c7 c8 V r_s1.out r_s2.out true (by simp)).mono ?_); rintro e w' ⟨rfl, hb⟩; exact ⟨rfl, hb⟩)
               | ((with_reducible refine (sum_z y x a B A d c pk F_y.out F_x.out V r_y.out r_x.out pp.out H_a2.out F_a.out).mono ?_); rintro e w' ⟨A', c', rfl, hr, hb⟩; exact ⟨⟨A', c', rfl, hr⟩, hb⟩))
            | (intro V hV hK hu
               obtain ⟨A', c', rfl, hr⟩ := hu.form
               have r_d := Lib.hid (V_d.out.below hV).raw
               have r' := Lib.hid hr
               clear hV hK hu hr
               go_simp
               (with_reducible refine (same_z a a Ad A' cd c' V r_d.out r'.out true (by simp)).mono ?_)
               rintro e w' ⟨rfl, hb⟩
               exact ⟨rfl, hb⟩)
          · simp [EndF, FactsF, freeAct, fill, pairs]
            intro u1 V hV hK _ _ _ _
            have V_x := Lib.hid (V_x.out.below hV)
            have V_y := Lib.hid (V_y.out.below hV)
            have V_z := Lib.hid (V_z.out.below hV)
            have V_s1 := Lib.hid (V_s1.out.below hV)
            have V_s2 := Lib.hid (V_s2.out.below hV)
            have V_d := Lib.hid (V_d.out.below hV)
            have HT := Lib.hid (HT.out.below hV)
            have HP := Lib.hid (HP.out.below hV HP.out.lt)
            have HBW := Lib.hid (belowTo HBW.out hV)
            clear hV hK
            obtain ⟨v11, hV0⟩ : ∃ Y, Y = V := ⟨_, rfl⟩
            rw [← hV0] at HBW HT HP V_x V_y V_z V_s1 V_s2 V_d  ⊢
            clear hV0
            go_upto_region 13 with fail
            clear V_s1 V_s2 V_d
            refine wp_region_free [.val (.agg #[.bool (decide (x < 0)), .slice A (natL x.natAbs).length c]) [], .val (.agg #[.bool (decide (y < 0)), .slice B (natL y.natAbs).length d]) [], .any false (fun u0 V => IntOwn V 0 u0 m) [], .val (.agg #[.bool (decide (z < 0)), .slice C (natL z.natAbs).length e0]) [], .any false (fun u0 V => IntOwn V 0 u0 p) [2], .new 24 2, .put 24 2 5 4 []] v11.heap.size v11 [24] (fun _ _ => False) _ mixedOrders2 (Nat.le_refl _) (Below.refl _ _) (KeptV.refl _ _ _) rfl (by kernel_rfl) (by kernel_rfl) (by kernel_rfl) (by kernel_rfl) (by kernel_rfl) (by kernel_rfl) (by kernel_rfl) (by kernel_rfl) rfl (by simp [oldsF]) ?_ ?_ ?_ ?_
            · simp only [StableF, and_true]
              exact ⟨fun u0 V V' h k => h.kept k (by decide), fun u0 V V' h k => h.kept k (by decide)⟩
            · simp only [OldsF]
            · simp (maxSteps := 4000000) [StepsF, DepF, freeAct, fill, pairs]
              repeat' (first | apply And.intro | (intro (u0 : Value)) | (intro (u0 : Nat)))
              all_goals try exact ⟨_, _, _, rfl, rfl, rfl, rfl, intInfo⟩
              all_goals try exact allocInt rfl
              all_goals first
              | (intro V hV hK
                 obtain ⟨-, a_x, b_x, -, -⟩ := (V_x.out.below hV).pair.facts
                 have r_x := Lib.hid (V_x.out.below hV).raw
                 obtain ⟨-, a_y, b_y, -, -⟩ := (V_y.out.below hV).pair.facts
                 have r_y := Lib.hid (V_y.out.below hV).raw
                 obtain ⟨-, a_z, b_z, -, -⟩ := (V_z.out.below hV).pair.facts
                 have r_z := Lib.hid (V_z.out.below hV).raw
                 have pp := Lib.hid (HP.out.below hV HP.out.lt)
                 clear hV hK
                 go_simp
                 first
                 | exact Below.refl _ _
                 | ((with_reducible refine (times_o x y m A B c d pk F_x.out F_y.out V r_x.out r_y.out pp.out H_m.out F_m.out).mono ?_); rintro e w' ⟨v, rfl, hv, hb⟩; exact ⟨hv.base (Nat.zero_le _), hb⟩))
              | (intro V hV hK hu0
                 obtain ⟨A'0, c'0, rfl, hr0⟩ := hu0.raw
                 have r'0 := Lib.hid hr0
                 obtain ⟨-, a_x, b_x, -, -⟩ := (V_x.out.below hV).pair.facts
                 have r_x := Lib.hid (V_x.out.below hV).raw
                 obtain ⟨-, a_y, b_y, -, -⟩ := (V_y.out.below hV).pair.facts
                 have r_y := Lib.hid (V_y.out.below hV).raw
                 obtain ⟨-, a_z, b_z, -, -⟩ := (V_z.out.below hV).pair.facts
                 have r_z := Lib.hid (V_z.out.below hV).raw
                 have pp := Lib.hid (HP.out.below hV HP.out.lt)
                 clear hV hK hu0 hr0
                 go_simp
                 ((with_reducible refine (times_o m z p A'0 C c'0 e0 pk F_m.out F_z.out V r'0.out r_z.out pp.out H_p.out F_p.out).mono ?_); rintro e w' ⟨v, rfl, hv, hb⟩; exact ⟨hv.base (Nat.zero_le _), hb⟩))
              | exact fun _ _ _ (h : IntOwn _ _ _ _) => h.cells
              | exact fun _ _ _ (h : IntOwn _ _ _ _) _ => h.cells
            · simp [EndF, FactsF, freeAct, fill, pairs]
              intro u12_0 u12_1 bs12 hbs V hV hK h12_0 h12_1 p1 _ _ _
              obtain ⟨A12, c12, rfl, r1⟩ := h12_1.raw
              have V_p1 := Lib.hid (show NV V bs12 p A12 c12 from ⟨⟨p1⟩, r1⟩)
              have V_x := Lib.hid (V_x.out.below hV)
              have V_y := Lib.hid (V_y.out.below hV)
              have V_z := Lib.hid (V_z.out.below hV)
              have HT := Lib.hid (HT.out.below hV)
              have HP := Lib.hid (HP.out.below hV HP.out.lt)
              have HBW := Lib.hid (belowTo HBW.out hV)
              clear hV hK h12_0 h12_1 p1 r1 hbs
              obtain ⟨v12, hV0⟩ : ∃ Y, Y = V := ⟨_, rfl⟩
              rw [← hV0] at HT HBW HP V_x V_y V_z V_p1  ⊢
              clear hV0
              go_wp2_with fail
              refine wp_region_free [.val (.agg #[.bool (decide (z < 0)), .slice C (natL z.natAbs).length e0]) [], .val (.agg #[.bool (decide (y < 0)), .slice B (natL y.natAbs).length d]) [], .val (.agg #[.bool (decide (x < 0)), .slice A (natL x.natAbs).length c]) [], .any false (fun u0 V => IntOwn V 0 u0 m) [], .any false (fun u0 V => IntOwn V 0 u0 p) [3], .new 24 2, .put 24 2 5 4 []] v12.heap.size v12 [24] (fun _ _ => False) _ mixedOrders2 (Nat.le_refl _) (Below.refl _ _) (KeptV.refl _ _ _) rfl (by kernel_rfl) (by kernel_rfl) (by kernel_rfl) (by kernel_rfl) (by kernel_rfl) (by kernel_rfl) (by kernel_rfl) (by kernel_rfl) rfl (by simp [oldsF]) ?_ ?_ ?_ ?_
              · simp only [StableF, and_true]
                exact ⟨fun u0 V V' h k => h.kept k (by decide), fun u0 V V' h k => h.kept k (by decide)⟩
              · simp only [OldsF]
              · simp (maxSteps := 4000000) [StepsF, DepF, freeAct, fill, pairs]
                repeat' (first | apply And.intro | (intro (u0 : Value)) | (intro (u0 : Nat)))
                all_goals try exact ⟨_, _, _, rfl, rfl, rfl, rfl, intInfo⟩
                all_goals try exact allocInt rfl
                all_goals first
                | (intro V hV hK
                   obtain ⟨-, a_x, b_x, -, -⟩ := (V_x.out.below hV).pair.facts
                   have r_x := Lib.hid (V_x.out.below hV).raw
                   obtain ⟨-, a_y, b_y, -, -⟩ := (V_y.out.below hV).pair.facts
                   have r_y := Lib.hid (V_y.out.below hV).raw
                   obtain ⟨-, a_z, b_z, -, -⟩ := (V_z.out.below hV).pair.facts
                   have r_z := Lib.hid (V_z.out.below hV).raw
                   have pp := Lib.hid (HP.out.below hV HP.out.lt)
                   clear hV hK
                   go_simp
                   first
                   | exact Below.refl _ _
                   | ((with_reducible refine (times_o y x m B A d c pk F_y.out F_x.out V r_y.out r_x.out pp.out H_m2.out F_m.out).mono ?_); rintro e w' ⟨v, rfl, hv, hb⟩; exact ⟨hv.base (Nat.zero_le _), hb⟩))
                | (intro V hV hK hu0
                   obtain ⟨A'0, c'0, rfl, hr0⟩ := hu0.raw
                   have r'0 := Lib.hid hr0
                   obtain ⟨-, a_x, b_x, -, -⟩ := (V_x.out.below hV).pair.facts
                   have r_x := Lib.hid (V_x.out.below hV).raw
                   obtain ⟨-, a_y, b_y, -, -⟩ := (V_y.out.below hV).pair.facts
                   have r_y := Lib.hid (V_y.out.below hV).raw
                   obtain ⟨-, a_z, b_z, -, -⟩ := (V_z.out.below hV).pair.facts
                   have r_z := Lib.hid (V_z.out.below hV).raw
                   have pp := Lib.hid (HP.out.below hV HP.out.lt)
                   clear hV hK hu0 hr0
                   go_simp
                   ((with_reducible refine (times_o z m p C A'0 e0 c'0 pk F_z.out F_m.out V r_z.out r'0.out pp.out H_p2.out F_p.out).mono ?_); rintro e w' ⟨v, rfl, hv, hb⟩; exact ⟨hv.base (Nat.zero_le _), hb⟩))
                | exact fun _ _ _ (h : IntOwn _ _ _ _) => h.cells
                | exact fun _ _ _ (h : IntOwn _ _ _ _) _ => h.cells
              · simp [EndF, FactsF, freeAct, fill, pairs]
                intro u13_0 u13_1 bs13 hbs V hV hK h13_0 h13_1 p1 _ _ _
                obtain ⟨A13, c13, rfl, r1⟩ := h13_1.raw
                have V_p2 := Lib.hid (show NV V bs13 p A13 c13 from ⟨⟨p1⟩, r1⟩)
                have V_x := Lib.hid (V_x.out.below hV)
                have V_y := Lib.hid (V_y.out.below hV)
                have V_z := Lib.hid (V_z.out.below hV)
                have V_p1 := Lib.hid (V_p1.out.below hV)
                have HT := Lib.hid (HT.out.below hV)
                have HP := Lib.hid (HP.out.below hV HP.out.lt)
                have HBW := Lib.hid (belowTo HBW.out hV)
                clear hV hK h13_0 h13_1 p1 r1 hbs
                obtain ⟨v13, hV0⟩ : ∃ Y, Y = V := ⟨_, rfl⟩
                rw [← hV0] at HT HBW HP V_x V_y V_z V_p1 V_p2  ⊢
                clear hV0
                have hok := HP.out.cell 0
                have hkl := HP.out.lt
                simp at hok
                obtain ⟨l_p1, a_p1, b_p1, -, -⟩ := V_p1.out.pair.facts
                obtain ⟨l_p2, a_p2, b_p2, -, -⟩ := V_p2.out.pair.facts
                go_wp2_with fail
                refine (same_z p p A12 A13 c12 c13 v13 V_p1.out.raw V_p2.out.raw true (by simp)).mono ?_
                rintro e x14 ⟨rfl, hb⟩
                clear l_p1 a_p1 b_p1 l_p2 a_p2 b_p2
                have V_x := Lib.hid (V_x.out.below hb)
                have V_y := Lib.hid (V_y.out.below hb)
                have V_z := Lib.hid (V_z.out.below hb)
                have V_p1 := Lib.hid (V_p1.out.below hb)
                have V_p2 := Lib.hid (V_p2.out.below hb)
                have HT := Lib.hid (HT.out.below hb)
                have HP := Lib.hid (HP.out.below hb HP.out.lt)
                have HBW := Lib.hid (belowTo HBW.out hb)
                clear hb
                clear hok hkl
                obtain ⟨l_p1, a_p1, b_p1, -, -⟩ := V_p1.out.pair.facts
                obtain ⟨l_p2, a_p2, b_p2, -, -⟩ := V_p2.out.pair.facts
                go_wp2_with fail
                refine (cmp_z p p A12 A13 c12 c13 F_p.out F_p.out x14 V_p1.out.raw V_p2.out.raw 0 H_c.out).mono ?_
                rintro e x15 ⟨rfl, hb⟩
                clear l_p1 a_p1 b_p1 l_p2 a_p2 b_p2
                have V_x := Lib.hid (V_x.out.below hb)
                have V_y := Lib.hid (V_y.out.below hb)
                have V_z := Lib.hid (V_z.out.below hb)
                have V_p1 := Lib.hid (V_p1.out.below hb)
                have V_p2 := Lib.hid (V_p2.out.below hb)
                have HT := Lib.hid (HT.out.below hb)
                have HP := Lib.hid (HP.out.below hb HP.out.lt)
                have HBW := Lib.hid (belowTo HBW.out hb)
                clear hb
                go_wp2_with fail
                go_ret
                exact ⟨rfl, HBW.out⟩

set_option maxRecDepth 100000 in
set_option maxHeartbeats 2000000 in
theorem ring_bad (n1 n2 n3 : Bool) (A B C : Option Addr) (c d e0 : Nat) (xs ys zs : List Nat) (o : (okI n1 xs && okI n2 ys && okI n3 zs) = false) (w : World) (h : Raw w A c xs) (g : Raw w B d ys) (k : Raw w C e0 zs) (htab : powTab w) :
    Calls Tryd.prog 5 #[.agg #[.bool n1, .slice A xs.length c], .agg #[.bool n2, .slice B ys.length d], .agg #[.bool n3, .slice C zs.length e0]] w fun e w' => e = .returned (.bool true) ∧ Below w.heap.size w w' := by
  have p0 := ((Pair.new w 24 (.bool n1) (.slice A xs.length c)).alloc (.cells #[.bool n2, .slice B ys.length d] 24)).alloc (.cells #[.bool n3, .slice C zs.length e0] 24)
  have p1 := (Pair.new (w.alloc (.cells #[.bool n1, .slice A xs.length c] 24)) 24 (.bool n2) (.slice B ys.length d)).alloc (.cells #[.bool n3, .slice C zs.length e0] 24)
  have p2 := Pair.new ((w.alloc (.cells #[.bool n1, .slice A xs.length c] 24)).alloc (.cells #[.bool n2, .slice B ys.length d] 24)) 24 (.bool n3) (.slice C zs.length e0)
  have r0 := (((h.alloc (.cells #[.bool n1, .slice A xs.length c] 24)).alloc (.cells #[.bool n2, .slice B ys.length d] 24)).alloc (.cells #[.bool n3, .slice C zs.length e0] 24))
  have r1 := (((g.alloc (.cells #[.bool n1, .slice A xs.length c] 24)).alloc (.cells #[.bool n2, .slice B ys.length d] 24)).alloc (.cells #[.bool n3, .slice C zs.length e0] 24))
  have r2 := (((k.alloc (.cells #[.bool n1, .slice A xs.length c] 24)).alloc (.cells #[.bool n2, .slice B ys.length d] 24)).alloc (.cells #[.bool n3, .slice C zs.length e0] 24))
  have b0 := ((((Below.refl w.heap.size w).alloc (Nat.le_refl _) (.cells #[.bool n1, .slice A xs.length c] 24)).alloc (by simp) (.cells #[.bool n2, .slice B ys.length d] 24)).alloc (by simp; omega) (.cells #[.bool n3, .slice C zs.length e0] 24))
  simp only [World.size_alloc] at p1 p2
  have HT := Lib.hid (htab.below b0)
  have HO := Lib.hid o
  clear h g k htab o
  go_enter Tryd.func5, Tryd.ntmps5
  obtain ⟨W, E⟩ : ∃ W, W = (((w.alloc (.cells #[.bool n1, .slice A xs.length c] 24)).alloc (.cells #[.bool n2, .slice B ys.length d] 24)).alloc (.cells #[.bool n3, .slice C zs.length e0] 24)) := ⟨_, rfl⟩
  go_upto_region 1 with fail
  rw [← E] at p0 r0 p1 r1 p2 r2 b0 HT ⊢
  clear E
  have P0 := Lib.hid p0
  have R0 := Lib.hid r0
  have P1 := Lib.hid p1
  have R1 := Lib.hid r1
  have P2 := Lib.hid p2
  have R2 := Lib.hid r2
  have HB := Lib.hid b0
  clear p0 r0 p1 r1 p2 r2 b0
  go_wp2_with fail
  refine (alive_true W HT.out).mono ?_
  rintro e x1 ⟨rfl, hb⟩
  have P0 := Lib.hid (P0.out.below hb)
  have R0 := Lib.hid (R0.out.below hb)
  have P1 := Lib.hid (P1.out.below hb)
  have R1 := Lib.hid (R1.out.below hb)
  have P2 := Lib.hid (P2.out.below hb)
  have R2 := Lib.hid (R2.out.below hb)
  have HT := Lib.hid (HT.out.below hb)
  have HB := Lib.hid (belowTo HB.out hb)
  clear hb
  obtain ⟨l0, a0, b0, -, -⟩ := P0.out.facts
  obtain ⟨l1, a1, b1, -, -⟩ := P1.out.facts
  obtain ⟨l2, a2, b2, -, -⟩ := P2.out.facts
  go_wp2_with fail
  refine (may_list [(n1, A, c, xs), (n2, B, d, ys), (n3, C, e0, zs)] (by simp) x1 (by intro m hm; simp at hm; rcases hm with rfl | rfl | rfl <;> first | exact R0.out | exact R1.out | exact R2.out) 24 false (by have := HO.out; simp only [List.all_cons, List.all_nil, Bool.and_true, okNum]; rw [← Bool.and_assoc]; exact this.symm)).mono ?_
  rintro e x2 ⟨rfl, hb⟩
  have HT := Lib.hid (HT.out.below hb)
  have HB := Lib.hid (belowTo HB.out hb)
  clear hb l0 a0 b0 l1 a1 b1 l2 a2 b2
  go_wp2_with fail
  refine (alive_true x2 HT.out).mono ?_
  rintro e x3 ⟨rfl, hb⟩
  have HF := Lib.hid (belowTo HB.out hb)
  clear hb
  go_wp2_with fail
  go_ret
  exact ⟨rfl, HF.out⟩

theorem ring_true (n1 n2 n3 : Bool) (A B C : Option Addr) (c d e0 : Nat) (xs ys zs : List Nat) (w : World) (h : Raw w A c xs) (g : Raw w B d ys) (k : Raw w C e0 zs) (htab : powTab w) :
    Calls Tryd.prog 5 #[.agg #[.bool n1, .slice A xs.length c], .agg #[.bool n2, .slice B ys.length d], .agg #[.bool n3, .slice C zs.length e0]] w fun e w' => e = .returned (.bool true) ∧ Below w.heap.size w w' := by
  by_cases o : (okI n1 xs && okI n2 ys && okI n3 zs) = true
  · obtain ⟨o12, o3⟩ := Bool.and_eq_true_iff.1 o
    obtain ⟨o1, o2⟩ := Bool.and_eq_true_iff.1 o12
    obtain ⟨e1, e2, e3⟩ := ok_num h.limbs o1
    obtain ⟨f1, f2, f3⟩ := ok_num g.limbs o2
    obtain ⟨g1, g2, g3⟩ := ok_num k.limbs o3
    generalize ival n1 xs = x at *
    generalize ival n2 ys = y at *
    generalize ival n3 zs = z at *
    subst e1 e2 f1 f2 g1 g2
    by_cases hs : lz x + lz y + lz z + 3 ≤ 2048
    · exact ring_more x y z A B C c d e0 e3 f3 g3 hs w h g k htab
    · exact ring_long x y z A B C c d e0 e3 f3 g3 hs w h g k htab
  · exact ring_bad n1 n2 n3 A B C c d e0 xs ys zs (by simpa using o) w h g k htab
end Go.Proofs.YtpcdiijmhllejaaDoor
