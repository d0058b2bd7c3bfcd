/- Several texts in one: OrderMoreW. -/
import Derived.Test.YtpcdiijmhllejaaDoorBk32
/- WholeOrder: the walk, of numbers of which the first is more. (Written by wip/whole/genorder.py.) -/
namespace Go.Proofs.YtpcdiijmhllejaaDoor
open Go.RowKit

set_option maxRecDepth 100000 in
set_option maxHeartbeats 8000000 in
theorem order_more (x y z : Int) (A B C : Option Addr) (c d e0 : Nat) (hx : Fit x) (hy : Fit y) (hz : Fit z) (hk : (1 : Int) = cmpz x y) (w : World) (h : Raw w A c (natL x.natAbs)) (g : Raw w B d (natL y.natAbs)) (k : Raw w C e0 (natL z.natAbs)) (htab : powTab w) :
    Calls Tryd.prog 6 #[.agg #[.bool (decide (x < 0)), .slice A (natL x.natAbs).length c], .agg #[.bool (decide (y < 0)), .slice B (natL y.natAbs).length d], .agg #[.bool (decide (z < 0)), .slice C (natL z.natAbs).length e0]] w fun e w' => e = .returned (.bool true) ∧ Below w.heap.size w w' := by
  obtain ⟨b, hb0⟩ : ∃ b : Int, b = cmpz y z := ⟨_, rfl⟩
  obtain ⟨cc, hc0⟩ : ∃ b : Int, b = cmpz x z := ⟨_, rfl⟩
  have HK := Lib.hid (show (1 : Int) = cmpz x y from hk)
  have HB := Lib.hid hb0
  have HC := Lib.hid hc0
  have HBR := Lib.hid (show b = -1 ∨ b = 0 ∨ b = 1 from hb0 ▸ cmpz_range y z)
  have HKT := Lib.hid (show (-1 : Int) = cmpz y x from by have := cmpz_turn x y; omega)
  obtain ⟨d0, hd0⟩ : ∃ d0 : Int, d0 = x - y := ⟨_, rfl⟩
  have HD := Lib.hid hd0
  have HDS := Lib.hid (show (1 : Int) = d0.sign from by
    unfold cmpz at hk
    rw [hd0]
    split at hk
    · omega
    · split at hk
      · exact (Int.sign_eq_one_of_pos (by omega)).symm
      · omega)
  have HSM := Lib.hid (show false = decide (x = y) from by
    unfold cmpz at hk
    rw [eq_comm, decide_eq_false_iff_not]
    intro h
    subst h
    simp at hk)
  have HTR := Lib.hid (show ¬ (1 ≤ (0 : Int) ∧ b ≤ 0 ∧ 0 < cc) from by
    rintro ⟨h1, h2, h3⟩
    rw [hb0] at h2
    rw [hc0] at h3
    unfold cmpz at hk h2 h3
    split at hk <;> (try split at hk) <;> split at h2 <;> (try split at h2) <;> split at h3 <;> (try split at h3) <;> omega)
  obtain ⟨kx, hkx⟩ : ∃ kx : Int, kx = (bitsI (natL x.natAbs) : Int) := ⟨_, rfl⟩
  obtain ⟨ky, hky⟩ : ∃ ky : Int, ky = (bitsI (natL y.natAbs) : Int) := ⟨_, rfl⟩
  have HKX := Lib.hid hkx
  have HKY := Lib.hid hky
  have HBI := Lib.hid (show 0 < y → ky ≤ kx from fun h0 => by
    rw [hkx, hky]
    have : y ≤ x := by
      unfold cmpz at hk
      split at hk
      · omega
      · omega
    have := bits_mono (show y.natAbs ≤ x.natAbs by omega)
    omega)
  clear hk hb0 hc0 hd0 hkx hky
  have p0 := ((Pair.new w 24 (.bool (decide (x < 0))) (.slice A (natL x.natAbs).length c)).alloc (.cells #[.bool (decide (y < 0)), .slice B (natL y.natAbs).length d] 24)).alloc (.cells #[.bool (decide (z < 0)), .slice C (natL z.natAbs).length e0] 24)
  have p1 := (Pair.new (w.alloc (.cells #[.bool (decide (x < 0)), .slice A (natL x.natAbs).length c] 24)) 24 (.bool (decide (y < 0))) (.slice B (natL y.natAbs).length d)).alloc (.cells #[.bool (decide (z < 0)), .slice C (natL z.natAbs).length e0] 24)
  have p2 := Pair.new ((w.alloc (.cells #[.bool (decide (x < 0)), .slice A (natL x.natAbs).length c] 24)).alloc (.cells #[.bool (decide (y < 0)), .slice B (natL y.natAbs).length d] 24)) 24 (.bool (decide (z < 0))) (.slice C (natL z.natAbs).length e0)
  have b0 := ((((Below.refl w.heap.size w).alloc (Nat.le_refl _) (.cells #[.bool (decide (x < 0)), .slice A (natL x.natAbs).length c] 24)).alloc (by simp) (.cells #[.bool (decide (y < 0)), .slice B (natL y.natAbs).length d] 24)).alloc (by simp; omega) (.cells #[.bool (decide (z < 0)), .slice C (natL z.natAbs).length e0] 24))
  simp only [World.size_alloc] at p1 p2
  have V_x := Lib.hid (NV.of h b0 p0)
  have V_y := Lib.hid (NV.of g b0 p1)
  have V_z := Lib.hid (NV.of k b0 p2)
  have F_x := Lib.hid hx
  have F_y := Lib.hid hy
  have F_z := Lib.hid hz
  have HT := Lib.hid (htab.below b0)
  have HBW := Lib.hid b0
  clear h g k htab p0 p1 p2 b0 hx hy hz
  go_enter Tryd.func6, Tryd.ntmps6
  obtain ⟨W, E⟩ : ∃ W, W = (((w.alloc (.cells #[.bool (decide (x < 0)), .slice A (natL x.natAbs).length c] 24)).alloc (.cells #[.bool (decide (y < 0)), .slice B (natL y.natAbs).length d] 24)).alloc (.cells #[.bool (decide (z < 0)), .slice C (natL z.natAbs).length e0] 24)) := ⟨_, rfl⟩
  go_upto_region 1 with fail
  rw [← E] at V_x V_y V_z HT HBW ⊢
  clear E
  go_wp2_with fail
  refine (alive_true W HT.out).mono ?_
  rintro e x1 ⟨rfl, hb⟩
  have V_x := Lib.hid (V_x.out.below hb)
  have V_y := Lib.hid (V_y.out.below hb)
  have V_z := Lib.hid (V_z.out.below hb)
  have HT := Lib.hid (HT.out.below hb)
  have HBW := Lib.hid (belowTo HBW.out hb)
  clear hb
  obtain ⟨l_x, a_x, b_x, -, -⟩ := V_x.out.pair.facts
  obtain ⟨l_y, a_y, b_y, -, -⟩ := V_y.out.pair.facts
  obtain ⟨l_z, a_z, b_z, -, -⟩ := V_z.out.pair.facts
  go_wp2_with fail
  refine (may3 x y z A B C c d e0 x1 V_x.out.raw V_y.out.raw V_z.out.raw F_x.out F_y.out F_z.out 24).mono ?_
  rintro e x2 ⟨rfl, hb⟩
  clear l_x a_x b_x l_y a_y b_y l_z a_z b_z
  have V_x := Lib.hid (V_x.out.below hb)
  have V_y := Lib.hid (V_y.out.below hb)
  have V_z := Lib.hid (V_z.out.below hb)
  have HT := Lib.hid (HT.out.below hb)
  have HBW := Lib.hid (belowTo HBW.out hb)
  clear hb
  go_upto_region 3 with fail
  obtain ⟨W0, hW⟩ : ∃ W0, W0 = x2 := ⟨_, rfl⟩
  rw [← hW] at HT HBW V_x V_y V_z  ⊢
  clear hW
  refine wp_region_free [.val (.agg #[.bool (decide (x < 0)), .slice A (natL x.natAbs).length c]) [], .val (.agg #[.bool (decide (y < 0)), .slice B (natL y.natAbs).length d]) [], .val (.int .i64 (1)) [], .val (.agg #[.bool (decide (y < 0)), .slice B (natL y.natAbs).length d]) [], .val (.agg #[.bool (decide (z < 0)), .slice C (natL z.natAbs).length e0]) [], .val (.int .i64 (b)) [], .val (.agg #[.bool (decide (x < 0)), .slice A (natL x.natAbs).length c]) [], .val (.agg #[.bool (decide (z < 0)), .slice C (natL z.natAbs).length e0]) [], .val (.int .i64 (cc)) [], .val (.int .i64 (1)) [], .val (.int .i64 (b)) [], .val (.int .i64 (cc)) []] W0.heap.size W0 [] (fun _ _ => False) _ mixedOrders2 (Nat.le_refl _) (Below.refl _ _) (KeptV.refl _ _ _) rfl (by kernel_rfl) (by kernel_rfl) (by kernel_rfl) (by kernel_rfl) (by kernel_rfl) (by kernel_rfl) (by kernel_rfl) (by kernel_rfl) rfl (by simp [oldsF]) ?_ ?_ ?_ ?_
  · simp only [StableF]
  · simp only [OldsF]
  · simp (maxSteps := 4000000) [StepsF, DepF, freeAct, fill, pairs]
    repeat' (first | apply And.intro)
    all_goals
      intro V hV hK
      obtain ⟨-, a_x, b_x, -, -⟩ := (V_x.out.below hV).pair.facts
      have r_x := Lib.hid (V_x.out.below hV).raw
      obtain ⟨-, a_y, b_y, -, -⟩ := (V_y.out.below hV).pair.facts
      have r_y := Lib.hid (V_y.out.below hV).raw
      obtain ⟨-, a_z, b_z, -, -⟩ := (V_z.out.below hV).pair.facts
      have r_z := Lib.hid (V_z.out.below hV).raw
      clear hV hK
      go_simp
      first
      | exact Below.refl _ _
      | ((with_reducible refine (cmp_z x y A B c d F_x.out F_y.out V r_x.out r_y.out (1) HK.out).mono ?_); rintro e w' ⟨rfl, hb⟩; exact ⟨rfl, hb⟩)
      | ((with_reducible refine (cmp_z y z B C d e0 F_y.out F_z.out V r_y.out r_z.out (b) HB.out).mono ?_); rintro e w' ⟨rfl, hb⟩; exact ⟨rfl, hb⟩)
      | ((with_reducible refine (cmp_z x z A C c e0 F_x.out F_z.out V r_x.out r_z.out (cc) HC.out).mono ?_); rintro e w' ⟨rfl, hb⟩; exact ⟨rfl, hb⟩)
  · simp [EndF, FactsF, freeAct, fill, pairs]
    intro V hV hK _ _ _
    have V_x := Lib.hid (V_x.out.below hV)
    have V_y := Lib.hid (V_y.out.below hV)
    have V_z := Lib.hid (V_z.out.below hV)
    have HT := Lib.hid (HT.out.below hV)
    have HBW := Lib.hid (belowTo HBW.out hV)
    clear hV hK
    obtain ⟨v3, hV0⟩ : ∃ Y, Y = V := ⟨_, rfl⟩
    rw [← hV0] at HT HBW V_x V_y V_z  ⊢
    clear hV0
    obtain ⟨l_x, a_x, b_x, -, -⟩ := V_x.out.pair.facts
    obtain ⟨l_y, a_y, b_y, -, -⟩ := V_y.out.pair.facts
    go_wp2_with fail
    refine (cmp_z y x B A d c F_y.out F_x.out v3 V_y.out.raw V_x.out.raw (-1) HKT.out).mono ?_
    rintro e x4 ⟨rfl, hb⟩
    clear l_x a_x b_x l_y a_y b_y
    have V_x := Lib.hid (V_x.out.below hb)
    have V_y := Lib.hid (V_y.out.below hb)
    have V_z := Lib.hid (V_z.out.below hb)
    have HT := Lib.hid (HT.out.below hb)
    have HBW := Lib.hid (belowTo HBW.out hb)
    clear hb
    obtain ⟨l_x, a_x, b_x, -, -⟩ := V_x.out.pair.facts
    obtain ⟨l_y, a_y, b_y, -, -⟩ := V_y.out.pair.facts
    go_wp2_with fail
    refine (same_z x y A B c d x4 V_x.out.raw V_y.out.raw false HSM.out).mono ?_
    rintro e x5 ⟨rfl, hb⟩
    clear l_x a_x b_x l_y a_y b_y
    have V_x := Lib.hid (V_x.out.below hb)
    have V_y := Lib.hid (V_y.out.below hb)
    have V_z := Lib.hid (V_z.out.below hb)
    have HT := Lib.hid (HT.out.below hb)
    have HBW := Lib.hid (belowTo HBW.out hb)
    clear hb
    go_upto_region 6 with fail
    by_cases hfd : Fit d0
    · skip
      have F_d0 := Lib.hid hfd
      clear hfd
      obtain ⟨l_x, a_x, b_x, -, -⟩ := V_x.out.pair.facts
      obtain ⟨l_y, a_y, b_y, -, -⟩ := V_y.out.pair.facts
      go_wp2_with fail
      refine (sub_z x y d0 A B c d F_x.out F_y.out x5 V_x.out.raw V_y.out.raw HD.out F_d0.out).mono ?_
      rintro e x6 ⟨A1, c1, rfl, r1, hb⟩
      clear l_x a_x b_x l_y a_y b_y
      have V_x := Lib.hid (V_x.out.below hb)
      have V_y := Lib.hid (V_y.out.below hb)
      have V_z := Lib.hid (V_z.out.below hb)
      have HT := Lib.hid (HT.out.below hb)
      have HBW := Lib.hid (belowTo HBW.out hb)
      have R_d0 := Lib.hid r1
      clear hb r1
      go_upto_region 7 with fail
      have ha := ((Below.refl x6.heap.size x6).alloc (Nat.le_refl _) (.cells #[.bool (decide (d0 < 0)), .slice A1 (natL d0.natAbs).length c1] 24))
      have p_d0 := (Pair.new x6 24 (.bool (decide (d0 < 0))) (.slice A1 (natL d0.natAbs).length c1))
      obtain ⟨y7, E⟩ : ∃ W, W = (x6.alloc (.cells #[.bool (decide (d0 < 0)), .slice A1 (natL d0.natAbs).length c1] 24)) := ⟨_, rfl⟩
      rw [← E] at ha p_d0 ⊢
      have V_d0 := Lib.hid (NV.of R_d0.out ha p_d0)
      have V_x := Lib.hid (V_x.out.below ha)
      have V_y := Lib.hid (V_y.out.below ha)
      have V_z := Lib.hid (V_z.out.below ha)
      have HT := Lib.hid (HT.out.below ha)
      have HBW := Lib.hid (belowTo HBW.out ha)
      obtain ⟨g7, hg⟩ : ∃ g, g = x6.heap.size := ⟨_, rfl⟩
      rw [← hg] at V_d0 ⊢
      clear E ha hg p_d0
      obtain ⟨l_d0, a_d0, b_d0, -, -⟩ := V_d0.out.pair.facts
      go_wp2_with fail
      refine (sign_z d0 A1 c1 F_d0.out y7 V_d0.out.raw (1) HDS.out).mono ?_
      rintro e x8 ⟨rfl, hb⟩
      clear l_d0 a_d0 b_d0
      have V_x := Lib.hid (V_x.out.below hb)
      have V_y := Lib.hid (V_y.out.below hb)
      have V_z := Lib.hid (V_z.out.below hb)
      have V_d0 := Lib.hid (V_d0.out.below hb)
      have HT := Lib.hid (HT.out.below hb)
      have HBW := Lib.hid (belowTo HBW.out hb)
      clear hb
      go_upto_region 9 with fail
      rcases (by omega : x ≤ 0 ∨ (0 < x ∧ y ≤ 0) ∨ (0 < x ∧ 0 < y)) with hxx | ⟨hxx, hyy⟩ | ⟨hxx, hyy⟩
      · skip
        obtain ⟨sx, hsx⟩ : ∃ sx : Int, sx = x.sign := ⟨_, rfl⟩
        have HSX := Lib.hid hsx
        have hsn : decide (sx ≤ 0) = true := decide_eq_true (by rw [hsx]; exact Int.sign_nonpos_iff.2 hxx)
        clear hsx hxx
        obtain ⟨W0, hW⟩ : ∃ W0, W0 = x8 := ⟨_, rfl⟩
        rw [← hW] at HT HBW V_x V_y V_z V_d0  ⊢
        clear hW
        refine wp_region_free [.val (.agg #[.bool (decide (x < 0)), .slice A (natL x.natAbs).length c]) [], .val (.int .i64 sx) [], .val (.bool true) [], .val (.bool true) [], .skip, .skip, .skip, .val (.bool true) [], .val (.bool true) [], .skip, .skip, .skip, .skip, .skip, .val (.bool true) [], .val (.bool true) [], .skip, .skip, .val (.bool true) [], .val (.bool true) []] W0.heap.size W0 [] (fun _ _ => False) _ mixedOrders2 (Nat.le_refl _) (Below.refl _ _) (KeptV.refl _ _ _) rfl (by kernel_rfl) (by kernel_rfl) (by kernel_rfl) (by kernel_rfl) (by kernel_rfl) (by kernel_rfl) (by kernel_rfl) (by kernel_rfl) rfl (by simp [oldsF]) ?_ ?_ ?_ ?_
        · simp only [StableF]
        · simp only [OldsF]
        · simp (maxSteps := 4000000) [StepsF, DepF, freeAct, fill, pairs]
          repeat' (first | apply And.intro)
          all_goals
            intro V hV hK
            obtain ⟨-, a_x, b_x, -, -⟩ := (V_x.out.below hV).pair.facts
            have r_x := Lib.hid (V_x.out.below hV).raw
            obtain ⟨-, a_y, b_y, -, -⟩ := (V_y.out.below hV).pair.facts
            have r_y := Lib.hid (V_y.out.below hV).raw
            clear hV hK
            go_simp
            first
            | exact Below.refl _ _
            | ((with_reducible refine (sign_z x A c F_x.out V r_x.out sx HSX.out).mono ?_); rintro e w' ⟨rfl, hb⟩; exact ⟨rfl, hb⟩)
        · simp [EndF, FactsF, freeAct, fill, pairs]
          intro V hV hK _ _ _
          have V_x := Lib.hid (V_x.out.below hV)
          have V_y := Lib.hid (V_y.out.below hV)
          have V_z := Lib.hid (V_z.out.below hV)
          have V_d0 := Lib.hid (V_d0.out.below hV)
          have HT := Lib.hid (HT.out.below hV)
          have HBW := Lib.hid (belowTo HBW.out hV)
          clear hV hK
          obtain ⟨v9, hV0⟩ : ∃ Y, Y = V := ⟨_, rfl⟩
          rw [← hV0] at HT HBW V_x V_y V_z V_d0  ⊢
          clear hV0
          go_wp2_with fail
          go_ret
          exact ⟨rfl, HBW.out⟩
      · skip
        obtain ⟨sy, hsy⟩ : ∃ sy : Int, sy = y.sign := ⟨_, rfl⟩
        have HSY := Lib.hid hsy
        have hsn : decide (sy ≤ 0) = true := decide_eq_true (by rw [hsy]; exact Int.sign_nonpos_iff.2 hyy)
        have HSX := Lib.hid (show (1 : Int) = x.sign from (Int.sign_eq_one_of_pos hxx).symm)
        clear hsy hxx hyy
        obtain ⟨W0, hW⟩ : ∃ W0, W0 = x8 := ⟨_, rfl⟩
        rw [← hW] at HT HBW V_x V_y V_z V_d0  ⊢
        clear hW
        refine wp_region_free [.val (.agg #[.bool (decide (x < 0)), .slice A (natL x.natAbs).length c]) [], .val (.int .i64 (1)) [], .val (.bool false) [], .val (.bool false) [], .val (.agg #[.bool (decide (y < 0)), .slice B (natL y.natAbs).length d]) [], .val (.int .i64 sy) [], .val (.bool true) [], .val (.bool true) [], .val (.bool true) [], .skip, .skip, .skip, .skip, .skip, .val (.bool true) [], .val (.bool true) [], .skip, .skip, .val (.bool true) [], .val (.bool true) []] W0.heap.size W0 [] (fun _ _ => False) _ mixedOrders2 (Nat.le_refl _) (Below.refl _ _) (KeptV.refl _ _ _) rfl (by kernel_rfl) (by kernel_rfl) (by kernel_rfl) (by kernel_rfl) (by kernel_rfl) (by kernel_rfl) (by kernel_rfl) (by kernel_rfl) rfl (by simp [oldsF]) ?_ ?_ ?_ ?_
        · simp only [StableF]
        · simp only [OldsF]
        · simp (maxSteps := 4000000) [StepsF, DepF, freeAct, fill, pairs]
          repeat' (first | apply And.intro)
          all_goals
            intro V hV hK
            obtain ⟨-, a_x, b_x, -, -⟩ := (V_x.out.below hV).pair.facts
            have r_x := Lib.hid (V_x.out.below hV).raw
            obtain ⟨-, a_y, b_y, -, -⟩ := (V_y.out.below hV).pair.facts
            have r_y := Lib.hid (V_y.out.below hV).raw
            clear hV hK
            go_simp
            first
            | exact Below.refl _ _
            | ((with_reducible refine (sign_z x A c F_x.out V r_x.out 1 HSX.out).mono ?_); rintro e w' ⟨rfl, hb⟩; exact ⟨rfl, hb⟩)
            | ((with_reducible refine (sign_z y B d F_y.out V r_y.out sy HSY.out).mono ?_); rintro e w' ⟨rfl, hb⟩; exact ⟨rfl, hb⟩)
        · simp [EndF, FactsF, freeAct, fill, pairs]
          intro V hV hK _ _ _
          have V_x := Lib.hid (V_x.out.below hV)
          have V_y := Lib.hid (V_y.out.below hV)
          have V_z := Lib.hid (V_z.out.below hV)
          have V_d0 := Lib.hid (V_d0.out.below hV)
          have HT := Lib.hid (HT.out.below hV)
          have HBW := Lib.hid (belowTo HBW.out hV)
          clear hV hK
          obtain ⟨v9, hV0⟩ : ∃ Y, Y = V := ⟨_, rfl⟩
          rw [← hV0] at HT HBW V_x V_y V_z V_d0  ⊢
          clear hV0
          go_wp2_with fail
          go_ret
          exact ⟨rfl, HBW.out⟩
      · skip
        have HSX := Lib.hid (show (1 : Int) = x.sign from (Int.sign_eq_one_of_pos hxx).symm)
        have HSY := Lib.hid (show (1 : Int) = y.sign from (Int.sign_eq_one_of_pos hyy).symm)
        have hbits : ky ≤ kx := HBI.out hyy
        have hge : decide (ky ≤ kx) = true := decide_eq_true hbits
        clear hbits hxx hyy
        obtain ⟨W0, hW⟩ : ∃ W0, W0 = x8 := ⟨_, rfl⟩
        rw [← hW] at HT HBW V_x V_y V_z V_d0  ⊢
        clear hW
        refine wp_region_free [.val (.agg #[.bool (decide (x < 0)), .slice A (natL x.natAbs).length c]) [], .val (.int .i64 (1)) [], .val (.bool false) [], .val (.bool false) [], .val (.agg #[.bool (decide (y < 0)), .slice B (natL y.natAbs).length d]) [], .val (.int .i64 (1)) [], .val (.bool false) [], .val (.bool false) [], .val (.bool false) [], .val (.agg #[.bool (decide (x < 0)), .slice A (natL x.natAbs).length c]) [], .val (.int .i64 kx) [], .val (.agg #[.bool (decide (y < 0)), .slice B (natL y.natAbs).length d]) [], .val (.int .i64 ky) [], .val (.bool true) [], .val (.bool true) [], .val (.bool true) [], .skip, .skip, .val (.bool true) [], .val (.bool true) []] W0.heap.size W0 [] (fun _ _ => False) _ mixedOrders2 (Nat.le_refl _) (Below.refl _ _) (KeptV.refl _ _ _) rfl (by kernel_rfl) (by kernel_rfl) (by kernel_rfl) (by kernel_rfl) (by kernel_rfl) (by kernel_rfl) (by kernel_rfl) (by kernel_rfl) rfl (by simp [oldsF]) ?_ ?_ ?_ ?_
        · simp only [StableF]
        · simp only [OldsF]
        · simp (maxSteps := 4000000) [StepsF, DepF, freeAct, fill, pairs]
          repeat' (first | apply And.intro)
          all_goals
            intro V hV hK
            obtain ⟨-, a_x, b_x, -, -⟩ := (V_x.out.below hV).pair.facts
            have r_x := Lib.hid (V_x.out.below hV).raw
            obtain ⟨-, a_y, b_y, -, -⟩ := (V_y.out.below hV).pair.facts
            have r_y := Lib.hid (V_y.out.below hV).raw
            clear hV hK
            go_simp
            first
            | exact Below.refl _ _
            | ((with_reducible refine (sign_z x A c F_x.out V r_x.out 1 HSX.out).mono ?_); rintro e w' ⟨rfl, hb⟩; exact ⟨rfl, hb⟩)
            | ((with_reducible refine (sign_z y B d F_y.out V r_y.out 1 HSY.out).mono ?_); rintro e w' ⟨rfl, hb⟩; exact ⟨rfl, hb⟩)
            | ((with_reducible refine (bits_z x A c F_x.out V r_x.out kx HKX.out).mono ?_); rintro e w' ⟨rfl, hb⟩; exact ⟨rfl, hb⟩)
            | ((with_reducible refine (bits_z y B d F_y.out V r_y.out ky HKY.out).mono ?_); rintro e w' ⟨rfl, hb⟩; exact ⟨rfl, hb⟩)
        · simp [EndF, FactsF, freeAct, fill, pairs]
          intro V hV hK _ _ _
          have V_x := Lib.hid (V_x.out.below hV)
          have V_y := Lib.hid (V_y.out.below hV)
          have V_z := Lib.hid (V_z.out.below hV)
          have V_d0 := Lib.hid (V_d0.out.below hV)
          have HT := Lib.hid (HT.out.below hV)
          have HBW := Lib.hid (belowTo HBW.out hV)
          clear hV hK
          obtain ⟨v9, hV0⟩ : ∃ Y, Y = V := ⟨_, rfl⟩
          rw [← hV0] at HT HBW V_x V_y V_z V_d0  ⊢
          clear hV0
          go_wp2_with fail
          go_ret
          exact ⟨rfl, HBW.out⟩
    · skip
      obtain ⟨n0, hn0⟩ : ∃ n0 : Int, n0 = 0 := ⟨_, rfl⟩
      have HN0 := Lib.hid hn0
      have HFD := Lib.hid hfd
      clear hfd hn0
      obtain ⟨l_x, a_x, b_x, -, -⟩ := V_x.out.pair.facts
      obtain ⟨l_y, a_y, b_y, -, -⟩ := V_y.out.pair.facts
      go_wp2_with fail
      refine (sub_long_n x y n0 A B c d F_x.out F_y.out x5 V_x.out.raw V_y.out.raw (HD.out ▸ HFD.out) HN0.out).mono ?_
      rintro e x6 ⟨A1, c1, rfl, r1, hb⟩
      clear l_x a_x b_x l_y a_y b_y
      have V_x := Lib.hid (V_x.out.below hb)
      have V_y := Lib.hid (V_y.out.below hb)
      have V_z := Lib.hid (V_z.out.below hb)
      have HT := Lib.hid (HT.out.below hb)
      have HBW := Lib.hid (belowTo HBW.out hb)
      have R_n0 := Lib.hid r1
      clear hb r1
      go_upto_region 7 with fail
      have ha := ((Below.refl x6.heap.size x6).alloc (Nat.le_refl _) (.cells #[.bool (decide (n0 < 0)), .slice A1 (natL n0.natAbs).length c1] 24))
      have p_n0 := (Pair.new x6 24 (.bool (decide (n0 < 0))) (.slice A1 (natL n0.natAbs).length c1))
      obtain ⟨y7, E⟩ : ∃ W, W = (x6.alloc (.cells #[.bool (decide (n0 < 0)), .slice A1 (natL n0.natAbs).length c1] 24)) := ⟨_, rfl⟩
      rw [← E] at ha p_n0 ⊢
      have V_n0 := Lib.hid (NV.of R_n0.out ha p_n0)
      have V_x := Lib.hid (V_x.out.below ha)
      have V_y := Lib.hid (V_y.out.below ha)
      have V_z := Lib.hid (V_z.out.below ha)
      have HT := Lib.hid (HT.out.below ha)
      have HBW := Lib.hid (belowTo HBW.out ha)
      obtain ⟨g7, hg⟩ : ∃ g, g = x6.heap.size := ⟨_, rfl⟩
      rw [← hg] at V_n0 ⊢
      clear E ha hg p_n0
      go_upto_region 9 with fail
      rcases (by omega : x ≤ 0 ∨ (0 < x ∧ y ≤ 0) ∨ (0 < x ∧ 0 < y)) with hxx | ⟨hxx, hyy⟩ | ⟨hxx, hyy⟩
      · skip
        obtain ⟨sx, hsx⟩ : ∃ sx : Int, sx = x.sign := ⟨_, rfl⟩
        have HSX := Lib.hid hsx
        have hsn : decide (sx ≤ 0) = true := decide_eq_true (by rw [hsx]; exact Int.sign_nonpos_iff.2 hxx)
        clear hsx hxx
        obtain ⟨W0, hW⟩ : ∃ W0, W0 = y7 := ⟨_, rfl⟩
        rw [← hW] at HT HBW V_x V_y V_z V_n0  ⊢
        clear hW
        refine wp_region_free [.val (.agg #[.bool (decide (x < 0)), .slice A (natL x.natAbs).length c]) [], .val (.int .i64 sx) [], .val (.bool true) [], .val (.bool true) [], .skip, .skip, .skip, .val (.bool true) [], .val (.bool true) [], .skip, .skip, .skip, .skip, .skip, .val (.bool true) [], .val (.bool true) [], .skip, .skip, .val (.bool true) [], .val (.bool true) []] W0.heap.size W0 [] (fun _ _ => False) _ mixedOrders2 (Nat.le_refl _) (Below.refl _ _) (KeptV.refl _ _ _) rfl (by kernel_rfl) (by kernel_rfl) (by kernel_rfl) (by kernel_rfl) (by kernel_rfl) (by kernel_rfl) (by kernel_rfl) (by kernel_rfl) rfl (by simp [oldsF]) ?_ ?_ ?_ ?_
        · simp only [StableF]
        · simp only [OldsF]
        · simp (maxSteps := 4000000) [StepsF, DepF, freeAct, fill, pairs]
          repeat' (first | apply And.intro)
          all_goals
            intro V hV hK
            obtain ⟨-, a_x, b_x, -, -⟩ := (V_x.out.below hV).pair.facts
            have r_x := Lib.hid (V_x.out.below hV).raw
            obtain ⟨-, a_y, b_y, -, -⟩ := (V_y.out.below hV).pair.facts
            have r_y := Lib.hid (V_y.out.below hV).raw
            clear hV hK
            go_simp
            first
            | exact Below.refl _ _
            | ((with_reducible refine (sign_z x A c F_x.out V r_x.out sx HSX.out).mono ?_); rintro e w' ⟨rfl, hb⟩; exact ⟨rfl, hb⟩)
        · simp [EndF, FactsF, freeAct, fill, pairs]
          intro V hV hK _ _ _
          have V_x := Lib.hid (V_x.out.below hV)
          have V_y := Lib.hid (V_y.out.below hV)
          have V_z := Lib.hid (V_z.out.below hV)
          have V_n0 := Lib.hid (V_n0.out.below hV)
          have HT := Lib.hid (HT.out.below hV)
          have HBW := Lib.hid (belowTo HBW.out hV)
          clear hV hK
          obtain ⟨v8, hV0⟩ : ∃ Y, Y = V := ⟨_, rfl⟩
          rw [← hV0] at HT HBW V_x V_y V_z V_n0  ⊢
          clear hV0
          go_wp2_with fail
          go_ret
          exact ⟨rfl, HBW.out⟩
      · skip
        obtain ⟨sy, hsy⟩ : ∃ sy : Int, sy = y.sign := ⟨_, rfl⟩
        have HSY := Lib.hid hsy
        have hsn : decide (sy ≤ 0) = true := decide_eq_true (by rw [hsy]; exact Int.sign_nonpos_iff.2 hyy)
        have HSX := Lib.hid (show (1 : Int) = x.sign from (Int.sign_eq_one_of_pos hxx).symm)
        clear hsy hxx hyy
        obtain ⟨W0, hW⟩ : ∃ W0, W0 = y7 := ⟨_, rfl⟩
        rw [← hW] at HT HBW V_x V_y V_z V_n0  ⊢
        clear hW
        refine wp_region_free [.val (.agg #[.bool (decide (x < 0)), .slice A (natL x.natAbs).length c]) [], .val (.int .i64 (1)) [], .val (.bool false) [], .val (.bool false) [], .val (.agg #[.bool (decide (y < 0)), .slice B (natL y.natAbs).length d]) [], .val (.int .i64 sy) [], .val (.bool true) [], .val (.bool true) [], .val (.bool true) [], .skip, .skip, .skip, .skip, .skip, .val (.bool true) [], .val (.bool true) [], .skip, .skip, .val (.bool true) [], .val (.bool true) []] W0.heap.size W0 [] (fun _ _ => False) _ mixedOrders2 (Nat.le_refl _) (Below.refl _ _) (KeptV.refl _ _ _) rfl (by kernel_rfl) (by kernel_rfl) (by kernel_rfl) (by kernel_rfl) (by kernel_rfl) (by kernel_rfl) (by kernel_rfl) (by kernel_rfl) rfl (by simp [oldsF]) ?_ ?_ ?_ ?_
        · simp only [StableF]
        · simp only [OldsF]
        · simp (maxSteps := 4000000) [StepsF, DepF, freeAct, fill, pairs]
          repeat' (first | apply And.intro)
          all_goals
            intro V hV hK
            obtain ⟨-, a_x, b_x, -, -⟩ := (V_x.out.below hV).pair.facts
            have r_x := Lib.hid (V_x.out.below hV).raw
            obtain ⟨-, a_y, b_y, -, -⟩ := (V_y.out.below hV).pair.facts
            have r_y := Lib.hid (V_y.out.below hV).raw
            clear hV hK
            go_simp
            first
            | exact Below.refl _ _
            | ((with_reducible refine (sign_z x A c F_x.out V r_x.out 1 HSX.out).mono ?_); rintro e w' ⟨rfl, hb⟩; exact ⟨rfl, hb⟩)
            | ((with_reducible refine (sign_z y B d F_y.out V r_y.out sy HSY.out).mono ?_); rintro e w' ⟨rfl, hb⟩; exact ⟨rfl, hb⟩)
        · simp [EndF, FactsF, freeAct, fill, pairs]
          intro V hV hK _ _ _
          have V_x := Lib.hid (V_x.out.below hV)
          have V_y := Lib.hid (V_y.out.below hV)
          have V_z := Lib.hid (V_z.out.below hV)
          have V_n0 := Lib.hid (V_n0.out.below hV)
          have HT := Lib.hid (HT.out.below hV)
          have HBW := Lib.hid (belowTo HBW.out hV)
          clear hV hK
          obtain ⟨v8, hV0⟩ : ∃ Y, Y = V := ⟨_, rfl⟩
          rw [← hV0] at HT HBW V_x V_y V_z V_n0  ⊢
          clear hV0
          go_wp2_with fail
          go_ret
          exact ⟨rfl, HBW.out⟩
      · skip
        have HSX := Lib.hid (show (1 : Int) = x.sign from (Int.sign_eq_one_of_pos hxx).symm)
        have HSY := Lib.hid (show (1 : Int) = y.sign from (Int.sign_eq_one_of_pos hyy).symm)
        have hbits : ky ≤ kx := HBI.out hyy
        have hge : decide (ky ≤ kx) = true := decide_eq_true hbits
        clear hbits hxx hyy
        obtain ⟨W0, hW⟩ : ∃ W0, W0 = y7 := ⟨_, rfl⟩
        rw [← hW] at HT HBW V_x V_y V_z V_n0  ⊢
        clear hW
        refine wp_region_free [.val (.agg #[.bool (decide (x < 0)), .slice A (natL x.natAbs).length c]) [], .val (.int .i64 (1)) [], .val (.bool false) [], .val (.bool false) [], .val (.agg #[.bool (decide (y < 0)), .slice B (natL y.natAbs).length d]) [], .val (.int .i64 (1)) [], .val (.bool false) [], .val (.bool false) [], .val (.bool false) [], .val (.agg #[.bool (decide (x < 0)), .slice A (natL x.natAbs).length c]) [], .val (.int .i64 kx) [], .val (.agg #[.bool (decide (y < 0)), .slice B (natL y.natAbs).length d]) [], .val (.int .i64 ky) [], .val (.bool true) [], .val (.bool true) [], .val (.bool true) [], .skip, .skip, .val (.bool true) [], .val (.bool true) []] W0.heap.size W0 [] (fun _ _ => False) _ mixedOrders2 (Nat.le_refl _) (Below.refl _ _) (KeptV.refl _ _ _) rfl (by kernel_rfl) (by kernel_rfl) (by kernel_rfl) (by kernel_rfl) (by kernel_rfl) (by kernel_rfl) (by kernel_rfl) (by kernel_rfl) rfl (by simp [oldsF]) ?_ ?_ ?_ ?_
        · simp only [StableF]
        · simp only [OldsF]
        · simp (maxSteps := 4000000) [StepsF, DepF, freeAct, fill, pairs]
          repeat' (first | apply And.intro)
          all_goals
            intro V hV hK
            obtain ⟨-, a_x, b_x, -, -⟩ := (V_x.out.below hV).pair.facts
            have r_x := Lib.hid (V_x.out.below hV).raw
            obtain ⟨-, a_y, b_y, -, -⟩ := (V_y.out.below hV).pair.facts
            have r_y := Lib.hid (V_y.out.below hV).raw
            clear hV hK
            go_simp
            first
            | exact Below.refl _ _
            | ((with_reducible refine (sign_z x A c F_x.out V r_x.out 1 HSX.out).mono ?_); rintro e w' ⟨rfl, hb⟩; exact ⟨rfl, hb⟩)
            | ((with_reducible refine (sign_z y B d F_y.out V r_y.out 1 HSY.out).mono ?_); rintro e w' ⟨rfl, hb⟩; exact ⟨rfl, hb⟩)
            | ((with_reducible refine (bits_z x A c F_x.out V r_x.out kx HKX.out).mono ?_); rintro e w' ⟨rfl, hb⟩; exact ⟨rfl, hb⟩)
            | ((with_reducible refine (bits_z y B d F_y.out V r_y.out ky HKY.out).mono ?_); rintro e w' ⟨rfl, hb⟩; exact ⟨rfl, hb⟩)
        · simp [EndF, FactsF, freeAct, fill, pairs]
          intro V hV hK _ _ _
          have V_x := Lib.hid (V_x.out.below hV)
          have V_y := Lib.hid (V_y.out.below hV)
          have V_z := Lib.hid (V_z.out.below hV)
          have V_n0 := Lib.hid (V_n0.out.below hV)
          have HT := Lib.hid (HT.out.below hV)
          have HBW := Lib.hid (belowTo HBW.out hV)
          clear hV hK
          obtain ⟨v8, hV0⟩ : ∃ Y, Y = V := ⟨_, rfl⟩
          rw [← hV0] at HT HBW V_x V_y V_z V_n0  ⊢
          clear hV0
          go_wp2_with fail
          go_ret
          exact ⟨rfl, HBW.out⟩
end Go.Proofs.YtpcdiijmhllejaaDoor
