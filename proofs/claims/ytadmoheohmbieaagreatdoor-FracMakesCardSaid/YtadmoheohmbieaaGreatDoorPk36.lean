/- Several texts in one: FText, Lives2. -/
import Derived.Test.YtadmoheohmbieaaGreatDoorPk34
import Derived.Test.YtadmoheohmbieaaGreatDoorPk35
import Derived.Laws.Concat
import Derived.Test.YtadmoheohmbieaaGreatDoorPk29
/- Digits of package ratio; Text and Sign of package frac. (Written by wip/frac/gentext.py.) -/
namespace Go.Proofs.YtadmoheohmbieaaGreatDoor
open Go.RowKit

theorem powTab.below2 {w w' : World} (h : powTab w) (hb : Below w.heap.size w w') : powTab w' := Lib.tabBelow_of_tabIs h w' hb
theorem dec_fit_any (k : Nat) (hk : 0 < k) {x : Nat} (h : (natL x).length ≤ k) : (Lib.decDigits x).length ≤ 32 * k := by
  refine dec_short (32 * k) x (by omega) ?_
  have h1 : x < 2 ^ (32 * k) := by
    have := natL_length_le.1 h
    rw [show 4294967296 = 2 ^ 32 by decide, ← Nat.pow_mul] at this
    exact this
  exact Nat.lt_of_lt_of_le h1 (Nat.pow_le_pow_left (by decide) _)
theorem dec_fit {x : Nat} (h : (natL x).length ≤ 2048) : (Lib.decDigits x).length ≤ 65536 := dec_fit_any 2048 (by omega) h
theorem itoa_fit {x : Int} (h : Fit x) : (Lib.itoa x).length ≤ 65537 := by
  have := dec_fit (x := x.natAbs) h
  unfold Lib.itoa
  split
  · simp; omega
  · rw [show x.toNat = x.natAbs by omega]; omega
/-- The text of a fraction. -/
def fracText (n d : Int) : List UInt8 := if d = 1 then Lib.itoa n else Lib.itoa n ++ 47 :: Lib.itoa d

set_option maxRecDepth 100000 in
set_option maxHeartbeats 2000000 in
theorem ratio_Digits_one (n d : Int) (A B : Option Addr) (c e0 : Nat) (w : World) (h_x : Raw w A c (natL n.natAbs)) (k_x : Raw w B e0 (natL d.natAbs)) (htab : powTab w) (hn : Fit n) (hd : Fit d) (hd1 : d = 1) :
    Calls Tryz.prog 141 #[.agg #[.bool (decide (n < 0)), .slice A (natL n.natAbs).length c, .bool (decide (d < 0)), .slice B (natL d.natAbs).length e0]] w fun e w' => e = .returned (.string ⟨(fracText n d).toArray⟩) ∧ Below w.heap.size w w' := by
  have HTW := Lib.hid htab
  obtain ⟨one, hone⟩ : ∃ k : Int, k = 1 := ⟨_, rfl⟩
  obtain ⟨k, hk⟩ : ∃ k : Int, k = cmpz d one := ⟨_, rfl⟩
  have H1 := Lib.hid hone
  have HK := Lib.hid hk
  have hnl : lz n ≤ 2048 := hn
  have hdl : lz d ≤ 2048 := hd
  have hol : lz one ≤ 2048 := by rw [hone]; decide
  have C3 := Lib.hid (fun (V : World) (h : Raw V A c (natL n.natAbs)) (htab : powTab V) => exact_Digits (decide (n < 0)) A c _ (canon_natL _) (by unfold lz at hnl; omega) V h htab)
  simp only [ival_at] at C3
  have hk0 : k = 0 := by rw [hk, hone, hd1]; decide
  have HD := Lib.hid (show fracText n d = Lib.itoa n from if_pos hd1)
  obtain ⟨t1, ht1⟩ : ∃ t : ByteArray, t = ⟨(Lib.itoa n).toArray⟩ := ⟨_, rfl⟩
  rw [← ht1] at C3
  have HT1 := Lib.hid ht1
  clear htab hone hk hn hd hd1 ht1
  have b0 := ((Below.refl w.heap.size w).alloc (Nat.le_refl _) (.cells #[.bool (decide (n < 0)), .slice A (natL n.natAbs).length c, .bool (decide (d < 0)), .slice B (natL d.natAbs).length e0] 30))
  have p0 := Quad.new w (.bool (decide (n < 0))) (.slice A (natL n.natAbs).length c) (.bool (decide (d < 0))) (.slice B (natL d.natAbs).length e0)
  have V_x := Lib.hid (FV.mk p0 (h_x.below b0) (k_x.below b0))
  have KW_x := Lib.hid k_x
  have RW_x := Lib.hid h_x
  have HBW := Lib.hid b0
  clear b0 p0 h_x k_x
  go_enter Tryz.func141, Tryz.ntmps141
  obtain ⟨W, E⟩ : ∃ W, W = (w.alloc (.cells #[.bool (decide (n < 0)), .slice A (natL n.natAbs).length c, .bool (decide (d < 0)), .slice B (natL d.natAbs).length e0] 30)) := ⟨_, rfl⟩
  go_upto_region 1 with fail
  rw [← E] at V_x HBW ⊢
  clear E
  have HT := Lib.hid (HTW.out.below2 HBW.out)
  clear HTW
  subst hk0
  refine wp_region_free [.val (.pointer (some ⟨w.heap.size, 2, none⟩)) [], .val (.agg #[.bool (decide (d < 0)), .slice B (natL d.natAbs).length e0]) [], .any false (fun u V => IntAt V u one) [], .val (.int .i64 0) [2], .val (.bool true) []] W.heap.size W [] blkInt _ mixedOrders2 (Nat.le_refl _) (Below.refl _ _) (KeptV.refl _ _ _) rfl (by kernel_rfl) (by kernel_rfl) (by kernel_rfl) (by kernel_rfl) (by kernel_rfl) (by kernel_rfl) (by kernel_rfl) (by kernel_rfl) rfl (by simp [oldsF]) ?_ ?_ ?_ ?_
  · simp only [StableF, and_true]
    exact fun u V V' h k => h.keptNone k
  · simp only [OldsF]
  · simp (maxSteps := 4000000) [StepsF, DepF, freeAct, fill, pairs]
    repeat' (first | apply And.intro | (intro (u : Value)) | (intro (u : Nat)))
    all_goals first
    | (intro V hV hK
       have qx := (V_x.out.below hV).quad
       obtain ⟨-, a_x, b_x, c_x, d_x, -, -, -, -⟩ := qx.facts
       clear hV hK qx
       go_simp
       first
       | exact Below.refl _ _
       | ((with_reducible refine (eof 1 one H1.out (by decide) (by decide) V).mono ?_); rintro e w' ⟨v, rfl, hv, hb⟩; exact ⟨hv.at_, hb⟩))
    | (intro V hV hK h1
       have rg := (V_x.out.below hV).den
       obtain ⟨A5, c5, rfl, r5⟩ := h1.form
       clear hV hK h1
       go_simp
       refine (ecmp d one 0 B A5 e0 c5 V rg r5 (by omega) (by omega) HK.out).mono ?_
       rintro e w' ⟨rfl, hb⟩
       exact ⟨rfl, hb⟩)
  · simp [EndF, FactsF, freeAct, fill, pairs]
    intro u1 V hV hK _ _ _ _
    have HBW := Lib.hid (HBW.out.trans (hV.mono HBW.out.size))
    have V_x := Lib.hid (V_x.out.below hV)
    have HT := Lib.hid (HT.out.below2 hV)
    clear hV hK
    obtain ⟨l_x, a_x, b_x, c_x, d_x, -, -, -, -⟩ := V_x.out.quad.facts
    go_wp2_with fail
    refine (C3.out V V_x.out.num HT.out).mono ?_
    rintro e w9 ⟨rfl, hb⟩
    have HF := Lib.hid (belowTo HBW.out hb)
    clear l_x a_x b_x c_x d_x hb
    go_wp2_with fail
    go_ret
    exact ⟨by rw [HD.out, ← HT1.out]; rfl, HF.out⟩

set_option maxRecDepth 100000 in
set_option maxHeartbeats 2000000 in
theorem ratio_Digits_more (n d : Int) (A B : Option Addr) (c e0 : Nat) (w : World) (h_x : Raw w A c (natL n.natAbs)) (k_x : Raw w B e0 (natL d.natAbs)) (htab : powTab w) (hn : Fit n) (hd : Fit d) (hd1 : d ≠ 1) :
    Calls Tryz.prog 141 #[.agg #[.bool (decide (n < 0)), .slice A (natL n.natAbs).length c, .bool (decide (d < 0)), .slice B (natL d.natAbs).length e0]] w fun e w' => e = .returned (.string ⟨(fracText n d).toArray⟩) ∧ Below w.heap.size w w' := by
  have HTW := Lib.hid htab
  obtain ⟨one, hone⟩ : ∃ k : Int, k = 1 := ⟨_, rfl⟩
  obtain ⟨k, hk⟩ : ∃ k : Int, k = cmpz d one := ⟨_, rfl⟩
  have H1 := Lib.hid hone
  have HK := Lib.hid hk
  have hnl : lz n ≤ 2048 := hn
  have hdl : lz d ≤ 2048 := hd
  have hol : lz one ≤ 2048 := by rw [hone]; decide
  have C3 := Lib.hid (fun (V : World) (h : Raw V A c (natL n.natAbs)) (htab : powTab V) => exact_Digits (decide (n < 0)) A c _ (canon_natL _) (by unfold lz at hnl; omega) V h htab)
  simp only [ival_at] at C3
  have C4 := Lib.hid (fun (V : World) (h : Raw V B e0 (natL d.natAbs)) (htab : powTab V) => exact_Digits (decide (d < 0)) B e0 _ (canon_natL _) (by unfold lz at hdl; omega) V h htab)
  simp only [ival_at] at C4
  have hk0 : k ≠ 0 := by rw [hk, hone]; unfold cmpz; split <;> (try split) <;> omega
  have hs0 : (k == 0) = false := by simpa using hk0
  have HD := Lib.hid (show fracText n d = Lib.itoa n ++ 47 :: Lib.itoa d from if_neg hd1)
  have f1 := itoa_fit hn
  have f2 := itoa_fit hd
  obtain ⟨t1, ht1⟩ : ∃ t : ByteArray, t = ⟨(Lib.itoa n).toArray⟩ := ⟨_, rfl⟩
  obtain ⟨t2, ht2⟩ : ∃ t : ByteArray, t = ⟨(Lib.itoa d).toArray⟩ := ⟨_, rfl⟩
  have g1 : t1.size ≤ 65537 := by rw [ht1]; simpa [ByteArray.size] using f1
  have g2 : t2.size ≤ 65537 := by rw [ht2]; simpa [ByteArray.size] using f2
  obtain ⟨t3, ht3⟩ : ∃ t : ByteArray, t = t1 ++ ⟨#[47]⟩ := ⟨_, rfl⟩
  have g3 : t3.size = t1.size + 1 := by rw [ht3]; simp [ByteArray.size_append]; rfl
  have HC1 := Lib.hid (show ¬ 9223372036854775807 < t1.size + 1 from by omega)
  have HC2 := Lib.hid (show ¬ 9223372036854775807 < t3.size + t2.size from by omega)
  have HC3 := Lib.hid ht3
  have HTT := Lib.hid (show t3 ++ t2 = ⟨(fracText n d).toArray⟩ from by rw [HD.out, ht3, ht1, ht2, ByteArray.mk_append_mk, ByteArray.mk_append_mk]; simp)
  rw [← ht1] at C3
  rw [← ht2] at C4
  clear htab hone hk hn hd hd1 ht1 ht2 ht3 f1 f2 g1 g2 g3 HD hk0
  have b0 := ((Below.refl w.heap.size w).alloc (Nat.le_refl _) (.cells #[.bool (decide (n < 0)), .slice A (natL n.natAbs).length c, .bool (decide (d < 0)), .slice B (natL d.natAbs).length e0] 30))
  have p0 := Quad.new w (.bool (decide (n < 0))) (.slice A (natL n.natAbs).length c) (.bool (decide (d < 0))) (.slice B (natL d.natAbs).length e0)
  have V_x := Lib.hid (FV.mk p0 (h_x.below b0) (k_x.below b0))
  have KW_x := Lib.hid k_x
  have RW_x := Lib.hid h_x
  have HBW := Lib.hid b0
  clear b0 p0 h_x k_x
  go_enter Tryz.func141, Tryz.ntmps141
  obtain ⟨W, E⟩ : ∃ W, W = (w.alloc (.cells #[.bool (decide (n < 0)), .slice A (natL n.natAbs).length c, .bool (decide (d < 0)), .slice B (natL d.natAbs).length e0] 30)) := ⟨_, rfl⟩
  go_upto_region 1 with fail
  rw [← E] at V_x HBW ⊢
  clear E
  have HT := Lib.hid (HTW.out.below2 HBW.out)
  clear HTW
  refine wp_region_free [.val (.pointer (some ⟨w.heap.size, 2, none⟩)) [], .val (.agg #[.bool (decide (d < 0)), .slice B (natL d.natAbs).length e0]) [], .any false (fun u V => IntAt V u one) [], .val (.int .i64 k) [2], .val (.bool false) []] W.heap.size W [] blkInt _ mixedOrders2 (Nat.le_refl _) (Below.refl _ _) (KeptV.refl _ _ _) rfl (by kernel_rfl) (by kernel_rfl) (by kernel_rfl) (by kernel_rfl) (by kernel_rfl) (by kernel_rfl) (by kernel_rfl) (by kernel_rfl) rfl (by simp [oldsF]) ?_ ?_ ?_ ?_
  · simp only [StableF, and_true]
    exact fun u V V' h k => h.keptNone k
  · simp only [OldsF]
  · simp (maxSteps := 4000000) [StepsF, DepF, freeAct, fill, pairs]
    repeat' (first | apply And.intro | (intro (u : Value)) | (intro (u : Nat)))
    all_goals first
    | (intro V hV hK
       have qx := (V_x.out.below hV).quad
       obtain ⟨-, a_x, b_x, c_x, d_x, -, -, -, -⟩ := qx.facts
       clear hV hK qx
       go_simp
       first
       | exact Below.refl _ _
       | ((with_reducible refine (eof 1 one H1.out (by decide) (by decide) V).mono ?_); rintro e w' ⟨v, rfl, hv, hb⟩; exact ⟨hv.at_, hb⟩))
    | (intro V hV hK h1
       have rg := (V_x.out.below hV).den
       obtain ⟨A5, c5, rfl, r5⟩ := h1.form
       clear hV hK h1
       go_simp
       refine (ecmp d one k B A5 e0 c5 V rg r5 (by omega) (by omega) HK.out).mono ?_
       rintro e w' ⟨rfl, hb⟩
       exact ⟨rfl, hb⟩)
  · simp [EndF, FactsF, freeAct, fill, pairs]
    intro u1 V hV hK _ _ _ _
    have HBW := Lib.hid (HBW.out.trans (hV.mono HBW.out.size))
    have V_x := Lib.hid (V_x.out.below hV)
    have HT := Lib.hid (HT.out.below2 hV)
    have hV1 := HBW.out.size
    clear hV hK
    clear hs0
    go_wp2_with fail
    refine wp_region_free [.val (.pointer (some ⟨w.heap.size, 0, none⟩)) [], .val (.agg #[.bool (decide (n < 0)), .slice A (natL n.natAbs).length c]) [], .val (.string t1) [], .val (.string t3) [], .val (.pointer (some ⟨w.heap.size, 2, none⟩)) [], .val (.agg #[.bool (decide (d < 0)), .slice B (natL d.natAbs).length e0]) [], .val (.string t2) [], .val (.string (t3 ++ t2)) [], .val (.string (t3 ++ t2)) []] V.heap.size V [] blkInt _ mixedOrders2 (Nat.le_refl _) (Below.refl _ _) (KeptV.refl _ _ _) rfl (by kernel_rfl) (by kernel_rfl) (by kernel_rfl) (by kernel_rfl) (by kernel_rfl) (by kernel_rfl) (by kernel_rfl) (by kernel_rfl) rfl (by simp [oldsF]) ?_ ?_ ?_ ?_
    · simp only [StableF]
    · simp only [OldsF]
    · simp (maxSteps := 4000000) [StepsF, DepF, freeAct, fill, pairs]
      repeat' (first | apply And.intro | (intro (u : Value)) | (intro (u : Nat)))
      all_goals first
      | (intro V' hV hK
         have qx := V_x.out.below hV
         have ht := HT.out.below2 hV
         obtain ⟨-, a_x, b_x, c_x, d_x, -, -, -, -⟩ := qx.quad.facts
         clear hV hK
         go_simp
         first
         | exact Below.refl _ _
         | (rw [if_neg HC1.out, ← HC3.out]; go_simp; exact Below.refl _ _)
         | (rw [if_neg HC2.out]; go_simp; exact Below.refl _ _)
         | ((with_reducible refine (C3.out V' qx.num ht).mono ?_); rintro e w' ⟨rfl, hb⟩; exact ⟨rfl, hb⟩)
         | ((with_reducible refine (C4.out V' qx.den ht).mono ?_); rintro e w' ⟨rfl, hb⟩; exact ⟨rfl, hb⟩))
    · simp [EndF, FactsF, freeAct, fill, pairs]
      intro V' hV hK _ _ _
      have HF := Lib.hid (HBW.out.trans (hV.mono hV1))
      clear hV hK hV1
      go_wp2_with fail
      go_ret
      exact ⟨by rw [← HTT.out]; rfl, HF.out⟩

theorem ratio_Digits (n d : Int) (A B : Option Addr) (c e0 : Nat) (w : World) (h : Raw w A c (natL n.natAbs)) (g : Raw w B e0 (natL d.natAbs)) (htab : powTab w) (hn : Fit n) (hd : Fit d) :
    Calls Tryz.prog 141 #[.agg #[.bool (decide (n < 0)), .slice A (natL n.natAbs).length c, .bool (decide (d < 0)), .slice B (natL d.natAbs).length e0]] w fun e w' => e = .returned (.string ⟨(fracText n d).toArray⟩) ∧ Below w.heap.size w w' := by
  by_cases h1 : d = 1
  · exact ratio_Digits_one n d A B c e0 w h g htab hn hd h1
  · exact ratio_Digits_more n d A B c e0 w h g htab hn hd h1

set_option maxRecDepth 100000 in
set_option maxHeartbeats 1000000 in
theorem ratio_Sign (n s : Int) (d : Int) (A B : Option Addr) (c e0 : Nat) (w : World) (h : Raw w A c (natL n.natAbs)) (hs : s = n.sign) :
    Calls Tryz.prog 130 #[.agg #[.bool (decide (n < 0)), .slice A (natL n.natAbs).length c, .bool (decide (d < 0)), .slice B (natL d.natAbs).length e0]] w fun e w' => e = .returned (.int .i64 s) ∧ Below w.heap.size w w' := by
  have px := Quad.new w (.bool (decide (n < 0))) (.slice A (natL n.natAbs).length c) (.bool (decide (d < 0))) (.slice B (natL d.natAbs).length e0)
  have b0 := (Below.refl w.heap.size w).alloc (Nat.le_refl _) (.cells #[.bool (decide (n < 0)), .slice A (natL n.natAbs).length c, .bool (decide (d < 0)), .slice B (natL d.natAbs).length e0] 30)
  have C := Lib.hid (esign n s A c _ (h.below b0) hs)
  have B0 := Lib.hid b0
  obtain ⟨-, x0, x1, x2, x3, -, -, -, -⟩ := px.facts
  clear h hs px b0
  go_enter Tryz.func130, Tryz.ntmps130
  go_wp2_with fail
  refine C.out.mono ?_
  rintro e w1 ⟨rfl, hb⟩
  have HF := Lib.hid (belowTo B0.out hb)
  clear x0 x1 x2 x3 hb
  go_wp2_with fail
  go_ret
  exact ⟨rfl, HF.out⟩

set_option maxRecDepth 100000 in
set_option maxHeartbeats 1000000 in
theorem frac_Sign_good (n d s : Int) (A B : Option Addr) (c e0 : Nat) (w : World) (h : Raw w A c (natL n.natAbs)) (g : Raw w B e0 (natL d.natAbs)) (hc : chkE (decide (n < 0)) (decide (d < 0)) (natL n.natAbs) (natL d.natAbs) = 0) (hs : s = n.sign) :
    Calls Tryz.prog 34 #[.agg #[.bool (decide (n < 0)), .slice A (natL n.natAbs).length c, .bool (decide (d < 0)), .slice B (natL d.natAbs).length e0]] w fun e w' => e = .returned (.int .i64 s) ∧ Below w.heap.size w w' := by
  have C1 := fun (V : World) (g' : Nat) (h : Raw V A c (natL n.natAbs)) (g : Raw V B e0 (natL d.natAbs)) (hg : V.heap.size = g') => checks_new (decide (n < 0)) (decide (d < 0)) A B c e0 _ _ V g' h g hg
  rw [hc] at C1
  have H1 := Lib.hid C1
  have H2 := Lib.hid (fun (V : World) (h : Raw V A c (natL n.natAbs)) => ratio_Sign n s d A B c e0 V h hs)
  clear C1 hc hs
  have px := Quad.new w (.bool (decide (n < 0))) (.slice A (natL n.natAbs).length c) (.bool (decide (d < 0))) (.slice B (natL d.natAbs).length e0)
  have b0 := (Below.refl w.heap.size w).alloc (Nat.le_refl _) (.cells #[.bool (decide (n < 0)), .slice A (natL n.natAbs).length c, .bool (decide (d < 0)), .slice B (natL d.natAbs).length e0] 30)
  have h1 := h.below b0
  have g1 := g.below b0
  have PX := Lib.hid px
  have B0 := Lib.hid b0
  have RX := Lib.hid h1
  have RY := Lib.hid g1
  clear px b0 h g h1 g1
  go_enter Tryz.func34, Tryz.ntmps34
  obtain ⟨W, E⟩ : ∃ W, W = w.alloc (.cells #[.bool (decide (n < 0)), .slice A (natL n.natAbs).length c, .bool (decide (d < 0)), .slice B (natL d.natAbs).length e0] 30) := ⟨_, rfl⟩
  go_upto_region 1 with fail
  rw [← E] at PX B0 RX RY ⊢
  clear E
  obtain ⟨l_x, a_x, b_x, c_x, d_x, -, -, -, -⟩ := PX.out.facts
  go_wp2_with fail
  refine (H1.out W _ RX.out RY.out rfl).mono ?_
  rintro e w1 ⟨rfl, hb⟩
  have PX := Lib.hid ((PX.out.alloc (.cells #[.bool (decide (n < 0)), .slice A (natL n.natAbs).length c, .bool (decide (d < 0)), .slice B (natL d.natAbs).length e0] 30)).below hb)
  have BB := Lib.hid (belowTo (B0.out.alloc B0.out.size (.cells #[.bool (decide (n < 0)), .slice A (natL n.natAbs).length c, .bool (decide (d < 0)), .slice B (natL d.natAbs).length e0] 30)) hb)
  have RX := Lib.hid ((RX.out.alloc (.cells #[.bool (decide (n < 0)), .slice A (natL n.natAbs).length c, .bool (decide (d < 0)), .slice B (natL d.natAbs).length e0] 30)).below hb)
  have RY := Lib.hid ((RY.out.alloc (.cells #[.bool (decide (n < 0)), .slice A (natL n.natAbs).length c, .bool (decide (d < 0)), .slice B (natL d.natAbs).length e0] 30)).below hb)
  clear B0 hb l_x a_x b_x c_x d_x
  obtain ⟨l_x, a_x, b_x, c_x, d_x, -, -, -, -⟩ := PX.out.facts
  go_wp2_with fail
  refine (H2.out w1 RX.out).mono ?_
  rintro e w2 ⟨rfl, hb⟩
  have HF := Lib.hid (belowTo BB.out hb)
  clear hb l_x a_x b_x c_x d_x
  go_wp2_with fail
  go_ret
  exact ⟨rfl, HF.out⟩

set_option maxRecDepth 100000 in
set_option maxHeartbeats 1000000 in
theorem frac_Text_good (n d : Int) (t : ByteArray) (A B : Option Addr) (c e0 : Nat) (w : World) (h : Raw w A c (natL n.natAbs)) (g : Raw w B e0 (natL d.natAbs)) (htab : powTab w) (hn : Fit n) (hd : Fit d) (hc : chkE (decide (n < 0)) (decide (d < 0)) (natL n.natAbs) (natL d.natAbs) = 0) (ht : t = ⟨(fracText n d).toArray⟩) (hsz : t.size ≤ 65536) :
    Calls Tryz.prog 48 #[.agg #[.bool (decide (n < 0)), .slice A (natL n.natAbs).length c, .bool (decide (d < 0)), .slice B (natL d.natAbs).length e0]] w fun e w' => e = .returned (.tuple #[.string t, .int .i64 0]) ∧ Below w.heap.size w w' := by
  have C1 := fun (V : World) (g' : Nat) (h : Raw V A c (natL n.natAbs)) (g : Raw V B e0 (natL d.natAbs)) (hg : V.heap.size = g') => checks_new (decide (n < 0)) (decide (d < 0)) A B c e0 _ _ V g' h g hg
  rw [hc] at C1
  have C2 := fun (V : World) (h : Raw V A c (natL n.natAbs)) (g : Raw V B e0 (natL d.natAbs)) (htab : powTab V) => ratio_Digits n d A B c e0 V h g htab hn hd
  rw [← ht] at C2
  have H1 := Lib.hid C1
  have H2 := Lib.hid C2
  have HTW := Lib.hid htab
  have hz : (t.size : Int) ≤ 65536 := by omega
  clear C1 C2 hc ht htab hn hd hsz
  have px := Quad.new w (.bool (decide (n < 0))) (.slice A (natL n.natAbs).length c) (.bool (decide (d < 0))) (.slice B (natL d.natAbs).length e0)
  have b0 := (Below.refl w.heap.size w).alloc (Nat.le_refl _) (.cells #[.bool (decide (n < 0)), .slice A (natL n.natAbs).length c, .bool (decide (d < 0)), .slice B (natL d.natAbs).length e0] 30)
  have h1 := h.below b0
  have g1 := g.below b0
  have PX := Lib.hid px
  have B0 := Lib.hid b0
  have RX := Lib.hid h1
  have RY := Lib.hid g1
  clear px b0 h g h1 g1
  go_enter Tryz.func48, Tryz.ntmps48
  obtain ⟨W, E⟩ : ∃ W, W = w.alloc (.cells #[.bool (decide (n < 0)), .slice A (natL n.natAbs).length c, .bool (decide (d < 0)), .slice B (natL d.natAbs).length e0] 30) := ⟨_, rfl⟩
  go_upto_region 1 with fail
  rw [← E] at PX B0 RX RY ⊢
  clear E
  obtain ⟨l_x, a_x, b_x, c_x, d_x, -, -, -, -⟩ := PX.out.facts
  go_wp2_with fail
  refine (H1.out W _ RX.out RY.out rfl).mono ?_
  rintro e w1 ⟨rfl, hb⟩
  have PX := Lib.hid ((PX.out.alloc (.cells #[.bool (decide (n < 0)), .slice A (natL n.natAbs).length c, .bool (decide (d < 0)), .slice B (natL d.natAbs).length e0] 30)).below hb)
  have BB := Lib.hid (belowTo (B0.out.alloc B0.out.size (.cells #[.bool (decide (n < 0)), .slice A (natL n.natAbs).length c, .bool (decide (d < 0)), .slice B (natL d.natAbs).length e0] 30)) hb)
  have RX := Lib.hid ((RX.out.alloc (.cells #[.bool (decide (n < 0)), .slice A (natL n.natAbs).length c, .bool (decide (d < 0)), .slice B (natL d.natAbs).length e0] 30)).below hb)
  have RY := Lib.hid ((RY.out.alloc (.cells #[.bool (decide (n < 0)), .slice A (natL n.natAbs).length c, .bool (decide (d < 0)), .slice B (natL d.natAbs).length e0] 30)).below hb)
  have HT := Lib.hid (HTW.out.below2 BB.out)
  clear HTW B0 hb l_x a_x b_x c_x d_x
  obtain ⟨l_x, a_x, b_x, c_x, d_x, -, -, -, -⟩ := PX.out.facts
  go_wp2_with fail
  refine (H2.out w1 RX.out RY.out HT.out).mono ?_
  rintro e w2 ⟨rfl, hb⟩
  have HF := Lib.hid (belowTo BB.out hb)
  clear hb l_x a_x b_x c_x d_x
  go_wp2_with fail
  go_ret2
  exact ⟨rfl, HF.out⟩
end Go.Proofs.YtadmoheohmbieaaGreatDoor

/- lives of the laws of chapter 02: the answers that the document fixes. -/
namespace Go.Proofs.YtadmoheohmbieaaGreatDoor
open Go.RowKit

theorem frac_text_const : (⟨#[45, 51, 47, 50]⟩ : ByteArray) = ⟨(fracText (-3) 2).toArray⟩ := by
  have h3 : Lib.itoa (-3) = [45, 51] := by
    rw [show (-3 : Int) = -((3 : Nat) : Int) from rfl, Lib.itoa_neg _ (by decide), Lib.decDigits_one (by omega)]; rfl
  have h2 : Lib.itoa 2 = [50] := by
    rw [show (2 : Int) = ((2 : Nat) : Int) from rfl, Lib.itoa_nonneg, Lib.decDigits_one (by omega)]; rfl
  unfold fracText
  rw [if_neg (by decide), h3, h2]
  rfl

set_option maxRecDepth 100000 in
set_option maxHeartbeats 1000000 in
theorem lives_true (w : World) (htab : powTab w) :
    Calls Tryz.prog 25 #[] w fun e w' => e = .returned (.bool true) ∧ Below w.heap.size w w' := by
  have C1 := fun (V : World) => frac_Of 6 (-4) (by decide) (by decide) (by decide) (by decide) V
  have C2 := fun (V : World) => frac_Of 1 0 (by decide) (by decide) (by decide) (by decide) V
  rw [show zN 6 (-4) = -3 by decide +kernel, show zD 6 (-4) = 2 by decide +kernel, show zE (-4) = 0 by decide] at C1
  rw [show zN 1 0 = 0 by decide +kernel, show zD 1 0 = 0 by decide +kernel, show zE 0 = 3 by decide] at C2
  obtain ⟨n, hn⟩ : ∃ k : Int, k = -3 := ⟨_, rfl⟩
  obtain ⟨d, hd⟩ : ∃ k : Int, k = 2 := ⟨_, rfl⟩
  rw [← hn, ← hd] at C1
  obtain ⟨z, hz⟩ : ∃ k : Int, k = 0 := ⟨_, rfl⟩
  have C2 : ∀ V : World, Calls Tryz.prog 17 #[.int .i64 1, .int .i64 0] V (RetFracOwn2 V.heap.size V z z 3) := by rw [hz]; exact C2
  have fn : Fit n := Fit.small (by rw [hn]; decide)
  have fd : Fit d := Fit.small (by rw [hd]; decide)
  have hc : chkE (decide (n < 0)) (decide (d < 0)) (natL n.natAbs) (natL d.natAbs) = 0 := by
    unfold chkE mkOk
    rw [fn.ok, fd.ok, ival_at, ival_at, hn, hd]
    decide +kernel
  have C3 := fun (V : World) (A B : Option Addr) (c e0 : Nat) (h : Raw V A c (natL n.natAbs)) (g : Raw V B e0 (natL d.natAbs)) (ht : powTab V) => frac_Text_good n d ⟨#[45, 51, 47, 50]⟩ A B c e0 V h g ht fn fd hc (by rw [hn, hd]; exact frac_text_const) (by decide)
  have C4 := fun (V : World) (A B : Option Addr) (c e0 : Nat) (h : Raw V A c (natL n.natAbs)) (g : Raw V B e0 (natL d.natAbs)) => frac_Sign_good n d (-1) A B c e0 V h g hc (by rw [hn]; decide)
  have H1 := Lib.hid C1
  have H2 := Lib.hid C2
  have H3 := Lib.hid C3
  have H4 := Lib.hid C4
  have HT := Lib.hid htab
  clear C1 C2 C3 C4 fn fd hc hn hd hz htab
  go_enter Tryz.func25, Tryz.ntmps25
  go_wp2_with fail
  refine (H1.out w).mono ?_
  rintro e w1 ⟨v, rfl, hI, h1⟩
  have T1 := Lib.hid h1
  obtain ⟨A, c, B, e0, rfl, i1, i2, -⟩ := hI.form
  obtain ⟨gx, hgx⟩ : ∃ k, k = w1.heap.size := ⟨_, rfl⟩
  obtain ⟨W, E⟩ : ∃ W, W = w1.alloc (.cells #[.bool (decide (n < 0)), .slice A (natL n.natAbs).length c, .bool (decide (d < 0)), .slice B (natL d.natAbs).length e0] 30) := ⟨_, rfl⟩
  have px := Quad.new w1 (.bool (decide (n < 0))) (.slice A (natL n.natAbs).length c) (.bool (decide (d < 0))) (.slice B (natL d.natAbs).length e0)
  have r1 := i1.rawAt.alloc (.cells #[.bool (decide (n < 0)), .slice A (natL n.natAbs).length c, .bool (decide (d < 0)), .slice B (natL d.natAbs).length e0] 30)
  have r2 := i2.rawAt.alloc (.cells #[.bool (decide (n < 0)), .slice A (natL n.natAbs).length c, .bool (decide (d < 0)), .slice B (natL d.natAbs).length e0] 30)
  have T2 := T1.out.alloc T1.out.size (.cells #[.bool (decide (n < 0)), .slice A (natL n.natAbs).length c, .bool (decide (d < 0)), .slice B (natL d.natAbs).length e0] 30)
  clear hI i1 i2 h1
  go_upto_region 2 with fail
  rw [← E, ← hgx] at px ⊢
  rw [← E] at r1 r2 T2
  have PX := Lib.hid px
  have R1 := Lib.hid r1
  have R2 := Lib.hid r2
  have T2 := Lib.hid T2
  clear E hgx px r1 r2 T1
  go_wp2_with fail
  refine (H2.out W).mono ?_
  rintro e w2 ⟨v, rfl, hI, h2⟩
  obtain ⟨A9, c9, B9, e9, rfl, -⟩ := hI.form
  obtain ⟨Y, E⟩ : ∃ Y, Y = w2.alloc (.cells #[.bool (decide (z < 0)), .slice A9 (natL z.natAbs).length c9, .bool (decide (z < 0)), .slice B9 (natL z.natAbs).length e9] 30) := ⟨_, rfl⟩
  have h3 := h2.alloc h2.size (.cells #[.bool (decide (z < 0)), .slice A9 (natL z.natAbs).length c9, .bool (decide (z < 0)), .slice B9 (natL z.natAbs).length e9] 30)
  go_upto_region 3 with fail
  rw [← E] at h3 ⊢
  have PX := Lib.hid (PX.out.below h3)
  have R1 := Lib.hid (R1.out.below h3)
  have R2 := Lib.hid (R2.out.below h3)
  have T3 := Lib.hid (belowTo T2.out h3)
  have HT := Lib.hid (HT.out.below2 T3.out)
  clear E hI h2 h3 T2
  obtain ⟨l_x, a_x, b_x, c_x, d_x, -, -, -, -⟩ := PX.out.facts
  go_wp2_with fail
  refine (H3.out Y A B c e0 R1.out R2.out HT.out).mono ?_
  rintro e w3 ⟨rfl, h4⟩
  have PX := Lib.hid (PX.out.below h4)
  have R1 := Lib.hid (R1.out.below h4)
  have R2 := Lib.hid (R2.out.below h4)
  have T4 := Lib.hid (belowTo T3.out h4)
  clear h4 T3 HT l_x a_x b_x c_x d_x
  obtain ⟨l_x, a_x, b_x, c_x, d_x, -, -, -, -⟩ := PX.out.facts
  go_wp2_with fail
  refine (H4.out w3 A B c e0 R1.out R2.out).mono ?_
  rintro e w4 ⟨rfl, h5⟩
  have HF := Lib.hid (belowTo T4.out h5)
  clear h5 T4 l_x a_x b_x c_x d_x
  go_wp2_with fail
  go_ret
  exact ⟨rfl, HF.out⟩
end Go.Proofs.YtadmoheohmbieaaGreatDoor
