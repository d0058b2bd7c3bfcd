/- Several texts in one: FText, Book, Keep, KeepFar. -/
import Derived.Test.YthlehkjcfhnplaaGreatDoorGc22
import Derived.Test.YthlehkjcfhnplaaGreatDoorGcHd
import Derived.Laws.Concat
import Derived.Test.YthlehkjcfhnplaaGreatDoorGc13
import Derived.Test.YthlehkjcfhnplaaGreatDoorGc14
set_option maxRecDepth 100000
set_option maxHeartbeats 8000000
/- Digits of package ratio; Text and Sign of package frac. (Written by wip/frac/gentext.py.) -/
namespace Go.Proofs.YthlehkjcfhnplaaGreatDoor
open Go.RowKit

theorem powTab.below2 {w w' : World} (h : powTab w) (hb : Below w.heap.size w w') : powTab w' := Lib.tabBelow_of_tabIs h w' hb
theorem dec_fit_any (k : Nat) (hk : 0 < k) {x : Nat} (h : (natL x).length ≤ k) : (Lib.decDigits x).length ≤ 32 * k := by
  refine dec_short (32 * k) x (by omega) ?_
  have h1 : x < 2 ^ (32 * k) := by
    have := natL_length_le.1 h
    rw [show 4294967296 = 2 ^ 32 by decide, ← Nat.pow_mul] at this
    exact this
  exact Nat.lt_of_lt_of_le h1 (Nat.pow_le_pow_left (by decide) _)
theorem dec_fit {x : Nat} (h : (natL x).length ≤ 2048) : (Lib.decDigits x).length ≤ 65536 := dec_fit_any 2048 (by omega) h
theorem itoa_fit {x : Int} (h : Fit x) : (Lib.itoa x).length ≤ 65537 := by
  have := dec_fit (x := x.natAbs) h
  unfold Lib.itoa
  split
  · simp; omega
  · rw [show x.toNat = x.natAbs by omega]; omega
def fracText (n d : Int) : List UInt8 := if d = 1 then Lib.itoa n else Lib.itoa n ++ 47 :: Lib.itoa d

theorem ratio_Digits_one (n d : Int) (A B : Option Addr) (c e0 : Nat) (w : World) (h_x : Raw w A c (natL n.natAbs)) (k_x : Raw w B e0 (natL d.natAbs)) (htab : powTab w) (hn : Fit n) (hd : Fit d) (hd1 : d = 1) :
    Calls Tryz.prog 147 #[.agg #[.bool (decide (n < 0)), .slice A (natL n.natAbs).length c, .bool (decide (d < 0)), .slice B (natL d.natAbs).length e0]] w fun e w' => e = .returned (.string ⟨(fracText n d).toArray⟩) ∧ Below w.heap.size w w' := by
  have HTW := Hd htab
  obtain ⟨one, hone⟩ : ∃ k : Int, k = 1 := ⟨_, rfl⟩
  obtain ⟨k, hk⟩ : ∃ k : Int, k = cmpz d one := ⟨_, rfl⟩
  have H1 := Hd hone
  have HK := Hd hk
  have hnl : lz n ≤ 2048 := hn
  have hdl : lz d ≤ 2048 := hd
  have hol : lz one ≤ 2048 := by rw [hone]; decide
  have C3 := Hd (fun (V : World) (h : Raw V A c (natL n.natAbs)) (htab : powTab V) => exact_Digits (decide (n < 0)) A c _ (canon_natL _) (by unfold lz at hnl; omega) V h htab)
  simp only [ival_at] at C3
  have hk0 : k = 0 := by rw [hk, hone, hd1]; decide
  have HD := Hd (show fracText n d = Lib.itoa n from if_pos hd1)
  obtain ⟨t1, ht1⟩ : ∃ t : ByteArray, t = ⟨(Lib.itoa n).toArray⟩ := ⟨_, rfl⟩
  rw [← ht1] at C3
  have HT1 := Hd ht1
  clear htab hone hk hn hd hd1 ht1
  have b0 := ((Below.refl w.heap.size w).alloc (Nat.le_refl _) (.cells #[.bool (decide (n < 0)), .slice A (natL n.natAbs).length c, .bool (decide (d < 0)), .slice B (natL d.natAbs).length e0] 26))
  have p0 := Quad.new w (.bool (decide (n < 0))) (.slice A (natL n.natAbs).length c) (.bool (decide (d < 0))) (.slice B (natL d.natAbs).length e0)
  have V_x := Hd (FV.mk p0 (h_x.below b0) (k_x.below b0))
  have KW_x := Hd k_x
  have RW_x := Hd h_x
  have HBW := Hd b0
  clear b0 p0 h_x k_x
  go_enter Tryz.func147, Tryz.ntmps147
  obtain ⟨W, E⟩ : ∃ W, W = (w.alloc (.cells #[.bool (decide (n < 0)), .slice A (natL n.natAbs).length c, .bool (decide (d < 0)), .slice B (natL d.natAbs).length e0] 26)) := ⟨_, rfl⟩
  go_upto_region 1 with fail
  rw [← E] at V_x HBW ⊢
  clear E
  have HT := Hd (HTW.out.below2 HBW.out)
  clear HTW
  subst hk0
  refine wp_region_free [.val (.pointer (some ⟨w.heap.size, 2, none⟩)) [], .val (.agg #[.bool (decide (d < 0)), .slice B (natL d.natAbs).length e0]) [], .any false (fun u V => IntAt V u one) [], .val (.int .i64 0) [2], .val (.bool true) []] W.heap.size W [] blkInt _ mixedOrders2 (Nat.le_refl _) (Below.refl _ _) (KeptV.refl _ _ _) rfl (by kernel_rfl) (by kernel_rfl) (by kernel_rfl) (by kernel_rfl) (by kernel_rfl) (by kernel_rfl) (by kernel_rfl) (by kernel_rfl) rfl (by simp [oldsF]) ?_ ?_ ?_ ?_
  · simp only [StableF, and_true]
    exact fun u V V' h k => h.keptNone k
  · simp only [OldsF]
  · simp (maxSteps := 4000000) [StepsF, DepF, freeAct, fill, pairs]
    repeat' (first | apply And.intro | (intro (u : Value)) | (intro (u : Nat)))
    all_goals first
    | (intro V hV hK
       have qx := (V_x.out.below hV).quad
       obtain ⟨-, a_x, b_x, c_x, d_x, -, -, -, -⟩ := qx.facts
       clear hV hK qx
       go_simp
       first
       | exact Below.refl _ _
       | ((with_reducible refine (eof 1 one H1.out (by decide) (by decide) V).mono ?_); rintro e w' ⟨v, rfl, hv, hb⟩; exact ⟨hv.at_, hb⟩))
    | (intro V hV hK h1
       have rg := (V_x.out.below hV).den
       obtain ⟨A5, c5, rfl, r5⟩ := h1.form
       clear hV hK h1
       go_simp
       refine (ecmp d one 0 B A5 e0 c5 V rg r5 (by omega) (by omega) HK.out).mono ?_
       rintro e w' ⟨rfl, hb⟩
       exact ⟨rfl, hb⟩)
  · simp [EndF, FactsF, freeAct, fill, pairs]
    intro u1 V hV hK _ _ _ _
    have HBW := Hd (HBW.out.trans (hV.mono HBW.out.size))
    have V_x := Hd (V_x.out.below hV)
    have HT := Hd (HT.out.below2 hV)
    clear hV hK
    obtain ⟨l_x, a_x, b_x, c_x, d_x, -, -, -, -⟩ := V_x.out.quad.facts
    go_wp2_with fail
    refine (C3.out V V_x.out.num HT.out).mono ?_
    rintro e w9 ⟨rfl, hb⟩
    have HF := Hd (belowTo HBW.out hb)
    clear l_x a_x b_x c_x d_x hb
    go_wp2_with fail
    go_ret
    exact ⟨by rw [HD.out, ← HT1.out]; rfl, HF.out⟩

theorem ratio_Digits_more (n d : Int) (A B : Option Addr) (c e0 : Nat) (w : World) (h_x : Raw w A c (natL n.natAbs)) (k_x : Raw w B e0 (natL d.natAbs)) (htab : powTab w) (hn : Fit n) (hd : Fit d) (hd1 : d ≠ 1) :
    Calls Tryz.prog 147 #[.agg #[.bool (decide (n < 0)), .slice A (natL n.natAbs).length c, .bool (decide (d < 0)), .slice B (natL d.natAbs).length e0]] w fun e w' => e = .returned (.string ⟨(fracText n d).toArray⟩) ∧ Below w.heap.size w w' := by
  have HTW := Hd htab
  obtain ⟨one, hone⟩ : ∃ k : Int, k = 1 := ⟨_, rfl⟩
  obtain ⟨k, hk⟩ : ∃ k : Int, k = cmpz d one := ⟨_, rfl⟩
  have H1 := Hd hone
  have HK := Hd hk
  have hnl : lz n ≤ 2048 := hn
  have hdl : lz d ≤ 2048 := hd
  have hol : lz one ≤ 2048 := by rw [hone]; decide
  have C3 := Hd (fun (V : World) (h : Raw V A c (natL n.natAbs)) (htab : powTab V) => exact_Digits (decide (n < 0)) A c _ (canon_natL _) (by unfold lz at hnl; omega) V h htab)
  simp only [ival_at] at C3
  have C4 := Hd (fun (V : World) (h : Raw V B e0 (natL d.natAbs)) (htab : powTab V) => exact_Digits (decide (d < 0)) B e0 _ (canon_natL _) (by unfold lz at hdl; omega) V h htab)
  simp only [ival_at] at C4
  have hk0 : k ≠ 0 := by rw [hk, hone]; unfold cmpz; split <;> (try split) <;> omega
  have hs0 : (k == 0) = false := by simpa using hk0
  have HD := Hd (show fracText n d = Lib.itoa n ++ 47 :: Lib.itoa d from if_neg hd1)
  have f1 := itoa_fit hn
  have f2 := itoa_fit hd
  obtain ⟨t1, ht1⟩ : ∃ t : ByteArray, t = ⟨(Lib.itoa n).toArray⟩ := ⟨_, rfl⟩
  obtain ⟨t2, ht2⟩ : ∃ t : ByteArray, t = ⟨(Lib.itoa d).toArray⟩ := ⟨_, rfl⟩
  have g1 : t1.size ≤ 65537 := by rw [ht1]; simpa [ByteArray.size] using f1
  have g2 : t2.size ≤ 65537 := by rw [ht2]; simpa [ByteArray.size] using f2
  obtain ⟨t3, ht3⟩ : ∃ t : ByteArray, t = t1 ++ ⟨#[47]⟩ := ⟨_, rfl⟩
  have g3 : t3.size = t1.size + 1 := by rw [ht3]; simp [ByteArray.size_append]; rfl
  have HC1 := Hd (show ¬ 9223372036854775807 < t1.size + 1 from by omega)
  have HC2 := Hd (show ¬ 9223372036854775807 < t3.size + t2.size from by omega)
  have HC3 := Hd ht3
  have HTT := Hd (show t3 ++ t2 = ⟨(fracText n d).toArray⟩ from by rw [HD.out, ht3, ht1, ht2, ByteArray.mk_append_mk, ByteArray.mk_append_mk]; simp)
  rw [← ht1] at C3
  rw [← ht2] at C4
  clear htab hone hk hn hd hd1 ht1 ht2 ht3 f1 f2 g1 g2 g3 HD hk0
  have b0 := ((Below.refl w.heap.size w).alloc (Nat.le_refl _) (.cells #[.bool (decide (n < 0)), .slice A (natL n.natAbs).length c, .bool (decide (d < 0)), .slice B (natL d.natAbs).length e0] 26))
  have p0 := Quad.new w (.bool (decide (n < 0))) (.slice A (natL n.natAbs).length c) (.bool (decide (d < 0))) (.slice B (natL d.natAbs).length e0)
  have V_x := Hd (FV.mk p0 (h_x.below b0) (k_x.below b0))
  have KW_x := Hd k_x
  have RW_x := Hd h_x
  have HBW := Hd b0
  clear b0 p0 h_x k_x
  go_enter Tryz.func147, Tryz.ntmps147
  obtain ⟨W, E⟩ : ∃ W, W = (w.alloc (.cells #[.bool (decide (n < 0)), .slice A (natL n.natAbs).length c, .bool (decide (d < 0)), .slice B (natL d.natAbs).length e0] 26)) := ⟨_, rfl⟩
  go_upto_region 1 with fail
  rw [← E] at V_x HBW ⊢
  clear E
  have HT := Hd (HTW.out.below2 HBW.out)
  clear HTW
  refine wp_region_free [.val (.pointer (some ⟨w.heap.size, 2, none⟩)) [], .val (.agg #[.bool (decide (d < 0)), .slice B (natL d.natAbs).length e0]) [], .any false (fun u V => IntAt V u one) [], .val (.int .i64 k) [2], .val (.bool false) []] W.heap.size W [] blkInt _ mixedOrders2 (Nat.le_refl _) (Below.refl _ _) (KeptV.refl _ _ _) rfl (by kernel_rfl) (by kernel_rfl) (by kernel_rfl) (by kernel_rfl) (by kernel_rfl) (by kernel_rfl) (by kernel_rfl) (by kernel_rfl) rfl (by simp [oldsF]) ?_ ?_ ?_ ?_
  · simp only [StableF, and_true]
    exact fun u V V' h k => h.keptNone k
  · simp only [OldsF]
  · simp (maxSteps := 4000000) [StepsF, DepF, freeAct, fill, pairs]
    repeat' (first | apply And.intro | (intro (u : Value)) | (intro (u : Nat)))
    all_goals first
    | (intro V hV hK
       have qx := (V_x.out.below hV).quad
       obtain ⟨-, a_x, b_x, c_x, d_x, -, -, -, -⟩ := qx.facts
       clear hV hK qx
       go_simp
       first
       | exact Below.refl _ _
       | ((with_reducible refine (eof 1 one H1.out (by decide) (by decide) V).mono ?_); rintro e w' ⟨v, rfl, hv, hb⟩; exact ⟨hv.at_, hb⟩))
    | (intro V hV hK h1
       have rg := (V_x.out.below hV).den
       obtain ⟨A5, c5, rfl, r5⟩ := h1.form
       clear hV hK h1
       go_simp
       refine (ecmp d one k B A5 e0 c5 V rg r5 (by omega) (by omega) HK.out).mono ?_
       rintro e w' ⟨rfl, hb⟩
       exact ⟨rfl, hb⟩)
  · simp [EndF, FactsF, freeAct, fill, pairs]
    intro u1 V hV hK _ _ _ _
    have HBW := Hd (HBW.out.trans (hV.mono HBW.out.size))
    have V_x := Hd (V_x.out.below hV)
    have HT := Hd (HT.out.below2 hV)
    have hV1 := HBW.out.size
    clear hV hK
    clear hs0
    go_wp2_with fail
    refine wp_region_free [.val (.pointer (some ⟨w.heap.size, 0, none⟩)) [], .val (.agg #[.bool (decide (n < 0)), .slice A (natL n.natAbs).length c]) [], .val (.string t1) [], .val (.string t3) [], .val (.pointer (some ⟨w.heap.size, 2, none⟩)) [], .val (.agg #[.bool (decide (d < 0)), .slice B (natL d.natAbs).length e0]) [], .val (.string t2) [], .val (.string (t3 ++ t2)) [], .val (.string (t3 ++ t2)) []] V.heap.size V [] blkInt _ mixedOrders2 (Nat.le_refl _) (Below.refl _ _) (KeptV.refl _ _ _) rfl (by kernel_rfl) (by kernel_rfl) (by kernel_rfl) (by kernel_rfl) (by kernel_rfl) (by kernel_rfl) (by kernel_rfl) (by kernel_rfl) rfl (by simp [oldsF]) ?_ ?_ ?_ ?_
    · simp only [StableF]
    · simp only [OldsF]
    · simp (maxSteps := 4000000) [StepsF, DepF, freeAct, fill, pairs]
      repeat' (first | apply And.intro | (intro (u : Value)) | (intro (u : Nat)))
      all_goals first
      | (intro V' hV hK
         have qx := V_x.out.below hV
         have ht := HT.out.below2 hV
         obtain ⟨-, a_x, b_x, c_x, d_x, -, -, -, -⟩ := qx.quad.facts
         clear hV hK
         go_simp
         first
         | exact Below.refl _ _
         | (rw [if_neg HC1.out, ← HC3.out]; go_simp; exact Below.refl _ _)
         | (rw [if_neg HC2.out]; go_simp; exact Below.refl _ _)
         | ((with_reducible refine (C3.out V' qx.num ht).mono ?_); rintro e w' ⟨rfl, hb⟩; exact ⟨rfl, hb⟩)
         | ((with_reducible refine (C4.out V' qx.den ht).mono ?_); rintro e w' ⟨rfl, hb⟩; exact ⟨rfl, hb⟩))
    · simp [EndF, FactsF, freeAct, fill, pairs]
      intro V' hV hK _ _ _
      have HF := Hd (HBW.out.trans (hV.mono hV1))
      clear hV hK hV1
      go_wp2_with fail
      go_ret
      exact ⟨by rw [← HTT.out]; rfl, HF.out⟩

theorem ratio_Digits (n d : Int) (A B : Option Addr) (c e0 : Nat) (w : World) (h : Raw w A c (natL n.natAbs)) (g : Raw w B e0 (natL d.natAbs)) (htab : powTab w) (hn : Fit n) (hd : Fit d) :
    Calls Tryz.prog 147 #[.agg #[.bool (decide (n < 0)), .slice A (natL n.natAbs).length c, .bool (decide (d < 0)), .slice B (natL d.natAbs).length e0]] w fun e w' => e = .returned (.string ⟨(fracText n d).toArray⟩) ∧ Below w.heap.size w w' := by
  by_cases h1 : d = 1
  · exact ratio_Digits_one n d A B c e0 w h g htab hn hd h1
  · exact ratio_Digits_more n d A B c e0 w h g htab hn hd h1

theorem ratio_Sign (n s : Int) (d : Int) (A B : Option Addr) (c e0 : Nat) (w : World) (h : Raw w A c (natL n.natAbs)) (hs : s = n.sign) :
    Calls Tryz.prog 138 #[.agg #[.bool (decide (n < 0)), .slice A (natL n.natAbs).length c, .bool (decide (d < 0)), .slice B (natL d.natAbs).length e0]] w fun e w' => e = .returned (.int .i64 s) ∧ Below w.heap.size w w' := by
  have px := Quad.new w (.bool (decide (n < 0))) (.slice A (natL n.natAbs).length c) (.bool (decide (d < 0))) (.slice B (natL d.natAbs).length e0)
  have b0 := (Below.refl w.heap.size w).alloc (Nat.le_refl _) (.cells #[.bool (decide (n < 0)), .slice A (natL n.natAbs).length c, .bool (decide (d < 0)), .slice B (natL d.natAbs).length e0] 26)
  have C := Hd (esign n s A c _ (h.below b0) hs)
  have B0 := Hd b0
  obtain ⟨-, x0, x1, x2, x3, -, -, -, -⟩ := px.facts
  clear h hs px b0
  go_enter Tryz.func138, Tryz.ntmps138
  go_wp2_with fail
  refine C.out.mono ?_
  rintro e w1 ⟨rfl, hb⟩
  have HF := Hd (belowTo B0.out hb)
  clear x0 x1 x2 x3 hb
  go_wp2_with fail
  go_ret
  exact ⟨rfl, HF.out⟩

theorem frac_Sign_good (n d s : Int) (A B : Option Addr) (c e0 : Nat) (w : World) (h : Raw w A c (natL n.natAbs)) (g : Raw w B e0 (natL d.natAbs)) (hc : chkE (decide (n < 0)) (decide (d < 0)) (natL n.natAbs) (natL d.natAbs) = 0) (hs : s = n.sign) :
    Calls Tryz.prog 42 #[.agg #[.bool (decide (n < 0)), .slice A (natL n.natAbs).length c, .bool (decide (d < 0)), .slice B (natL d.natAbs).length e0]] w fun e w' => e = .returned (.int .i64 s) ∧ Below w.heap.size w w' := by
  have C1 := fun (V : World) (g' : Nat) (h : Raw V A c (natL n.natAbs)) (g : Raw V B e0 (natL d.natAbs)) (hg : V.heap.size = g') => checks_new (decide (n < 0)) (decide (d < 0)) A B c e0 _ _ V g' h g hg
  rw [hc] at C1
  have H1 := Hd C1
  have H2 := Hd (fun (V : World) (h : Raw V A c (natL n.natAbs)) => ratio_Sign n s d A B c e0 V h hs)
  clear C1 hc hs
  have px := Quad.new w (.bool (decide (n < 0))) (.slice A (natL n.natAbs).length c) (.bool (decide (d < 0))) (.slice B (natL d.natAbs).length e0)
  have b0 := (Below.refl w.heap.size w).alloc (Nat.le_refl _) (.cells #[.bool (decide (n < 0)), .slice A (natL n.natAbs).length c, .bool (decide (d < 0)), .slice B (natL d.natAbs).length e0] 26)
  have h1 := h.below b0
  have g1 := g.below b0
  have PX := Hd px
  have B0 := Hd b0
  have RX := Hd h1
  have RY := Hd g1
  clear px b0 h g h1 g1
  go_enter Tryz.func42, Tryz.ntmps42
  obtain ⟨W, E⟩ : ∃ W, W = w.alloc (.cells #[.bool (decide (n < 0)), .slice A (natL n.natAbs).length c, .bool (decide (d < 0)), .slice B (natL d.natAbs).length e0] 26) := ⟨_, rfl⟩
  go_upto_region 1 with fail
  rw [← E] at PX B0 RX RY ⊢
  clear E
  obtain ⟨l_x, a_x, b_x, c_x, d_x, -, -, -, -⟩ := PX.out.facts
  go_wp2_with fail
  refine (H1.out W _ RX.out RY.out rfl).mono ?_
  rintro e w1 ⟨rfl, hb⟩
  have PX := Hd ((PX.out.alloc (.cells #[.bool (decide (n < 0)), .slice A (natL n.natAbs).length c, .bool (decide (d < 0)), .slice B (natL d.natAbs).length e0] 26)).below hb)
  have BB := Hd (belowTo (B0.out.alloc B0.out.size (.cells #[.bool (decide (n < 0)), .slice A (natL n.natAbs).length c, .bool (decide (d < 0)), .slice B (natL d.natAbs).length e0] 26)) hb)
  have RX := Hd ((RX.out.alloc (.cells #[.bool (decide (n < 0)), .slice A (natL n.natAbs).length c, .bool (decide (d < 0)), .slice B (natL d.natAbs).length e0] 26)).below hb)
  have RY := Hd ((RY.out.alloc (.cells #[.bool (decide (n < 0)), .slice A (natL n.natAbs).length c, .bool (decide (d < 0)), .slice B (natL d.natAbs).length e0] 26)).below hb)
  clear B0 hb l_x a_x b_x c_x d_x
  obtain ⟨l_x, a_x, b_x, c_x, d_x, -, -, -, -⟩ := PX.out.facts
  go_wp2_with fail
  refine (H2.out w1 RX.out).mono ?_
  rintro e w2 ⟨rfl, hb⟩
  have HF := Hd (belowTo BB.out hb)
  clear hb l_x a_x b_x c_x d_x
  go_wp2_with fail
  go_ret
  exact ⟨rfl, HF.out⟩

/- A Book that holds lists of limbs: what lies in memory; keepLimb. -/

def markU (j : Nat) : Value := .int .u32 ((100001 + j : Nat) : Int)
abbrev nilS : Value := .slice none 0 0
abbrev bookC (m : Nat) (lims : Value) : Array Value := #[.int .i64 (m : Int), lims, nilS, nilS, nilS, nilS, nilS, nilS, nilS, nilS, nilS, nilS, nilS, nilS, nilS, nilS, nilS]
abbrev tBook : TypeId := 50
abbrev tHeld : TypeId := 113
abbrev tLimb : TypeId := 114
structure HeldArr (w : World) (g0 m : Nat) (l long : Nat → Value) : Prop where
  cells : ∃ cs, Blk w g0 tHeld cs ∧ ∀ j, j < m → cs[j * 3]? = some (l j) ∧ cs[j * 3 + 1]? = some (long j) ∧ cs[j * 3 + 2]? = some (.int .i64 ((j + 1 : Nat) : Int))
def updV (f : Nat → Value) (i : Nat) (v : Value) : Nat → Value := fun j => if j = i then v else f j
theorem updV_same (f : Nat → Value) (i : Nat) (v : Value) : updV f i v i = v := by simp [updV]
theorem updV_ne (f : Nat → Value) {i j : Nat} (v : Value) (h : j ≠ i) : updV f i v j = f j := by simp [updV, h]
def updL (f : Nat → List Value) (i : Nat) (v : List Value) : Nat → List Value := fun j => if j = i then v else f j
theorem HeldArr.below {w w' : World} {g0 m : Nat} {l long : Nat → Value} (h : HeldArr w g0 m l long) (hb : Below w.heap.size w w') : HeldArr w' g0 m l long := by
  obtain ⟨cs, h1, h2⟩ := h.cells
  exact ⟨cs, h1.below hb h1.lt, h2⟩
theorem HeldArr.lt {w : World} {g0 m : Nat} {l long : Nat → Value} (h : HeldArr w g0 m l long) : g0 < w.heap.size := by
  obtain ⟨cs, h1, _⟩ := h.cells
  exact h1.lt
theorem HeldArr.far {w : World} {g0 m g : Nat} {l long : Nat → Value} (h : HeldArr w g0 m l long) (hn : g0 ≠ g) (k : Nat) (u : Value) : HeldArr (w.setCell ⟨g, k, none⟩ u) g0 m l long := by
  obtain ⟨cs, h1, h2⟩ := h.cells
  exact ⟨cs, h1.far (p := ⟨g, k, none⟩) hn u, h2⟩
theorem HeldArr.kept {w w' : World} {g0 m : Nat} {l long : Nat → Value} (h : HeldArr w g0 m l long) {row : Option Nat} (hg : w.grownBy w' row) (hn : some g0 ≠ row) : HeldArr w' g0 m l long := by
  obtain ⟨cs, h1, h2⟩ := h.cells
  exact ⟨cs, (hg.block g0 h1.lt hn).trans h1, h2⟩
theorem HeldArr.set {w : World} {g0 m : Nat} {l long : Nat → Value} (h : HeldArr w g0 m l long) {i : Nat} (hi : i < m) (v : Value) : HeldArr (w.setCell ⟨g0, i * 3 + 1, none⟩ v) g0 m l (updV long i v) := by
  obtain ⟨cs, h1, h2⟩ := h.cells
  refine ⟨cs.setIfInBounds (i * 3 + 1) v, h1.set_ (i * 3 + 1) v, fun j hj => ?_⟩
  obtain ⟨a1, a2, a3⟩ := h2 j hj
  refine ⟨?_, ?_, ?_⟩
  · rw [Array.getElem?_setIfInBounds_ne (by omega)]; exact a1
  · by_cases e : j = i
    · subst e
      have hs : j * 3 + 1 < cs.size := (Array.getElem?_eq_some_iff.1 a2).1
      rw [updV_same]; simp [hs]
    · rw [Array.getElem?_setIfInBounds_ne (by omega), updV_ne _ _ e]; exact a2
  · rw [Array.getElem?_setIfInBounds_ne (by omega)]; exact a3
theorem HeldArr.at_ {w : World} {g0 m : Nat} {l long : Nat → Value} (h : HeldArr w g0 m l long) {i : Nat} (hi : i < m) :
    w.cell? ⟨g0, i * 3, none⟩ = some (l i) ∧ w.cell? ⟨g0, i * 3 + 1, none⟩ = some (long i) ∧ w.cell? ⟨g0, i * 3 + 2, none⟩ = some (.int .i64 ((i + 1 : Nat) : Int)) ∧ w.frozen? ⟨g0, i * 3 + 1, none⟩ = false := by
  obtain ⟨cs, h1, h2⟩ := h.cells
  obtain ⟨a1, a2, a3⟩ := h2 i hi
  exact ⟨by rw [h1.cell]; exact a1, by rw [h1.cell]; exact a2, by rw [h1.cell]; exact a3, h1.frozen _⟩

theorem own_cut {w : World} {base : Nat} {e : TypeId} {A : Option Addr} {n c k : Nat} {xs : List Value} (h : w.ownsRow base e 1 (.slice A n c) n xs) (hk : k ≤ n) : w.ownsRow base e 1 (.slice A k c) k (xs.take k) := by
  rcases h.2 with ⟨h1, h2⟩ | ⟨g, cap, cur, h1, h2, h3, h4, h5, h6, h7⟩
  · injection h1 with a1 a2 a3
    subst a1 a3
    have : k = 0 := by omega
    subst this
    exact ⟨by simp, .inl ⟨rfl, rfl⟩⟩
  · injection h1 with a1 a2 a3
    subst a1 a3
    have hl := h.1
    refine ⟨by rw [List.length_take]; omega, .inr ⟨g, c, cur, rfl, h2, h3, by omega, h5, h6, ?_⟩⟩
    rw [← h7, List.take_take, Nat.mul_one, Nat.mul_one, Nat.min_eq_left (by omega)]

structure Plain (b g0 m B0 : Nat) (l : Nat → Value) (n : Nat → Nat) : Prop where
  hb : B0 ≤ b
  hg : b < g0
  hm : m ≤ 1000
  hn : ∀ j, j < m → n j ≤ 1073741824
  under : ∀ j, j < m → ∀ g, (l j).ownBlock = some g → g ≠ b ∧ g ≠ g0
  apart : ∀ j k, j < m → k < m → j ≠ k → ∀ g, (l j).ownBlock = some g → (l k).ownBlock ≠ some g
structure Shelf (w0 w : World) (b g0 cap m B0 : Nat) (l long : Nat → Value) (n : Nat → Nat) (X : Nat → List Value) : Prop where
  book : Blk w b tBook (bookC m (.slice (some ⟨g0, 0, none⟩) m cap))
  arr : HeldArr w g0 m l long
  rows : ∀ j, j < m → w.ownsRow B0 tLimb 1 (l j) (n j) (X j)
  low : Below B0 w0 w
section
variable {w0 w w' : World} {b g0 cap m B0 : Nat} {l long : Nat → Value} {n : Nat → Nat} {X : Nat → List Value}
theorem Shelf.below (h : Shelf w0 w b g0 cap m B0 l long n X) (p : Plain b g0 m B0 l n) (hb : Below w.heap.size w w') : Shelf w0 w' b g0 cap m B0 l long n X :=
  ⟨h.book.below hb h.book.lt, h.arr.below hb, fun j hj => own_below (h.rows j hj) hb, h.low.trans (hb.mono (by have := h.book.lt; have := p.hb; omega))⟩
theorem Shelf.alloc (h : Shelf w0 w b g0 cap m B0 l long n X) (p : Plain b g0 m B0 l n) (o : Obj) : Shelf w0 (w.alloc o) b g0 cap m B0 l long n X := h.below p ((Below.refl _ _).alloc (Nat.le_refl _) o)
theorem Shelf.drewN (h : Shelf w0 w b g0 cap m B0 l long n X) (k : Nat) : Shelf w0 (w.drewN k) b g0 cap m B0 l long n X :=
  ⟨h.book.drewN k, by obtain ⟨cs, h1, h2⟩ := h.arr.cells; exact ⟨cs, h1.drewN k, h2⟩, h.rows, below_drewN h.low k⟩
theorem Shelf.more (h : Shelf w0 w b g0 cap m B0 l long n X) (p : Plain b g0 m B0 l n) {i : Nat} (hi : i < m) (v : Value) : Shelf w0 (w.setCell ⟨g0, i * 3 + 1, none⟩ v) b g0 cap m B0 l (updV long i v) n X := by
  refine ⟨h.book.far (p := ⟨g0, i * 3 + 1, none⟩) (by have := p.hg; have : b ≠ g0 := by omega
                                                      exact this) v, h.arr.set hi v, fun j hj => ?_, h.low.setCell (p := ⟨g0, i * 3 + 1, none⟩) (by have := p.hg; have := p.hb; show B0 ≤ g0; omega) v⟩
  exact ownsRow_setCell_other (h.rows j hj) (fun e => (p.under j hj g0 e).2 rfl) v
end

def heldCells (l : Nat → Value) (m : Nat) : List Value := (List.range m).flatMap fun j => [l j, nilS, .int .i64 ((j + 1 : Nat) : Int)]
structure Keep (w : World) (b m : Nat) (l : Nat → Value) (lims : Value) : Prop where
  book : Blk w b tBook (bookC m lims)
  row : w.ownsRow (b + 1) tHeld 3 lims m (heldCells l m)
/- keepLimb: a list is put into a Book. -/
theorem Keep.below {w w' : World} {b m : Nat} {l : Nat → Value} {lims : Value} (h : Keep w b m l lims) (hb : Below w.heap.size w w') : Keep w' b m l lims :=
  ⟨h.book.below hb h.book.lt, own_below h.row hb⟩

/- keepLimb leaves a block that is not the Book's as it is. (Written by wip/book/genkeepfar.py.) -/

end Go.Proofs.YthlehkjcfhnplaaGreatDoor
