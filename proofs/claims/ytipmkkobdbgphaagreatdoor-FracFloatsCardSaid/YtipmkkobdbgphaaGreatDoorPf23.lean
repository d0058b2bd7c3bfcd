/- Several texts in one: FText, Book, Keep, KeepFar. -/
import Derived.Test.YtipmkkobdbgphaaGreatDoorPf22
import Derived.Test.YtipmkkobdbgphaaGreatDoorPfHd
import Derived.Laws.Concat
import Derived.Test.YtipmkkobdbgphaaGreatDoorPf13
import Derived.Test.YtipmkkobdbgphaaGreatDoorPf14
set_option maxRecDepth 100000
set_option maxHeartbeats 8000000
/- Digits of package ratio; Text and Sign of package frac. (Written by wip/frac/gentext.py.) -/
namespace Go.Proofs.YtipmkkobdbgphaaGreatDoor
open Go.RowKit

theorem Y9.below2 {w w' : World} (h : Y9 w) (hb : Below w.heap.size w w') : Y9 w' := Lib.tabBelow_of_tabIs h w' hb
theorem dec_fit_any (k : Nat) (hk : 0 < k) {x : Nat} (h : (Za x).length ≤ k) : (Lib.decDigits x).length ≤ 32 * k := by
 refine dec_short (32 * k) x (by omega) ?_
 have h1 : x < 2 ^ (32 * k) := by
   have := ZD.1 h
   rw [show 4294967296 = 2 ^ 32 by decide, ← Nat.pow_mul] at this
   exact this
 exact Nat.lt_of_lt_of_le h1 (Nat.pow_le_pow_left (by decide) _)
theorem dec_fit {x : Nat} (h : (Za x).length ≤ 2048) : (Lib.decDigits x).length ≤ 65536 := dec_fit_any 2048 (by omega) h
theorem itoa_fit {x : Int} (h : Jh x) : (Lib.itoa x).length ≤ 65537 := by
 have := dec_fit (x := x.natAbs) h
 unfold Lib.itoa
 split
 · simp; omega
 · rw [show x.toNat = x.natAbs by omega]; omega
def Xz (n d : Int) : List UInt8 := if d = 1 then Lib.itoa n else Lib.itoa n ++ 47 :: Lib.itoa d

theorem ratio_Digits_one (n d : Int) (A B : Option Addr) (c e0 : Nat) (w : World) (h_x : Zh w A c (Za n.natAbs)) (k_x : Zh w B e0 (Za d.natAbs)) (htab : Y9 w) (hn : Jh n) (hd : Jh d) (hd1 : d = 1) :
   Calls Tryz.prog 107 #[.agg #[.bool (decide (n < 0)), .slice A (Za n.natAbs).length c, .bool (decide (d < 0)), .slice B (Za d.natAbs).length e0]] w fun e w' => e = .returned (.string ⟨(Xz n d).toArray⟩) ∧ Below w.heap.size w w' := by
 have HTW := Hd htab
 obtain ⟨one, hone⟩ : ∃ k : Int, k = 1 := ⟨_, rfl⟩
 obtain ⟨k, hk⟩ : ∃ k : Int, k = YT d one := ⟨_, rfl⟩
 have H1 := Hd hone
 have HK := Hd hk
 have hnl : lz n ≤ 2048 := hn
 have hdl : lz d ≤ 2048 := hd
 have hol : lz one ≤ 2048 := by rw [hone]; decide
 have C3 := Hd (fun (V : World) (h : Zh V A c (Za n.natAbs)) (htab : Y9 V) => exact_Digits (decide (n < 0)) A c _ (Zu _) (by unfold lz at hnl; omega) V h htab)
 simp only [Yj] at C3
 have hk0 : k = 0 := by rw [hk, hone, hd1]; decide
 have HD := Hd (show Xz n d = Lib.itoa n from if_pos hd1)
 obtain ⟨t1, ht1⟩ : ∃ t : ByteArray, t = ⟨(Lib.itoa n).toArray⟩ := ⟨_, rfl⟩
 rw [← ht1] at C3
 have HT1 := Hd ht1
 clear htab hone hk hn hd hd1 ht1
 have b0 := ((Below.refl w.heap.size w).alloc (Nat.le_refl _) (.cells #[.bool (decide (n < 0)), .slice A (Za n.natAbs).length c, .bool (decide (d < 0)), .slice B (Za d.natAbs).length e0] 27))
 have p0 := Zv.new w (.bool (decide (n < 0))) (.slice A (Za n.natAbs).length c) (.bool (decide (d < 0))) (.slice B (Za d.natAbs).length e0)
 have V_x := Hd (FV.mk p0 (h_x.below b0) (k_x.below b0))
 have KW_x := Hd k_x
 have RW_x := Hd h_x
 have HBW := Hd b0
 clear b0 p0 h_x k_x
 go_enter Tryz.func107, Tryz.ntmps107
 obtain ⟨W, E⟩ : ∃ W, W = (w.alloc (.cells #[.bool (decide (n < 0)), .slice A (Za n.natAbs).length c, .bool (decide (d < 0)), .slice B (Za d.natAbs).length e0] 27)) := ⟨_, rfl⟩
 go_upto_region 1 with fail
 rw [← E] at V_x HBW ⊢
 clear E
 have HT := Hd (HTW.out.below2 HBW.out)
 clear HTW
 subst hk0
 refine Ze [.val (.pointer (some ⟨w.heap.size, 2, none⟩)) [], .val (.agg #[.bool (decide (d < 0)), .slice B (Za d.natAbs).length e0]) [], .any false (fun u V => Y5 V u one) [], .val (.int .i64 0) [2], .val (.bool true) []] W.heap.size W [] XM _ Zd (Nat.le_refl _) (Below.refl _ _) (Zo.refl _ _ _) rfl (by kernel_rfl) (by kernel_rfl) (by kernel_rfl) (by kernel_rfl) (by kernel_rfl) (by kernel_rfl) (by kernel_rfl) (by kernel_rfl) rfl (by simp [ZL]) ?_ ?_ ?_ ?_
 · simp only [Zr, and_true]
   exact fun u V V' h k => h.keptNone k
 · simp only [ZP]
 · simp (maxSteps := 4000000) [ZA, Z9, Zf, Zs, Zj]
   repeat' (first | apply And.intro | (intro (u : Value)) | (intro (u : Nat)))
   all_goals first
   | (intro V hV hK
      have qx := (V_x.out.below hV).quad
      obtain ⟨-, a_x, b_x, c_x, d_x, -, -, -, -⟩ := qx.facts
      clear hV hK qx
      go_simp
      first
      | exact Below.refl _ _
      | ((with_reducible refine (eof 1 one H1.out (by decide) (by decide) V).mono ?_); rintro e w' ⟨v, rfl, hv, hb⟩; exact ⟨hv.at_, hb⟩))
   | (intro V hV hK h1
      have rg := (V_x.out.below hV).den
      obtain ⟨A5, c5, rfl, r5⟩ := h1.form
      clear hV hK h1
      go_simp
      refine (ecmp d one 0 B A5 e0 c5 V rg r5 (by omega) (by omega) HK.out).mono ?_
      rintro e w' ⟨rfl, hb⟩
      exact ⟨rfl, hb⟩)
 · simp [Yd, ZC, Zf, Zs, Zj]
   intro u1 V hV hK _ _ _ _
   have HBW := Hd (HBW.out.trans (hV.mono HBW.out.size))
   have V_x := Hd (V_x.out.below hV)
   have HT := Hd (HT.out.below2 hV)
   clear hV hK
   obtain ⟨l_x, a_x, b_x, c_x, d_x, -, -, -, -⟩ := V_x.out.quad.facts
   go_wp2_with fail
   refine (C3.out V V_x.out.num HT.out).mono ?_
   rintro e w9 ⟨rfl, hb⟩
   have HF := Hd (Zb HBW.out hb)
   clear l_x a_x b_x c_x d_x hb
   go_wp2_with fail
   go_ret
   exact ⟨by rw [HD.out, ← HT1.out]; rfl, HF.out⟩

theorem ratio_Digits_more (n d : Int) (A B : Option Addr) (c e0 : Nat) (w : World) (h_x : Zh w A c (Za n.natAbs)) (k_x : Zh w B e0 (Za d.natAbs)) (htab : Y9 w) (hn : Jh n) (hd : Jh d) (hd1 : d ≠ 1) :
   Calls Tryz.prog 107 #[.agg #[.bool (decide (n < 0)), .slice A (Za n.natAbs).length c, .bool (decide (d < 0)), .slice B (Za d.natAbs).length e0]] w fun e w' => e = .returned (.string ⟨(Xz n d).toArray⟩) ∧ Below w.heap.size w w' := by
 have HTW := Hd htab
 obtain ⟨one, hone⟩ : ∃ k : Int, k = 1 := ⟨_, rfl⟩
 obtain ⟨k, hk⟩ : ∃ k : Int, k = YT d one := ⟨_, rfl⟩
 have H1 := Hd hone
 have HK := Hd hk
 have hnl : lz n ≤ 2048 := hn
 have hdl : lz d ≤ 2048 := hd
 have hol : lz one ≤ 2048 := by rw [hone]; decide
 have C3 := Hd (fun (V : World) (h : Zh V A c (Za n.natAbs)) (htab : Y9 V) => exact_Digits (decide (n < 0)) A c _ (Zu _) (by unfold lz at hnl; omega) V h htab)
 simp only [Yj] at C3
 have C4 := Hd (fun (V : World) (h : Zh V B e0 (Za d.natAbs)) (htab : Y9 V) => exact_Digits (decide (d < 0)) B e0 _ (Zu _) (by unfold lz at hdl; omega) V h htab)
 simp only [Yj] at C4
 have hk0 : k ≠ 0 := by rw [hk, hone]; unfold YT; split <;> (try split) <;> omega
 have hs0 : (k == 0) = false := by simpa using hk0
 have HD := Hd (show Xz n d = Lib.itoa n ++ 47 :: Lib.itoa d from if_neg hd1)
 have f1 := itoa_fit hn
 have f2 := itoa_fit hd
 obtain ⟨t1, ht1⟩ : ∃ t : ByteArray, t = ⟨(Lib.itoa n).toArray⟩ := ⟨_, rfl⟩
 obtain ⟨t2, ht2⟩ : ∃ t : ByteArray, t = ⟨(Lib.itoa d).toArray⟩ := ⟨_, rfl⟩
 have g1 : t1.size ≤ 65537 := by rw [ht1]; simpa [ByteArray.size] using f1
 have g2 : t2.size ≤ 65537 := by rw [ht2]; simpa [ByteArray.size] using f2
 obtain ⟨t3, ht3⟩ : ∃ t : ByteArray, t = t1 ++ ⟨#[47]⟩ := ⟨_, rfl⟩
 have g3 : t3.size = t1.size + 1 := by rw [ht3]; simp [ByteArray.size_append]; rfl
 have HC1 := Hd (show ¬ 9223372036854775807 < t1.size + 1 from by omega)
 have HC2 := Hd (show ¬ 9223372036854775807 < t3.size + t2.size from by omega)
 have HC3 := Hd ht3
 have HTT := Hd (show t3 ++ t2 = ⟨(Xz n d).toArray⟩ from by rw [HD.out, ht3, ht1, ht2, ByteArray.mk_append_mk, ByteArray.mk_append_mk]; simp)
 rw [← ht1] at C3
 rw [← ht2] at C4
 clear htab hone hk hn hd hd1 ht1 ht2 ht3 f1 f2 g1 g2 g3 HD hk0
 have b0 := ((Below.refl w.heap.size w).alloc (Nat.le_refl _) (.cells #[.bool (decide (n < 0)), .slice A (Za n.natAbs).length c, .bool (decide (d < 0)), .slice B (Za d.natAbs).length e0] 27))
 have p0 := Zv.new w (.bool (decide (n < 0))) (.slice A (Za n.natAbs).length c) (.bool (decide (d < 0))) (.slice B (Za d.natAbs).length e0)
 have V_x := Hd (FV.mk p0 (h_x.below b0) (k_x.below b0))
 have KW_x := Hd k_x
 have RW_x := Hd h_x
 have HBW := Hd b0
 clear b0 p0 h_x k_x
 go_enter Tryz.func107, Tryz.ntmps107
 obtain ⟨W, E⟩ : ∃ W, W = (w.alloc (.cells #[.bool (decide (n < 0)), .slice A (Za n.natAbs).length c, .bool (decide (d < 0)), .slice B (Za d.natAbs).length e0] 27)) := ⟨_, rfl⟩
 go_upto_region 1 with fail
 rw [← E] at V_x HBW ⊢
 clear E
 have HT := Hd (HTW.out.below2 HBW.out)
 clear HTW
 refine Ze [.val (.pointer (some ⟨w.heap.size, 2, none⟩)) [], .val (.agg #[.bool (decide (d < 0)), .slice B (Za d.natAbs).length e0]) [], .any false (fun u V => Y5 V u one) [], .val (.int .i64 k) [2], .val (.bool false) []] W.heap.size W [] XM _ Zd (Nat.le_refl _) (Below.refl _ _) (Zo.refl _ _ _) rfl (by kernel_rfl) (by kernel_rfl) (by kernel_rfl) (by kernel_rfl) (by kernel_rfl) (by kernel_rfl) (by kernel_rfl) (by kernel_rfl) rfl (by simp [ZL]) ?_ ?_ ?_ ?_
 · simp only [Zr, and_true]
   exact fun u V V' h k => h.keptNone k
 · simp only [ZP]
 · simp (maxSteps := 4000000) [ZA, Z9, Zf, Zs, Zj]
   repeat' (first | apply And.intro | (intro (u : Value)) | (intro (u : Nat)))
   all_goals first
   | (intro V hV hK
      have qx := (V_x.out.below hV).quad
      obtain ⟨-, a_x, b_x, c_x, d_x, -, -, -, -⟩ := qx.facts
      clear hV hK qx
      go_simp
      first
      | exact Below.refl _ _
      | ((with_reducible refine (eof 1 one H1.out (by decide) (by decide) V).mono ?_); rintro e w' ⟨v, rfl, hv, hb⟩; exact ⟨hv.at_, hb⟩))
   | (intro V hV hK h1
      have rg := (V_x.out.below hV).den
      obtain ⟨A5, c5, rfl, r5⟩ := h1.form
      clear hV hK h1
      go_simp
      refine (ecmp d one k B A5 e0 c5 V rg r5 (by omega) (by omega) HK.out).mono ?_
      rintro e w' ⟨rfl, hb⟩
      exact ⟨rfl, hb⟩)
 · simp [Yd, ZC, Zf, Zs, Zj]
   intro u1 V hV hK _ _ _ _
   have HBW := Hd (HBW.out.trans (hV.mono HBW.out.size))
   have V_x := Hd (V_x.out.below hV)
   have HT := Hd (HT.out.below2 hV)
   have hV1 := HBW.out.size
   clear hV hK
   clear hs0
   go_wp2_with fail
   refine Ze [.val (.pointer (some ⟨w.heap.size, 0, none⟩)) [], .val (.agg #[.bool (decide (n < 0)), .slice A (Za n.natAbs).length c]) [], .val (.string t1) [], .val (.string t3) [], .val (.pointer (some ⟨w.heap.size, 2, none⟩)) [], .val (.agg #[.bool (decide (d < 0)), .slice B (Za d.natAbs).length e0]) [], .val (.string t2) [], .val (.string (t3 ++ t2)) [], .val (.string (t3 ++ t2)) []] V.heap.size V [] XM _ Zd (Nat.le_refl _) (Below.refl _ _) (Zo.refl _ _ _) rfl (by kernel_rfl) (by kernel_rfl) (by kernel_rfl) (by kernel_rfl) (by kernel_rfl) (by kernel_rfl) (by kernel_rfl) (by kernel_rfl) rfl (by simp [ZL]) ?_ ?_ ?_ ?_
   · simp only [Zr]
   · simp only [ZP]
   · simp (maxSteps := 4000000) [ZA, Z9, Zf, Zs, Zj]
     repeat' (first | apply And.intro | (intro (u : Value)) | (intro (u : Nat)))
     all_goals first
     | (intro V' hV hK
        have qx := V_x.out.below hV
        have ht := HT.out.below2 hV
        obtain ⟨-, a_x, b_x, c_x, d_x, -, -, -, -⟩ := qx.quad.facts
        clear hV hK
        go_simp
        first
        | exact Below.refl _ _
        | (rw [if_neg HC1.out, ← HC3.out]; go_simp; exact Below.refl _ _)
        | (rw [if_neg HC2.out]; go_simp; exact Below.refl _ _)
        | ((with_reducible refine (C3.out V' qx.num ht).mono ?_); rintro e w' ⟨rfl, hb⟩; exact ⟨rfl, hb⟩)
        | ((with_reducible refine (C4.out V' qx.den ht).mono ?_); rintro e w' ⟨rfl, hb⟩; exact ⟨rfl, hb⟩))
   · simp [Yd, ZC, Zf, Zs, Zj]
     intro V' hV hK _ _ _
     have HF := Hd (HBW.out.trans (hV.mono hV1))
     clear hV hK hV1
     go_wp2_with fail
     go_ret
     exact ⟨by rw [← HTT.out]; rfl, HF.out⟩

theorem ratio_Digits (n d : Int) (A B : Option Addr) (c e0 : Nat) (w : World) (h : Zh w A c (Za n.natAbs)) (g : Zh w B e0 (Za d.natAbs)) (htab : Y9 w) (hn : Jh n) (hd : Jh d) :
   Calls Tryz.prog 107 #[.agg #[.bool (decide (n < 0)), .slice A (Za n.natAbs).length c, .bool (decide (d < 0)), .slice B (Za d.natAbs).length e0]] w fun e w' => e = .returned (.string ⟨(Xz n d).toArray⟩) ∧ Below w.heap.size w w' := by
 by_cases h1 : d = 1
 · exact ratio_Digits_one n d A B c e0 w h g htab hn hd h1
 · exact ratio_Digits_more n d A B c e0 w h g htab hn hd h1

theorem ratio_Sign (n s : Int) (d : Int) (A B : Option Addr) (c e0 : Nat) (w : World) (h : Zh w A c (Za n.natAbs)) (hs : s = n.sign) :
   Calls Tryz.prog 117 #[.agg #[.bool (decide (n < 0)), .slice A (Za n.natAbs).length c, .bool (decide (d < 0)), .slice B (Za d.natAbs).length e0]] w fun e w' => e = .returned (.int .i64 s) ∧ Below w.heap.size w w' := by
 have px := Zv.new w (.bool (decide (n < 0))) (.slice A (Za n.natAbs).length c) (.bool (decide (d < 0))) (.slice B (Za d.natAbs).length e0)
 have b0 := (Below.refl w.heap.size w).alloc (Nat.le_refl _) (.cells #[.bool (decide (n < 0)), .slice A (Za n.natAbs).length c, .bool (decide (d < 0)), .slice B (Za d.natAbs).length e0] 27)
 have C := Hd (JR n s A c _ (h.below b0) hs)
 have B0 := Hd b0
 obtain ⟨-, x0, x1, x2, x3, -, -, -, -⟩ := px.facts
 clear h hs px b0
 go_enter Tryz.func117, Tryz.ntmps117
 go_wp2_with fail
 refine C.out.mono ?_
 rintro e w1 ⟨rfl, hb⟩
 have HF := Hd (Zb B0.out hb)
 clear x0 x1 x2 x3 hb
 go_wp2_with fail
 go_ret
 exact ⟨rfl, HF.out⟩

theorem frac_Sign_good (n d s : Int) (A B : Option Addr) (c e0 : Nat) (w : World) (h : Zh w A c (Za n.natAbs)) (g : Zh w B e0 (Za d.natAbs)) (hc : JH (decide (n < 0)) (decide (d < 0)) (Za n.natAbs) (Za d.natAbs) = 0) (hs : s = n.sign) :
   Calls Tryz.prog 36 #[.agg #[.bool (decide (n < 0)), .slice A (Za n.natAbs).length c, .bool (decide (d < 0)), .slice B (Za d.natAbs).length e0]] w fun e w' => e = .returned (.int .i64 s) ∧ Below w.heap.size w w' := by
 have C1 := fun (V : World) (g' : Nat) (h : Zh V A c (Za n.natAbs)) (g : Zh V B e0 (Za d.natAbs)) (hg : V.heap.size = g') => checks_new (decide (n < 0)) (decide (d < 0)) A B c e0 _ _ V g' h g hg
 rw [hc] at C1
 have H1 := Hd C1
 have H2 := Hd (fun (V : World) (h : Zh V A c (Za n.natAbs)) => ratio_Sign n s d A B c e0 V h hs)
 clear C1 hc hs
 have px := Zv.new w (.bool (decide (n < 0))) (.slice A (Za n.natAbs).length c) (.bool (decide (d < 0))) (.slice B (Za d.natAbs).length e0)
 have b0 := (Below.refl w.heap.size w).alloc (Nat.le_refl _) (.cells #[.bool (decide (n < 0)), .slice A (Za n.natAbs).length c, .bool (decide (d < 0)), .slice B (Za d.natAbs).length e0] 27)
 have h1 := h.below b0
 have g1 := g.below b0
 have PX := Hd px
 have B0 := Hd b0
 have RX := Hd h1
 have RY := Hd g1
 clear px b0 h g h1 g1
 go_enter Tryz.func36, Tryz.ntmps36
 obtain ⟨W, E⟩ : ∃ W, W = w.alloc (.cells #[.bool (decide (n < 0)), .slice A (Za n.natAbs).length c, .bool (decide (d < 0)), .slice B (Za d.natAbs).length e0] 27) := ⟨_, rfl⟩
 go_upto_region 1 with fail
 rw [← E] at PX B0 RX RY ⊢
 clear E
 obtain ⟨l_x, a_x, b_x, c_x, d_x, -, -, -, -⟩ := PX.out.facts
 go_wp2_with fail
 refine (H1.out W _ RX.out RY.out rfl).mono ?_
 rintro e w1 ⟨rfl, hb⟩
 have PX := Hd ((PX.out.alloc (.cells #[.bool (decide (n < 0)), .slice A (Za n.natAbs).length c, .bool (decide (d < 0)), .slice B (Za d.natAbs).length e0] 27)).below hb)
 have BB := Hd (Zb (B0.out.alloc B0.out.size (.cells #[.bool (decide (n < 0)), .slice A (Za n.natAbs).length c, .bool (decide (d < 0)), .slice B (Za d.natAbs).length e0] 27)) hb)
 have RX := Hd ((RX.out.alloc (.cells #[.bool (decide (n < 0)), .slice A (Za n.natAbs).length c, .bool (decide (d < 0)), .slice B (Za d.natAbs).length e0] 27)).below hb)
 have RY := Hd ((RY.out.alloc (.cells #[.bool (decide (n < 0)), .slice A (Za n.natAbs).length c, .bool (decide (d < 0)), .slice B (Za d.natAbs).length e0] 27)).below hb)
 clear B0 hb l_x a_x b_x c_x d_x
 obtain ⟨l_x, a_x, b_x, c_x, d_x, -, -, -, -⟩ := PX.out.facts
 go_wp2_with fail
 refine (H2.out w1 RX.out).mono ?_
 rintro e w2 ⟨rfl, hb⟩
 have HF := Hd (Zb BB.out hb)
 clear hb l_x a_x b_x c_x d_x
 go_wp2_with fail
 go_ret
 exact ⟨rfl, HF.out⟩

theorem frac_Text_good (n d : Int) (t : ByteArray) (A B : Option Addr) (c e0 : Nat) (w : World) (h : Zh w A c (Za n.natAbs)) (g : Zh w B e0 (Za d.natAbs)) (htab : Y9 w) (hn : Jh n) (hd : Jh d) (hc : JH (decide (n < 0)) (decide (d < 0)) (Za n.natAbs) (Za d.natAbs) = 0) (ht : t = ⟨(Xz n d).toArray⟩) (hsz : t.size ≤ 65536) :
   Calls Tryz.prog 28 #[.agg #[.bool (decide (n < 0)), .slice A (Za n.natAbs).length c, .bool (decide (d < 0)), .slice B (Za d.natAbs).length e0]] w fun e w' => e = .returned (.tuple #[.string t, .int .i64 0]) ∧ Below w.heap.size w w' := by
 have C1 := fun (V : World) (g' : Nat) (h : Zh V A c (Za n.natAbs)) (g : Zh V B e0 (Za d.natAbs)) (hg : V.heap.size = g') => checks_new (decide (n < 0)) (decide (d < 0)) A B c e0 _ _ V g' h g hg
 rw [hc] at C1
 have C2 := fun (V : World) (h : Zh V A c (Za n.natAbs)) (g : Zh V B e0 (Za d.natAbs)) (htab : Y9 V) => ratio_Digits n d A B c e0 V h g htab hn hd
 rw [← ht] at C2
 have H1 := Hd C1
 have H2 := Hd C2
 have HTW := Hd htab
 have hz : (t.size : Int) ≤ 65536 := by omega
 clear C1 C2 hc ht htab hn hd hsz
 have px := Zv.new w (.bool (decide (n < 0))) (.slice A (Za n.natAbs).length c) (.bool (decide (d < 0))) (.slice B (Za d.natAbs).length e0)
 have b0 := (Below.refl w.heap.size w).alloc (Nat.le_refl _) (.cells #[.bool (decide (n < 0)), .slice A (Za n.natAbs).length c, .bool (decide (d < 0)), .slice B (Za d.natAbs).length e0] 27)
 have h1 := h.below b0
 have g1 := g.below b0
 have PX := Hd px
 have B0 := Hd b0
 have RX := Hd h1
 have RY := Hd g1
 clear px b0 h g h1 g1
 go_enter Tryz.func28, Tryz.ntmps28
 obtain ⟨W, E⟩ : ∃ W, W = w.alloc (.cells #[.bool (decide (n < 0)), .slice A (Za n.natAbs).length c, .bool (decide (d < 0)), .slice B (Za d.natAbs).length e0] 27) := ⟨_, rfl⟩
 go_upto_region 1 with fail
 rw [← E] at PX B0 RX RY ⊢
 clear E
 obtain ⟨l_x, a_x, b_x, c_x, d_x, -, -, -, -⟩ := PX.out.facts
 go_wp2_with fail
 refine (H1.out W _ RX.out RY.out rfl).mono ?_
 rintro e w1 ⟨rfl, hb⟩
 have PX := Hd ((PX.out.alloc (.cells #[.bool (decide (n < 0)), .slice A (Za n.natAbs).length c, .bool (decide (d < 0)), .slice B (Za d.natAbs).length e0] 27)).below hb)
 have BB := Hd (Zb (B0.out.alloc B0.out.size (.cells #[.bool (decide (n < 0)), .slice A (Za n.natAbs).length c, .bool (decide (d < 0)), .slice B (Za d.natAbs).length e0] 27)) hb)
 have RX := Hd ((RX.out.alloc (.cells #[.bool (decide (n < 0)), .slice A (Za n.natAbs).length c, .bool (decide (d < 0)), .slice B (Za d.natAbs).length e0] 27)).below hb)
 have RY := Hd ((RY.out.alloc (.cells #[.bool (decide (n < 0)), .slice A (Za n.natAbs).length c, .bool (decide (d < 0)), .slice B (Za d.natAbs).length e0] 27)).below hb)
 have HT := Hd (HTW.out.below2 BB.out)
 clear HTW B0 hb l_x a_x b_x c_x d_x
 obtain ⟨l_x, a_x, b_x, c_x, d_x, -, -, -, -⟩ := PX.out.facts
 go_wp2_with fail
 refine (H2.out w1 RX.out RY.out HT.out).mono ?_
 rintro e w2 ⟨rfl, hb⟩
 have HF := Hd (Zb BB.out hb)
 clear hb l_x a_x b_x c_x d_x
 go_wp2_with fail
 go_ret2
 exact ⟨rfl, HF.out⟩
/- A Book that holds lists of limbs: what lies in memory; keepLimb. -/

def Yx (j : Nat) : Value := .int .u32 ((100001 + j : Nat) : Int)
abbrev Zx : Value := .slice none 0 0
abbrev Z0 (m : Nat) (lims : Value) : Array Value := #[.int .i64 (m : Int), lims, Zx, Zx, Zx, Zx, Zx, Zx, Zx, Zx, Zx, Zx, Zx, Zx, Zx, Zx, Zx]
abbrev ZW : TypeId := 55
abbrev YA : TypeId := 118
abbrev Y6 : TypeId := 104
structure YL (w : World) (g0 m : Nat) (l long : Nat → Value) : Prop where
 cells : ∃ cs, ZM w g0 YA cs ∧ ∀ j, j < m → cs[j * 3]? = some (l j) ∧ cs[j * 3 + 1]? = some (long j) ∧ cs[j * 3 + 2]? = some (.int .i64 ((j + 1 : Nat) : Int))
def XH (f : Nat → Value) (i : Nat) (v : Value) : Nat → Value := fun j => if j = i then v else f j
theorem updV_same (f : Nat → Value) (i : Nat) (v : Value) : XH f i v i = v := by simp [XH]
theorem updV_ne (f : Nat → Value) {i j : Nat} (v : Value) (h : j ≠ i) : XH f i v j = f j := by simp [XH, h]
def updL (f : Nat → List Value) (i : Nat) (v : List Value) : Nat → List Value := fun j => if j = i then v else f j
theorem updL_same (f : Nat → List Value) (i : Nat) (v : List Value) : updL f i v i = v := by simp [updL]
theorem updL_ne (f : Nat → List Value) {i j : Nat} (v : List Value) (h : j ≠ i) : updL f i v j = f j := by simp [updL, h]

theorem YL.below {w w' : World} {g0 m : Nat} {l long : Nat → Value} (h : YL w g0 m l long) (hb : Below w.heap.size w w') : YL w' g0 m l long := by
 obtain ⟨cs, h1, h2⟩ := h.cells
 exact ⟨cs, h1.below hb h1.lt, h2⟩
theorem YL.lt {w : World} {g0 m : Nat} {l long : Nat → Value} (h : YL w g0 m l long) : g0 < w.heap.size := by
 obtain ⟨cs, h1, _⟩ := h.cells
 exact h1.lt
theorem YL.far {w : World} {g0 m g : Nat} {l long : Nat → Value} (h : YL w g0 m l long) (hn : g0 ≠ g) (k : Nat) (u : Value) : YL (w.setCell ⟨g, k, none⟩ u) g0 m l long := by
 obtain ⟨cs, h1, h2⟩ := h.cells
 exact ⟨cs, h1.far (p := ⟨g, k, none⟩) hn u, h2⟩
theorem YL.kept {w w' : World} {g0 m : Nat} {l long : Nat → Value} (h : YL w g0 m l long) {row : Option Nat} (hg : w.grownBy w' row) (hn : some g0 ≠ row) : YL w' g0 m l long := by
 obtain ⟨cs, h1, h2⟩ := h.cells
 exact ⟨cs, (hg.block g0 h1.lt hn).trans h1, h2⟩
theorem YL.set {w : World} {g0 m : Nat} {l long : Nat → Value} (h : YL w g0 m l long) {i : Nat} (hi : i < m) (v : Value) : YL (w.setCell ⟨g0, i * 3 + 1, none⟩ v) g0 m l (XH long i v) := by
 obtain ⟨cs, h1, h2⟩ := h.cells
 refine ⟨cs.setIfInBounds (i * 3 + 1) v, h1.set_ (i * 3 + 1) v, fun j hj => ?_⟩
 obtain ⟨a1, a2, a3⟩ := h2 j hj
 refine ⟨?_, ?_, ?_⟩
 · rw [Array.getElem?_setIfInBounds_ne (by omega)]; exact a1
 · by_cases e : j = i
   · subst e
     have hs : j * 3 + 1 < cs.size := (Array.getElem?_eq_some_iff.1 a2).1
     rw [updV_same]; simp [hs]
   · rw [Array.getElem?_setIfInBounds_ne (by omega), updV_ne _ _ e]; exact a2
 · rw [Array.getElem?_setIfInBounds_ne (by omega)]; exact a3
theorem YL.at_ {w : World} {g0 m : Nat} {l long : Nat → Value} (h : YL w g0 m l long) {i : Nat} (hi : i < m) :
   w.cell? ⟨g0, i * 3, none⟩ = some (l i) ∧ w.cell? ⟨g0, i * 3 + 1, none⟩ = some (long i) ∧ w.cell? ⟨g0, i * 3 + 2, none⟩ = some (.int .i64 ((i + 1 : Nat) : Int)) ∧ w.frozen? ⟨g0, i * 3 + 1, none⟩ = false := by
 obtain ⟨cs, h1, h2⟩ := h.cells
 obtain ⟨a1, a2, a3⟩ := h2 i hi
 exact ⟨by rw [h1.cell]; exact a1, by rw [h1.cell]; exact a2, by rw [h1.cell]; exact a3, h1.frozen _⟩

theorem own_set {w : World} {base : Nat} {e : TypeId} {g n c : Nat} {xs : List Value} (h : w.ownsRow base e 1 (.slice (some ⟨g, 0, none⟩) n c) n xs) {k : Nat} (hk : k < n) (u : Value) : (w.setCell ⟨g, k, none⟩ u).ownsRow base e 1 (.slice (some ⟨g, 0, none⟩) n c) n (xs.set k u) := by
 refine ⟨by rw [List.length_set]; exact h.1, ?_⟩
 rcases h.2 with ⟨h1, h2⟩ | ⟨g', cap, cur, h1, h2, h3, h4, h5, h6, h7⟩
 · omega
 · injection h1 with a1 a2 a3
   injection a1 with a1
   injection a1 with a1
   subst a1 a3
   refine .inr ⟨g, c, cur.setIfInBounds k u, rfl, h2, ZM.set_ (cs := cur) (t := e) h3 k u, h4, h5, by simpa using h6, ?_⟩
   rw [← h7]
   simp [List.take_set]
theorem own_cut {w : World} {base : Nat} {e : TypeId} {A : Option Addr} {n c k : Nat} {xs : List Value} (h : w.ownsRow base e 1 (.slice A n c) n xs) (hk : k ≤ n) : w.ownsRow base e 1 (.slice A k c) k (xs.take k) := by
 rcases h.2 with ⟨h1, h2⟩ | ⟨g, cap, cur, h1, h2, h3, h4, h5, h6, h7⟩
 · injection h1 with a1 a2 a3
   subst a1 a3
   have : k = 0 := by omega
   subst this
   exact ⟨by simp, .inl ⟨rfl, rfl⟩⟩
 · injection h1 with a1 a2 a3
   subst a1 a3
   have hl := h.1
   refine ⟨by rw [List.length_take]; omega, .inr ⟨g, c, cur, rfl, h2, h3, by omega, h5, h6, ?_⟩⟩
   rw [← h7, List.take_take, Nat.mul_one, Nat.mul_one, Nat.min_eq_left (by omega)]

structure Plain (b g0 m B0 : Nat) (l : Nat → Value) (n : Nat → Nat) : Prop where
 hb : B0 ≤ b
 hg : b < g0
 hm : m ≤ 1000
 hn : ∀ j, j < m → n j ≤ 1073741824
 under : ∀ j, j < m → ∀ g, (l j).ownBlock = some g → g ≠ b ∧ g ≠ g0
 apart : ∀ j k, j < m → k < m → j ≠ k → ∀ g, (l j).ownBlock = some g → (l k).ownBlock ≠ some g
structure YP (w0 w : World) (b g0 cap m B0 : Nat) (l long : Nat → Value) (n : Nat → Nat) (X : Nat → List Value) : Prop where
 book : ZM w b ZW (Z0 m (.slice (some ⟨g0, 0, none⟩) m cap))
 arr : YL w g0 m l long
 rows : ∀ j, j < m → w.ownsRow B0 Y6 1 (l j) (n j) (X j)
 low : Below B0 w0 w
section
variable {w0 w w' : World} {b g0 cap m B0 : Nat} {l long : Nat → Value} {n : Nat → Nat} {X : Nat → List Value}
theorem YP.below (h : YP w0 w b g0 cap m B0 l long n X) (p : Plain b g0 m B0 l n) (hb : Below w.heap.size w w') : YP w0 w' b g0 cap m B0 l long n X :=
 ⟨h.book.below hb h.book.lt, h.arr.below hb, fun j hj => Zn (h.rows j hj) hb, h.low.trans (hb.mono (by have := h.book.lt; have := p.hb; omega))⟩
theorem YP.alloc (h : YP w0 w b g0 cap m B0 l long n X) (p : Plain b g0 m B0 l n) (o : Obj) : YP w0 (w.alloc o) b g0 cap m B0 l long n X := h.below p ((Below.refl _ _).alloc (Nat.le_refl _) o)
theorem YP.drewN (h : YP w0 w b g0 cap m B0 l long n X) (k : Nat) : YP w0 (w.drewN k) b g0 cap m B0 l long n X :=
 ⟨h.book.drewN k, by obtain ⟨cs, h1, h2⟩ := h.arr.cells; exact ⟨cs, h1.drewN k, h2⟩, h.rows, ZO h.low k⟩
theorem YP.write (h : YP w0 w b g0 cap m B0 l long n X) (p : Plain b g0 m B0 l n) {i g c k : Nat} (hi : i < m) (hl : l i = .slice (some ⟨g, 0, none⟩) (n i) c) (hk : k < n i) (u : Value) :
   YP w0 (w.setCell ⟨g, k, none⟩ u) b g0 cap m B0 l long n (updL X i ((X i).set k u)) := by
 have hgb := p.under i hi g (by rw [hl]; rfl)
 have hB : B0 ≤ g := ((h.rows i hi).lt g (by rw [hl]; rfl)).1
 refine ⟨h.book.far (p := ⟨g, k, none⟩) (by have : b ≠ g := by omega
                                            exact this) u, h.arr.far (by omega) k u, fun j hj => ?_, h.low.setCell (p := ⟨g, k, none⟩) hB u⟩
 by_cases e : j = i
 · subst e
   rw [updL_same, hl]
   have := h.rows j hj
   rw [hl] at this
   exact own_set this hk u
 · rw [updL_ne _ _ e]
   exact ownsRow_setCell_other (h.rows j hj) (p.apart i j hi hj (Ne.symm e) g (by rw [hl]; rfl)) u
theorem YP.more (h : YP w0 w b g0 cap m B0 l long n X) (p : Plain b g0 m B0 l n) {i : Nat} (hi : i < m) (v : Value) : YP w0 (w.setCell ⟨g0, i * 3 + 1, none⟩ v) b g0 cap m B0 l (XH long i v) n X := by
 refine ⟨h.book.far (p := ⟨g0, i * 3 + 1, none⟩) (by have := p.hg; have : b ≠ g0 := by omega
                                                     exact this) v, h.arr.set hi v, fun j hj => ?_, h.low.setCell (p := ⟨g0, i * 3 + 1, none⟩) (by have := p.hg; have := p.hb; show B0 ≤ g0; omega) v⟩
 exact ownsRow_setCell_other (h.rows j hj) (fun e => (p.under j hj g0 e).2 rfl) v
end

def ZI (l : Nat → Value) (m : Nat) : List Value := (List.range m).flatMap fun j => [l j, Zx, .int .i64 ((j + 1 : Nat) : Int)]
theorem heldCells_length (l : Nat → Value) (m : Nat) : (ZI l m).length = m * 3 := by
 unfold ZI
 induction m with
 | zero => rfl
 | succ m ih => rw [List.range_succ, List.flatMap_append, List.length_append, ih]; simp; omega
theorem Jl (l : Nat → Value) (m : Nat) (v : Value) : ZI (XH l m v) (m + 1) = ZI l m ++ [v, Zx, .int .i64 ((m + 1 : Nat) : Int)] := by
 unfold ZI
 rw [List.range_succ, List.flatMap_append]
 congr 1
 · refine congrArg List.flatten (List.map_congr_left fun j hj => ?_)
   rw [updV_ne _ _ (by have := List.mem_range.1 hj; omega)]
 · simp [updV_same]
theorem heldCells_at (l : Nat → Value) (m j : Nat) (hj : j < m) : (ZI l m)[j * 3]? = some (l j) ∧ (ZI l m)[j * 3 + 1]? = some Zx ∧ (ZI l m)[j * 3 + 2]? = some (.int .i64 ((j + 1 : Nat) : Int)) := by
 induction m with
 | zero => omega
 | succ m ih =>
   have e : ZI l (m + 1) = ZI l m ++ [l m, Zx, .int .i64 ((m + 1 : Nat) : Int)] := by
     have := Jl l m (l m)
     rw [← this]
     congr 1
     funext k
     by_cases h : k = m
     · subst h; rw [updV_same]
     · rw [updV_ne _ _ h]
   have hl := heldCells_length l m
   rw [e]
   by_cases h : j = m
   · subst h
     refine ⟨?_, ?_, ?_⟩
     · rw [List.getElem?_append_right (by omega), hl]; simp
     · rw [List.getElem?_append_right (by omega), hl, show j * 3 + 1 - j * 3 = 1 by omega]; rfl
     · rw [List.getElem?_append_right (by omega), hl, show j * 3 + 2 - j * 3 = 2 by omega]; rfl
   · obtain ⟨a1, a2, a3⟩ := ih (by omega)
     refine ⟨?_, ?_, ?_⟩
     · rw [List.getElem?_append_left (by omega)]; exact a1
     · rw [List.getElem?_append_left (by omega)]; exact a2
     · rw [List.getElem?_append_left (by omega)]; exact a3
structure XZ (w : World) (b m : Nat) (l : Nat → Value) (lims : Value) : Prop where
 book : ZM w b ZW (Z0 m lims)
 row : w.ownsRow (b + 1) YA 3 lims m (ZI l m)
/- keepLimb: a list is put into a Book. -/
theorem heldInfo : (Tryz.prog.info? 118).map (fun i => (i.zero, i.size, i.bytes)) = some (some (.agg #[Zx, Zx, .int .i64 0]), 3, 56) := by kernel_rfl

theorem keep_limb (b m : Nat) (l : Nat → Value) (lims : Value) (vA : Option Addr) (vn vc : Nat) (hm : m ≤ 1000) (w : World) (h : XZ w b m l lims) :
   Calls Tryz.prog 146 #[.pointer (some ⟨b, 0, none⟩), .slice vA vn vc] w fun e w' => e = .returned (.tuple #[]) ∧ ∃ lims', XZ w' b (m + 1) (XH l m (.slice vA vn vc)) lims' ∧ Below b w w' := by
 obtain ⟨i0, hi, hz0, hz1, hz2⟩ := info_parts heldInfo
 have hb := h.book
 have hrow := h.row
 have hlt := hb.lt
 have c0 := hb.cell 0
 have f0 := hb.frozen 0
 simp at c0
 have hadd : IntKind.i64.wrap ((m : Int) + 1) = ((m + 1 : Nat) : Int) := by rw [IntWalk.i64_in _ (by omega)]; omega
 clear h
 have HB := Hd hb
 have HR := Hd hrow
 clear hb hrow
 go_enter Tryz.func146, Tryz.ntmps146
 go_wp2_with fail
 have hW : ZM (w.setCell ⟨b, 0, none⟩ (.int .i64 ((m : Int) + 1))) b ZW #[.int .i64 ((m : Int) + 1), lims, Zx, Zx, Zx, Zx, Zx, Zx, Zx, Zx, Zx, Zx, Zx, Zx, Zx, Zx, Zx] := HB.out.set_ 0 _
 have hrW := ownsRow_setCell_below HR.out (a := ⟨b, 0, none⟩) (Nat.lt_succ_self b) (.int .i64 ((m : Int) + 1))
 have hbW : Below b w (w.setCell ⟨b, 0, none⟩ (.int .i64 ((m : Int) + 1))) := (Below.refl b w).setCell (p := ⟨b, 0, none⟩) (Nat.le_refl _) _
 obtain ⟨W, E⟩ : ∃ W, W = w.setCell ⟨b, 0, none⟩ (.int .i64 ((m : Int) + 1)) := ⟨_, rfl⟩
 rw [← E] at hW hrW hbW ⊢
 clear E HB HR c0 f0
 have hltW := hW.lt
 have HW := Hd hW
 have HR := Hd hrW
 have HB := Hd hbW
 clear hW hrW hbW hadd
 refine XG [.val (.pointer (some ⟨b, 0, none⟩)), .val (.pointer (some ⟨b, 0, none⟩)), .val (.pointer (some ⟨b, 0, none⟩)), .val (.pointer (some ⟨b, 1, none⟩)), .val lims, .val (.slice vA vn vc), .val (.pointer (some ⟨b, 0, none⟩)), .val (.pointer (some ⟨b, 0, none⟩)), .val (.pointer (some ⟨b, 0, none⟩)), .val (.int .i64 ((m : Int) + 1)), .val (.agg #[.slice vA vn vc, Zx, .int .i64 ((m : Int) + 1)]), .step, .step, .step, .step, .step] 4 5 (b + 1) W (by omega)
   (fun us V => match us with
     | [] => V.ownsRow (b + 1) YA 3 lims m (ZI l m)
     | [u0] => V.ownsRow (b + 1) YA 3 lims m (ZI l m) ∧ ∃ g, u0 = .slice (some ⟨g, 0, none⟩) 1 1 ∧ Zy V V.heap.size 3 (some ⟨g, 0, none⟩) 1 [.slice vA vn vc, Zx, .int .i64 ((m : Int) + 1)]
     | [_, u1] => V.ownsRow (b + 1) YA 3 u1 (m + 1) (ZI (XH l m (.slice vA vn vc)) (m + 1))
     | [_, u1, u2] => u2 = .pointer (some ⟨b, 0, none⟩) ∧ V.ownsRow (b + 1) YA 3 u1 (m + 1) (ZI (XH l m (.slice vA vn vc)) (m + 1))
     | [_, u1, _, u3] => u3 = .pointer (some ⟨b, 1, none⟩) ∧ V.ownsRow (b + 1) YA 3 u1 (m + 1) (ZI (XH l m (.slice vA vn vc)) (m + 1))
     | _ => False)
   (fun _ V => ∃ lims', XZ V b (m + 1) (XH l m (.slice vA vn vc)) lims' ∧ Below b w V)
   _ Zd (by kernel_rfl) (by kernel_rfl) (by kernel_rfl) (by kernel_rfl) (by kernel_rfl) (by kernel_rfl) (by kernel_rfl) (by kernel_rfl) (by kernel_rfl) rfl ?_ (Below.refl _ _) HR.out.drew ?_ ?_ ?_
 · intro us V V' hg hb
   match us, hg with
   | [], hg => exact Zn hg hb
   | [u0], ⟨h1, g, h2, h3⟩ => exact ⟨Zn h1 hb, g, h2, (h3.below hb).more hb.size⟩
   | [_, u1], hg => exact Zn hg hb
   | [_, u1, u2], hg => exact ⟨hg.1, Zn hg.2 hb⟩
   | [_, u1, u2, u3], hg => exact ⟨hg.1, Zn hg.2 hb⟩
 · simp [YH, Zq, Zs, Zj, ZK]
   repeat' apply And.intro
   all_goals
     intro V hV
     have hx := HW.out.below hV (Nat.lt_succ_self b)
     have c0 := hx.cell 0
     have c1 := hx.cell 1
     simp at c0 c1
     clear hV hx
     go_simp
     try exact Below.refl _ _
 · simp [Yk, Zq, Zs, Zj, ZK, ZR, List.filter, XY.isStep]
   refine ⟨fun V hV hr => ?_, fun u0 => ⟨fun V hV hr g hu hrd => ?_, fun u1 => ⟨fun V hV hr => ?_, fun u2 => ⟨fun V hV hu2 hr => ?_, fun u3 V hV hu3 hr => ?_⟩⟩⟩⟩
   · go_simp
     exact ⟨hV.alloc (by have := hV.size; omega) _, Zn hr ((Below.refl _ _).alloc (Nat.le_refl _) _), Zy.new1 V _ 3 _ rfl⟩
   · subst hu
     have hsz := hV.size
     refine JC V (.tmp 15) (.tmp 22) _ rfl (b + 1) YA i0 _ 3 56 Tryz.underlying38 hi hz0 hz1 hz2 rfl (by omega) lims m (ZI l m) rfl hr V.heap.size (some ⟨g, 0, none⟩) 1 1 [.slice vA vn vc, Zx, .int .i64 ((m : Int) + 1)] rfl hrd (by simp [Value.oneCell']) (by unfold maxLen; omega) (by omega) (by omega) ?_
     intro v' w' ho hg hat
     refine ⟨v', rfl, hV.grown hg (by omega) (fun k hk => (hr.lt k hk).1), ?_⟩
     rw [Jl, show ((m + 1 : Nat) : Int) = (m : Int) + 1 by omega]
     exact ho
   · go_simp
     try exact ⟨hV, hr⟩
   · subst hu2
     go_simp
     try exact ⟨hV, hr⟩
   · subst hu3
     obtain ⟨A1, k1, rfl⟩ := Xx (by omega) hr
     have hx := HW.out.below hV (Nat.lt_succ_self b)
     have c1 := hx.cell 1
     have f1 := hx.frozen 1
     simp at c1
     go_simp
     refine ⟨⟨.slice A1 (m + 1) k1, ?_, ?_⟩, (HB.out.trans (hV.mono (Nat.le_succ b))).setCell (p := ⟨b, 1, none⟩) (Nat.le_refl _) _⟩
     · have := hx.set_ 1 (.slice A1 (m + 1) k1)
       exact this
     · exact ownsRow_setCell_below hr (a := ⟨b, 1, none⟩) (Nat.lt_succ_self b) _
 · intro us V hus hF
   simp only [show ¬ (5 ≤ 4) by decide, if_false] at hF
   have HF := Hd hF
   obtain ⟨u0, u1, u2, u3, u4, rfl⟩ : ∃ u0 u1 u2 u3 u4, us = [u0, u1, u2, u3, u4] := by
     match us, hus with
     | [u0, u1, u2, u3, u4], _ => exact ⟨u0, u1, u2, u3, u4, rfl⟩
   simp [Zq, Zs, Zj, ZK, ZR, List.filter, XY.isStep]
   clear hF HW HR HB
   go_wp2_with fail
   exact bodyPost_end (v := .tuple #[]) (by simp [results, Tryz.results146, go_sem]) rfl ⟨rfl, HF.out⟩
theorem XZ.below {w w' : World} {b m : Nat} {l : Nat → Value} {lims : Value} (h : XZ w b m l lims) (hb : Below w.heap.size w w') : XZ w' b m l lims :=
 ⟨h.book.below hb h.book.lt, Zn h.row hb⟩

theorem book_Int (b m : Nat) (l : Nat → Value) (lims : Value) (neg : Bool) (vA : Option Addr) (vn vc : Nat) (hm : m ≤ 1000) (w : World) (h : XZ w b m l lims) :
   Calls Tryz.prog 52 #[.pointer (some ⟨b, 0, none⟩), .agg #[.bool neg, .slice vA vn vc]] w fun e w' => e = .returned (.tuple #[]) ∧ ∃ lims', XZ w' b (m + 1) (XH l m (.slice vA vn vc)) lims' ∧ Below b w w' := by
 have hlt := h.book.lt
 have C := Hd (keep_limb b m l lims vA vn vc hm _ (h.below ((Below.refl _ _).alloc (Nat.le_refl _) (.cells #[.bool neg, .slice vA vn vc] 25))))
 have hb := Hd (((Below.refl w.heap.size w).alloc (Nat.le_refl _) (.cells #[.bool neg, .slice vA vn vc] 25)).mono (Nat.le_of_lt hlt))
 clear h
 go_enter Tryz.func52, Tryz.ntmps52
 go_wp2_with fail
 refine C.out.mono ?_
 rintro e w' ⟨rfl, lims', hk, hb2⟩
 have HF := Hd (⟨lims', hk, hb.out.trans hb2⟩ : ∃ lims', XZ w' b (m + 1) (XH l m (.slice vA vn vc)) lims' ∧ Below b w w')
 clear C hb hk hb2
 go_wp2_with fail
 exact bodyPost_end (v := .tuple #[]) (by simp [results, Tryz.results52, go_sem]) rfl ⟨rfl, HF.out⟩
/- keepLimb leaves a block that is not the Book's as it is. (Written by wip/book/genkeepfar.py.) -/

theorem keep_far (g0 : Nat) (T0 : TypeId) (cs0 : Array Value) (hT0 : T0 ≠ YA) (b m : Nat) (hg0 : g0 ≠ b) (l : Nat → Value) (lims : Value) (vA : Option Addr) (vn vc : Nat) (hm : m ≤ 1000) (w : World) (h : XZ w b m l lims) (hx0 : ZM w g0 T0 cs0) :
   Calls Tryz.prog 146 #[.pointer (some ⟨b, 0, none⟩), .slice vA vn vc] w fun e w' => e = .returned (.tuple #[]) ∧ ∃ lims', XZ w' b (m + 1) (XH l m (.slice vA vn vc)) lims' ∧ Below b w w' ∧ ZM w' g0 T0 cs0 := by
 obtain ⟨i0, hi, hz0, hz1, hz2⟩ := info_parts heldInfo
 have hb := h.book
 have hrow := h.row
 have hlt := hb.lt
 have c0 := hb.cell 0
 have f0 := hb.frozen 0
 simp at c0
 have hadd : IntKind.i64.wrap ((m : Int) + 1) = ((m + 1 : Nat) : Int) := by rw [IntWalk.i64_in _ (by omega)]; omega
 clear h
 have HB := Hd hb
 have HR := Hd hrow
 clear hb hrow
 go_enter Tryz.func146, Tryz.ntmps146
 go_wp2_with fail
 have hW : ZM (w.setCell ⟨b, 0, none⟩ (.int .i64 ((m : Int) + 1))) b ZW #[.int .i64 ((m : Int) + 1), lims, Zx, Zx, Zx, Zx, Zx, Zx, Zx, Zx, Zx, Zx, Zx, Zx, Zx, Zx, Zx] := HB.out.set_ 0 _
 have hrW := ownsRow_setCell_below HR.out (a := ⟨b, 0, none⟩) (Nat.lt_succ_self b) (.int .i64 ((m : Int) + 1))
 have hbW : Below b w (w.setCell ⟨b, 0, none⟩ (.int .i64 ((m : Int) + 1))) := (Below.refl b w).setCell (p := ⟨b, 0, none⟩) (Nat.le_refl _) _
 have hgW : ZM (w.setCell ⟨b, 0, none⟩ (.int .i64 ((m : Int) + 1))) g0 T0 cs0 := by
   unfold ZM at hx0 ⊢
   rw [Below.heap_setCell _ ⟨b, 0, none⟩ _ g0 hg0]
   exact hx0
 clear hx0
 obtain ⟨W, E⟩ : ∃ W, W = w.setCell ⟨b, 0, none⟩ (.int .i64 ((m : Int) + 1)) := ⟨_, rfl⟩
 rw [← E] at hW hrW hbW hgW ⊢
 clear E HB HR c0 f0
 have hltW := hW.lt
 have HW := Hd hW
 have HR := Hd hrW
 have HB := Hd hbW
 have HG := Hd hgW
 clear hW hrW hbW hgW hadd
 refine XG [.val (.pointer (some ⟨b, 0, none⟩)), .val (.pointer (some ⟨b, 0, none⟩)), .val (.pointer (some ⟨b, 0, none⟩)), .val (.pointer (some ⟨b, 1, none⟩)), .val lims, .val (.slice vA vn vc), .val (.pointer (some ⟨b, 0, none⟩)), .val (.pointer (some ⟨b, 0, none⟩)), .val (.pointer (some ⟨b, 0, none⟩)), .val (.int .i64 ((m : Int) + 1)), .val (.agg #[.slice vA vn vc, Zx, .int .i64 ((m : Int) + 1)]), .step, .step, .step, .step, .step] 4 5 (b + 1) W (by omega)
   (fun us V => match us with
     | [] => V.ownsRow (b + 1) YA 3 lims m (ZI l m) ∧ ZM V g0 T0 cs0
     | [u0] => V.ownsRow (b + 1) YA 3 lims m (ZI l m) ∧ ZM V g0 T0 cs0 ∧ ∃ g, u0 = .slice (some ⟨g, 0, none⟩) 1 1 ∧ Zy V V.heap.size 3 (some ⟨g, 0, none⟩) 1 [.slice vA vn vc, Zx, .int .i64 ((m : Int) + 1)]
     | [_, u1] => V.ownsRow (b + 1) YA 3 u1 (m + 1) (ZI (XH l m (.slice vA vn vc)) (m + 1)) ∧ ZM V g0 T0 cs0
     | [_, u1, u2] => u2 = .pointer (some ⟨b, 0, none⟩) ∧ V.ownsRow (b + 1) YA 3 u1 (m + 1) (ZI (XH l m (.slice vA vn vc)) (m + 1)) ∧ ZM V g0 T0 cs0
     | [_, u1, _, u3] => u3 = .pointer (some ⟨b, 1, none⟩) ∧ V.ownsRow (b + 1) YA 3 u1 (m + 1) (ZI (XH l m (.slice vA vn vc)) (m + 1)) ∧ ZM V g0 T0 cs0
     | _ => False)
   (fun _ V => ∃ lims', XZ V b (m + 1) (XH l m (.slice vA vn vc)) lims' ∧ Below b w V ∧ ZM V g0 T0 cs0)
   _ Zd (by kernel_rfl) (by kernel_rfl) (by kernel_rfl) (by kernel_rfl) (by kernel_rfl) (by kernel_rfl) (by kernel_rfl) (by kernel_rfl) (by kernel_rfl) rfl ?_ (Below.refl _ _) ⟨HR.out.drew, HG.out.below (Below.refl _ _).drew HG.out.lt⟩ ?_ ?_ ?_
 · intro us V V' hg hb
   match us, hg with
   | [], hg => exact ⟨Zn hg.1 hb, hg.2.below hb hg.2.lt⟩
   | [u0], ⟨h1, h0, g, h2, h3⟩ => exact ⟨Zn h1 hb, h0.below hb h0.lt, g, h2, (h3.below hb).more hb.size⟩
   | [_, u1], hg => exact ⟨Zn hg.1 hb, hg.2.below hb hg.2.lt⟩
   | [_, u1, u2], hg => exact ⟨hg.1, Zn hg.2.1 hb, hg.2.2.below hb hg.2.2.lt⟩
   | [_, u1, u2, u3], hg => exact ⟨hg.1, Zn hg.2.1 hb, hg.2.2.below hb hg.2.2.lt⟩
 · simp [YH, Zq, Zs, Zj, ZK]
   repeat' apply And.intro
   all_goals
     intro V hV
     have hx := HW.out.below hV (Nat.lt_succ_self b)
     have c0 := hx.cell 0
     have c1 := hx.cell 1
     simp at c0 c1
     clear hV hx
     go_simp
     try exact Below.refl _ _
 · simp [Yk, Zq, Zs, Zj, ZK, ZR, List.filter, XY.isStep]
   refine ⟨fun V hV hr hx0 => ?_, fun u0 => ⟨fun V hV hr hx0 g hu hrd => ?_, fun u1 => ⟨fun V hV hr hx0 => ?_, fun u2 => ⟨fun V hV hu2 hr hx0 => ?_, fun u3 V hV hu3 hr hx0 => ?_⟩⟩⟩⟩
   · go_simp
     exact ⟨hV.alloc (by have := hV.size; omega) _, Zn hr ((Below.refl _ _).alloc (Nat.le_refl _) _), hx0.alloc _, Zy.new1 V _ 3 _ rfl⟩
   · subst hu
     have hsz := hV.size
     refine JC V (.tmp 15) (.tmp 22) _ rfl (b + 1) YA i0 _ 3 56 Tryz.underlying38 hi hz0 hz1 hz2 rfl (by omega) lims m (ZI l m) rfl hr V.heap.size (some ⟨g, 0, none⟩) 1 1 [.slice vA vn vc, Zx, .int .i64 ((m : Int) + 1)] rfl hrd (by simp [Value.oneCell']) (by unfold maxLen; omega) (by omega) (by omega) ?_
     intro v' w' ho hg hat
     refine ⟨v', rfl, hV.grown hg (by omega) (fun k hk => (hr.lt k hk).1), ?_⟩
     rw [Jl, show ((m + 1 : Nat) : Int) = (m : Int) + 1 by omega]
     exact ⟨ho, hx0.grown hg (Ne.symm (Xp hr hx0 hT0.symm))⟩
   · go_simp
     try exact ⟨hV, hr, hx0⟩
   · subst hu2
     go_simp
     try exact ⟨hV, hr, hx0⟩
   · subst hu3
     obtain ⟨A1, k1, rfl⟩ := Xx (by omega) hr
     have hx := HW.out.below hV (Nat.lt_succ_self b)
     have c1 := hx.cell 1
     have f1 := hx.frozen 1
     simp at c1
     go_simp
     refine ⟨⟨.slice A1 (m + 1) k1, ?_, ?_⟩, (HB.out.trans (hV.mono (Nat.le_succ b))).setCell (p := ⟨b, 1, none⟩) (Nat.le_refl _) _, by
       unfold ZM at hx0 ⊢
       rw [Below.heap_setCell _ ⟨b, 1, none⟩ _ g0 hg0]
       exact hx0⟩
     · have := hx.set_ 1 (.slice A1 (m + 1) k1)
       exact this
     · exact ownsRow_setCell_below hr (a := ⟨b, 1, none⟩) (Nat.lt_succ_self b) _
 · intro us V hus hF
   simp only [show ¬ (5 ≤ 4) by decide, if_false] at hF
   have HF := Hd hF
   obtain ⟨u0, u1, u2, u3, u4, rfl⟩ : ∃ u0 u1 u2 u3 u4, us = [u0, u1, u2, u3, u4] := by
     match us, hus with
     | [u0, u1, u2, u3, u4], _ => exact ⟨u0, u1, u2, u3, u4, rfl⟩
   simp [Zq, Zs, Zj, ZK, ZR, List.filter, XY.isStep]
   clear hF HW HR HB HG
   go_wp2_with fail
   exact bodyPost_end (v := .tuple #[]) (by simp [results, Tryz.results146, go_sem]) rfl ⟨rfl, HF.out⟩

theorem book_Int_far (g0 : Nat) (T0 : TypeId) (cs0 : Array Value) (hT0 : T0 ≠ YA) (b m : Nat) (hg0 : g0 ≠ b) (l : Nat → Value) (lims : Value) (neg : Bool) (vA : Option Addr) (vn vc : Nat) (hm : m ≤ 1000) (w : World) (h : XZ w b m l lims) (hx0 : ZM w g0 T0 cs0) :
   Calls Tryz.prog 52 #[.pointer (some ⟨b, 0, none⟩), .agg #[.bool neg, .slice vA vn vc]] w fun e w' => e = .returned (.tuple #[]) ∧ ∃ lims', XZ w' b (m + 1) (XH l m (.slice vA vn vc)) lims' ∧ Below b w w' ∧ ZM w' g0 T0 cs0 := by
 have hlt := h.book.lt
 have C := Hd (keep_far g0 T0 cs0 hT0 b m hg0 l lims vA vn vc hm _ (h.below ((Below.refl _ _).alloc (Nat.le_refl _) (.cells #[.bool neg, .slice vA vn vc] 25))) (hx0.alloc _))
 have hb := Hd (((Below.refl w.heap.size w).alloc (Nat.le_refl _) (.cells #[.bool neg, .slice vA vn vc] 25)).mono (Nat.le_of_lt hlt))
 clear h hx0
 go_enter Tryz.func52, Tryz.ntmps52
 go_wp2_with fail
 refine C.out.mono ?_
 rintro e w' ⟨rfl, lims', hk, hb2, hx⟩
 have HF := Hd (⟨lims', hk, hb.out.trans hb2, hx⟩ : ∃ lims', XZ w' b (m + 1) (XH l m (.slice vA vn vc)) lims' ∧ Below b w w' ∧ ZM w' g0 T0 cs0)
 clear C hb hk hb2 hx
 go_wp2_with fail
 exact bodyPost_end (v := .tuple #[]) (by simp [results, Tryz.results52, go_sem]) rfl ⟨rfl, HF.out⟩
end Go.Proofs.YtipmkkobdbgphaaGreatDoor
