/- Several texts in one: FFloatsW. -/
import Derived.Test.YtipmkkobdbgphaaGreatDoorPf34
import Derived.Test.YtipmkkobdbgphaaGreatDoorPfHd
import Derived.Test.YtipmkkobdbgphaaGreatDoorPf35
set_option maxRecDepth 100000
set_option maxHeartbeats 8000000
/- FracFloats: the walk. (Written by wip/frac/genffloatsw.py.) -/
namespace Go.Proofs.YtipmkkobdbgphaaGreatDoor
open Go.RowKit

theorem ffloats_true (n1 n2 : Bool) (A B : Option Addr) (c e0 : Nat) (xs ys : List Nat) (v : Nat) (hv : v < 18446744073709551616) (w : World) (h : Zh w A c xs) (g : Zh w B e0 ys) (htab : Y9 w) (htz : YV w) (hx : xs.length ≤ 1152921504606846975) (hy : ys.length ≤ 1152921504606846975) :
   Calls Tryz.prog 3 #[.float .f64 v, .agg #[.bool n1, .slice A xs.length c, .bool n2, .slice B ys.length e0]] w fun e w' => e = .returned (.bool true) ∧ Below w.heap.size w w' := by
 have px := Zv.new w (.bool n1) (.slice A xs.length c) (.bool n2) (.slice B ys.length e0)
 have b0 := (Below.refl w.heap.size w).alloc (Nat.le_refl _) (.cells #[.bool n1, .slice A xs.length c, .bool n2, .slice B ys.length e0] 27)
 have C1 := fun (V : World) (h : Zh V A c xs) (g : Zh V B e0 ys) => frac_cost n1 n2 A B c e0 xs ys hx hy V h g
 have hs1 := fcost_le hx hy
 obtain ⟨s1, e1⟩ : ∃ k : Nat, k = fcost xs.length ys.length := ⟨_, rfl⟩
 rw [← e1] at C1 hs1
 obtain ⟨b, hb⟩ : ∃ b : Bool, b = decide (1048576 < [s1].sum) := ⟨_, rfl⟩
 have HLEN := Hd (show b = false → xs.length ≤ 1048576 ∧ ys.length ≤ 1048576 from by
   intro e
   rw [e] at hb
   have := of_decide_eq_false hb.symm
   unfold fcost at e1
   simp at this
   omega)
 have H2 := Hd (fun (u : Value) (V : World) (h : JB [s1] u V) => beyond_of2 [s1] b (by simp) (by simp; omega) hb u V h)
 have H1 := Hd C1
 obtain ⟨f, k, D1, D2⟩ := float_spec n1 n2 xs ys h.limbs g.limbs
 have hl2 := fl_lz v
 have D3 := fun (V : World) (t : YV V) => frac_FromFloat v hv V t
 have D4 := fun (V : World) => ref02_Worth v hv V
 obtain ⟨r, hr⟩ : ∃ k : Int, k = flN v := ⟨_, rfl⟩
 obtain ⟨u, hu⟩ : ∃ k : Int, k = flD v := ⟨_, rfl⟩
 obtain ⟨m, hm⟩ : ∃ k : Int, k = flK v := ⟨_, rfl⟩
 rw [← hr, ← hu, ← hm] at D3 D4
 rw [← hr, ← hu] at hl2
 have HL2 := Hd hl2
 have H3 := Hd D1
 have H4 := Hd D2
 have H5 := Hd D3
 have H6 := Hd D4
 have HZ := Hd (htz.below b0)
 have PX := Hd px
 have RX := Hd (h.below b0)
 have RY := Hd (g.below b0)
 have HT := Hd (htab.below2 b0)
 have HB := Hd b0
 clear px b0 h g htab htz hx hy C1 hs1 e1 hb hl2 hr hu hm hv D1 D2 D3 D4
 go_enter Tryz.func3, Tryz.ntmps3
 go_upto_region 1 with fail
 obtain ⟨W, E⟩ : ∃ W, W = w.alloc (.cells #[.bool n1, .slice A xs.length c, .bool n2, .slice B ys.length e0] 27) := ⟨_, rfl⟩
 rw [← E] at PX RX RY HT HZ HB ⊢
 clear E
 obtain ⟨l_x, x0, x1, x2, x3, -, -, -, -⟩ := PX.out.facts
 go_wp2_with fail
 refine (H1.out W RX.out RY.out).mono ?_
 rintro e wx1 ⟨rfl, hb⟩
 clear l_x x0 x1 x2 x3
 have HS_wx1 := Hd (show W.heap.size ≤ wx1.heap.size from hb.size)
 have PX := Hd (PX.out.below hb)
 have RX := Hd (RX.out.below hb)
 have RY := Hd (RY.out.below hb)
 have HT := Hd (HT.out.below2 hb)
 have HZ := Hd (HZ.out.below hb)
 have HB := Hd (Zb HB.out hb)
 go_wp2_with fail
 refine (H2.out _ _ (JB.new [s1] 3 wx1 _ rfl)).mono ?_
 rintro e wz ⟨rfl, hb⟩
 have hb := ((Below.refl wx1.heap.size wx1).alloc (Nat.le_refl _) (.cells #[.int .i64 (s1 : Int)] 3)).trans (hb.mono (by simp))
 have PX := Hd (PX.out.below hb)
 have RX := Hd (RX.out.below hb)
 have RY := Hd (RY.out.below hb)
 have HT := Hd (HT.out.below2 hb)
 have HZ := Hd (HZ.out.below hb)
 have HB := Hd (Zb HB.out hb)
 clear hb H1 H2
 cases b
 case true =>
   go_wp2_with fail
   go_ret
   exact ⟨rfl, HB.out⟩
 have HL := Hd (HLEN.out rfl)
 clear HLEN
 obtain ⟨l_x, x0, x1, x2, x3, -, -, -, -⟩ := PX.out.facts
 go_wp2_with fail
 refine (twin_frac n1 n2 A B c e0 xs ys wz RX.out RY.out HL.out.1 HL.out.2).mono ?_
 rintro e wx2 ⟨v, rfl, ht, hb⟩
 clear l_x x0 x1 x2 x3
 obtain ⟨g1, g2, rfl, t1, t2⟩ := ht.form
 have T1 := Hd t1
 have T2 := Hd t2
 clear ht t1 t2
 have HS_wx2 := Hd (show wz.heap.size ≤ wx2.heap.size from hb.size)
 have PX := Hd (PX.out.below hb)
 have RX := Hd (RX.out.below hb)
 have RY := Hd (RY.out.below hb)
 have HT := Hd (HT.out.below2 hb)
 have HZ := Hd (HZ.out.below hb)
 have HB := Hd (Zb HB.out hb)
 have ha := (Below.refl wx2.heap.size wx2).alloc (Nat.le_refl _) (.cells #[.bool n1, .slice (some ⟨g1, 0, none⟩) xs.length (xs.length + 1), .bool n2, .slice (some ⟨g2, 0, none⟩) ys.length (ys.length + 1)] 27)
 have hn := Zv.new wx2 (.bool n1) (.slice (some ⟨g1, 0, none⟩) xs.length (xs.length + 1)) (.bool n2) (.slice (some ⟨g2, 0, none⟩) ys.length (ys.length + 1))
 have hz : (wx2.alloc (.cells #[.bool n1, .slice (some ⟨g1, 0, none⟩) xs.length (xs.length + 1), .bool n2, .slice (some ⟨g2, 0, none⟩) ys.length (ys.length + 1)] 27)).heap.size = wx2.heap.size + 1 := by simp
 go_upto_region 4 with fail
 obtain ⟨wy3, E⟩ : ∃ W, W = wx2.alloc (.cells #[.bool n1, .slice (some ⟨g1, 0, none⟩) xs.length (xs.length + 1), .bool n2, .slice (some ⟨g2, 0, none⟩) ys.length (ys.length + 1)] 27) := ⟨_, rfl⟩
 obtain ⟨q3, hq⟩ : ∃ q, q = wx2.heap.size := ⟨_, rfl⟩
 rw [← E] at ha
 rw [← E, ← hq] at hn hz ⊢
 have HZ_wy3 := Hd (And.intro hq hz)
 have P1 := Hd hn
 have PX := Hd (PX.out.below ha)
 have RX := Hd (RX.out.below ha)
 have RY := Hd (RY.out.below ha)
 have HT := Hd (HT.out.below2 ha)
 have HZ := Hd (HZ.out.below ha)
 have T1 := Hd (T1.out.below ha)
 have T2 := Hd (T2.out.below ha)
 have HB := Hd (Zb HB.out ha)
 clear ha hn hz hq E
 have RA := Hd (T1.out.raw RX.out.limbs (by have := HL.out; omega))
 have RB := Hd (T2.out.raw RY.out.limbs (by have := HL.out; omega))
 have B_P1 := P1
 have B_PX := PX
 have B_T1 := T1
 have B_T2 := T2
 have B_RX := RX
 have B_RY := RY
 have B_HT := HT
 have B_HB := HB
 have HY := Hd (Below.refl wy3.heap.size wy3)
 go_wp2_with fail
 refine (H5.out wy3 HZ.out).mono ?_
 rintro e wx4 ⟨v, rfl, hI, hb⟩
 obtain ⟨A3, c3, B3, e3, rfl, -⟩ := hI.form
 have O_VA := Hd hI
 clear hI
 have HS_wx4 := Hd (show wy3.heap.size ≤ wx4.heap.size from hb.size)
 have PX := Hd (PX.out.below hb)
 have RX := Hd (RX.out.below hb)
 have RY := Hd (RY.out.below hb)
 have HT := Hd (HT.out.below2 hb)
 have HZ := Hd (HZ.out.below hb)
 have T1 := Hd (T1.out.below hb)
 have T2 := Hd (T2.out.below hb)
 have P1 := Hd (P1.out.below hb)
 have RA := Hd (RA.out.below hb)
 have RB := Hd (RB.out.below hb)
 have HB := Hd (Zb HB.out hb)
 have HY := Hd (Zb HY.out hb)
 have ha := (Below.refl wx4.heap.size wx4).alloc (Nat.le_refl _) (.cells #[.bool (decide (r < 0)), .slice A3 (Za r.natAbs).length c3, .bool (decide (u < 0)), .slice B3 (Za u.natAbs).length e3] 27)
 have hn := FVar.new O_VA.out
 have hz : (wx4.alloc (.cells #[.bool (decide (r < 0)), .slice A3 (Za r.natAbs).length c3, .bool (decide (u < 0)), .slice B3 (Za u.natAbs).length e3] 27)).heap.size = wx4.heap.size + 1 := by simp
 go_upto_region 5 with fail
 obtain ⟨wy5, E⟩ : ∃ W, W = wx4.alloc (.cells #[.bool (decide (r < 0)), .slice A3 (Za r.natAbs).length c3, .bool (decide (u < 0)), .slice B3 (Za u.natAbs).length e3] 27) := ⟨_, rfl⟩
 obtain ⟨q5, hq⟩ : ∃ q, q = wx4.heap.size := ⟨_, rfl⟩
 rw [← E] at ha
 rw [← E, ← hq] at hn hz ⊢
 have HZ_wy5 := Hd (And.intro hq hz)
 have VA := Hd hn
 have PX := Hd (PX.out.below ha)
 have RX := Hd (RX.out.below ha)
 have RY := Hd (RY.out.below ha)
 have HT := Hd (HT.out.below2 ha)
 have HZ := Hd (HZ.out.below ha)
 have T1 := Hd (T1.out.below ha)
 have T2 := Hd (T2.out.below ha)
 have P1 := Hd (P1.out.below ha)
 have RA := Hd (RA.out.below ha)
 have RB := Hd (RB.out.below ha)
 have HB := Hd (Zb HB.out ha)
 have HY := Hd (Zb HY.out ha)
 clear ha hn hz hq E
 go_wp2_with fail
 refine (H6.out wy5).mono ?_
 rintro e wx6 ⟨v, rfl, hI, hb⟩
 obtain ⟨A5, c5, B5, e5, rfl, r1, r2⟩ := hI.form
 have O_VW := Hd (And.intro r1 r2)
 clear hI r1 r2
 have HS_wx6 := Hd (show wy5.heap.size ≤ wx6.heap.size from hb.size)
 have PX := Hd (PX.out.below hb)
 have RX := Hd (RX.out.below hb)
 have RY := Hd (RY.out.below hb)
 have HT := Hd (HT.out.below2 hb)
 have HZ := Hd (HZ.out.below hb)
 have T1 := Hd (T1.out.below hb)
 have T2 := Hd (T2.out.below hb)
 have P1 := Hd (P1.out.below hb)
 have RA := Hd (RA.out.below hb)
 have RB := Hd (RB.out.below hb)
 have VA := Hd (VA.out.below hb)
 have HB := Hd (Zb HB.out hb)
 have HY := Hd (Zb HY.out hb)
 have ha := (Below.refl wx6.heap.size wx6).alloc (Nat.le_refl _) (.cells #[.bool (decide (r < 0)), .slice A5 (Za r.natAbs).length c5, .bool (decide (u < 0)), .slice B5 (Za u.natAbs).length e5] 27)
 have hn := FV.new O_VW.out.1 O_VW.out.2
 have hz : (wx6.alloc (.cells #[.bool (decide (r < 0)), .slice A5 (Za r.natAbs).length c5, .bool (decide (u < 0)), .slice B5 (Za u.natAbs).length e5] 27)).heap.size = wx6.heap.size + 1 := by simp
 go_upto_region 6 with fail
 obtain ⟨wy7, E⟩ : ∃ W, W = wx6.alloc (.cells #[.bool (decide (r < 0)), .slice A5 (Za r.natAbs).length c5, .bool (decide (u < 0)), .slice B5 (Za u.natAbs).length e5] 27) := ⟨_, rfl⟩
 obtain ⟨q7, hq⟩ : ∃ q, q = wx6.heap.size := ⟨_, rfl⟩
 rw [← E] at ha
 rw [← E, ← hq] at hn hz ⊢
 have HZ_wy7 := Hd (And.intro hq hz)
 have VW := Hd hn
 have PX := Hd (PX.out.below ha)
 have RX := Hd (RX.out.below ha)
 have RY := Hd (RY.out.below ha)
 have HT := Hd (HT.out.below2 ha)
 have HZ := Hd (HZ.out.below ha)
 have T1 := Hd (T1.out.below ha)
 have T2 := Hd (T2.out.below ha)
 have P1 := Hd (P1.out.below ha)
 have RA := Hd (RA.out.below ha)
 have RB := Hd (RB.out.below ha)
 have VA := Hd (VA.out.below ha)
 have HB := Hd (Zb HB.out ha)
 have HY := Hd (Zb HY.out ha)
 clear ha hn hz hq E
 obtain ⟨l_x, x0, x1, x2, x3, -, -, -, -⟩ := P1.out.facts
 go_wp2_with fail
 refine (H3.out wy7 (some ⟨g1, 0, none⟩) (some ⟨g2, 0, none⟩) (xs.length + 1) (ys.length + 1) RA.out RB.out).mono ?_
 rintro e wx8 ⟨rfl, hb⟩
 clear l_x x0 x1 x2 x3
 have HS_wx8 := Hd (show wy7.heap.size ≤ wx8.heap.size from hb.size)
 have PX := Hd (PX.out.below hb)
 have RX := Hd (RX.out.below hb)
 have RY := Hd (RY.out.below hb)
 have HT := Hd (HT.out.below2 hb)
 have HZ := Hd (HZ.out.below hb)
 have T1 := Hd (T1.out.below hb)
 have T2 := Hd (T2.out.below hb)
 have P1 := Hd (P1.out.below hb)
 have RA := Hd (RA.out.below hb)
 have RB := Hd (RB.out.below hb)
 have VA := Hd (VA.out.below hb)
 have VW := Hd (VW.out.below hb)
 have HB := Hd (Zb HB.out hb)
 have HY := Hd (Zb HY.out hb)
 obtain ⟨l_x, x0, x1, x2, x3, -, -, -, -⟩ := PX.out.facts
 go_wp2_with fail
 refine (H4.out wx8 A B c e0 RX.out RY.out).mono ?_
 rintro e wx9 ⟨rfl, hb⟩
 clear l_x x0 x1 x2 x3
 have HS_wx9 := Hd (show wx8.heap.size ≤ wx9.heap.size from hb.size)
 have PX := Hd (PX.out.below hb)
 have RX := Hd (RX.out.below hb)
 have RY := Hd (RY.out.below hb)
 have HT := Hd (HT.out.below2 hb)
 have HZ := Hd (HZ.out.below hb)
 have T1 := Hd (T1.out.below hb)
 have T2 := Hd (T2.out.below hb)
 have P1 := Hd (P1.out.below hb)
 have RA := Hd (RA.out.below hb)
 have RB := Hd (RB.out.below hb)
 have VA := Hd (VA.out.below hb)
 have VW := Hd (VW.out.below hb)
 have HB := Hd (Zb HB.out hb)
 have HY := Hd (Zb HY.out hb)
 obtain ⟨l_a, a0, a1, a2, a3, -, -, -, -⟩ := VA.out.quad.facts
 obtain ⟨l_b, b0, b1, b2, b3, -, -, -, -⟩ := VW.out.quad.facts
 go_wp2_with fail
 refine (sameFrac_true _ _ _ _ wx9 VA.out.at_ VW.out.at_).mono ?_
 rintro e wx10 ⟨rfl, hb⟩
 clear l_a a0 a1 a2 a3 l_b b0 b1 b2 b3
 have HS_wx10 := Hd (show wx9.heap.size ≤ wx10.heap.size from hb.size)
 have PX := Hd (PX.out.below hb)
 have RX := Hd (RX.out.below hb)
 have RY := Hd (RY.out.below hb)
 have HT := Hd (HT.out.below2 hb)
 have HZ := Hd (HZ.out.below hb)
 have T1 := Hd (T1.out.below hb)
 have T2 := Hd (T2.out.below hb)
 have P1 := Hd (P1.out.below hb)
 have RA := Hd (RA.out.below hb)
 have RB := Hd (RB.out.below hb)
 have VA := Hd (VA.out.below hb)
 have VW := Hd (VW.out.below hb)
 have HB := Hd (Zb HB.out hb)
 have HY := Hd (Zb HY.out hb)
 go_wp2_with fail
 refine (same_float f wx10).mono ?_
 rintro e wx11 ⟨rfl, hb⟩
 have HS_wx11 := Hd (show wx10.heap.size ≤ wx11.heap.size from hb.size)
 have PX := Hd (PX.out.below hb)
 have RX := Hd (RX.out.below hb)
 have RY := Hd (RY.out.below hb)
 have HT := Hd (HT.out.below2 hb)
 have HZ := Hd (HZ.out.below hb)
 have T1 := Hd (T1.out.below hb)
 have T2 := Hd (T2.out.below hb)
 have P1 := Hd (P1.out.below hb)
 have RA := Hd (RA.out.below hb)
 have RB := Hd (RB.out.below hb)
 have VA := Hd (VA.out.below hb)
 have VW := Hd (VW.out.below hb)
 have HB := Hd (Zb HB.out hb)
 have HY := Hd (Zb HY.out hb)
 have HR := Hd (show YU wx11 wy3.heap.size [.slice A3 (Za r.natAbs).length c3, .slice B3 (Za u.natAbs).length e3] wx11.heap.size from by
   have k_HS_wx2 := HS_wx2.out
   have k_HZ_wy3 := HZ_wy3.out
   have k_HS_wx4 := HS_wx4.out
   have k_HZ_wy5 := HZ_wy5.out
   have k_HS_wx6 := HS_wx6.out
   have k_HZ_wy7 := HZ_wy7.out
   have k_HS_wx8 := HS_wx8.out
   have k_HS_wx9 := HS_wx9.out
   have k_HS_wx10 := HS_wx10.out
   have k_HS_wx11 := HS_wx11.out
   have kb := HY.out.size
   have z0 := YU.nil wx11 wy3.heap.size
   have z1 := (z0.up (hi' := wy3.heap.size) (by omega)).frac VA.out (by have := HL2.out; omega) (by have := HL2.out; omega) (by omega)
   exact z1.up (by omega))
 clear HS_wx2 HZ_wy3 HS_wx4 HZ_wy5 HS_wx6 HZ_wy7 HS_wx8 HS_wx9 HS_wx10 HS_wx11
 go_upto_region 11 with fail
 obtain ⟨v0, E⟩ : ∃ W, W = wx11.alloc (.cells #[.int .i64 0, .slice none 0 0, .slice none 0 0, .slice none 0 0, .slice none 0 0, .slice none 0 0, .slice none 0 0, .slice none 0 0, .slice none 0 0, .slice none 0 0, .slice none 0 0, .slice none 0 0, .slice none 0 0, .slice none 0 0, .slice none 0 0, .slice none 0 0, .slice none 0 0] 55) := ⟨_, rfl⟩
 have hk0 : XZ v0 wx11.heap.size 0 (fun _ => Zx) Zx := by rw [E]; exact XZ.new wx11 _
 have hW0 := Hd (show Below wx11.heap.size wx11 v0 from by rw [E]; exact (Below.refl _ _).alloc (Nat.le_refl _) _)
 rw [← E]
 obtain ⟨b, hbb⟩ : ∃ b, b = wx11.heap.size := ⟨_, rfl⟩
 rw [← hbb] at hk0 ⊢
 have HBB := Hd hbb
 have K0 := Hd hk0
 clear E hk0 hbb
 obtain ⟨l_1, u1, u2, u3, u4, -, -, -, -⟩ := (VA.out.quad.below hW0.out).facts
 go_wp2_with fail
 refine (book_Frac b 0 (fun _ => Zx) Zx (decide (r < 0)) (decide (u < 0)) A3 B3 (Za r.natAbs).length c3 (Za u.natAbs).length e3 (by omega) _ K0.out).mono ?_
 rintro e v1 ⟨rfl, lims1, hk, hb⟩
 have hW1 := Hd (hW0.out.trans (HBB.out ▸ hb))
 have K1 := Hd hk
 clear l_1 u1 u2 u3 u4 hk hb K0
 have HF := Hd (apart_in b wy3.heap.size [.slice A3 (Za r.natAbs).length c3, .slice B3 (Za u.natAbs).length e3] lims1 wy3 v1 (by simp) (by simp) (K1.out.cong (fun j hj => by
   rcases (by omega : j = 0 ∨ j = 1) with rfl | rfl <;> rfl)) (by rw [HBB.out]; exact HR.out.below hW1.out) (Zb HY.out hW1.out))
 clear HR K1
 go_wp2_with fail
 refine HF.out.mono ?_
 rintro e w1 ⟨rfl, hb1⟩
 clear PX RX RY HT HZ T1 T2 P1 RA RB VA VW HY HB HF hW0 hW1 HBB
 have P1 := Hd (B_P1.out.below hb1)
 have PX := Hd (B_PX.out.below hb1)
 have T1 := Hd (B_T1.out.below hb1)
 have T2 := Hd (B_T2.out.below hb1)
 have RX := Hd (B_RX.out.below hb1)
 have RY := Hd (B_RY.out.below hb1)
 have HT := Hd (B_HT.out.below2 hb1)
 have HB := Hd (Zb B_HB.out hb1)
 clear hb1 B_P1 B_PX B_T1 B_T2 B_RX B_RY B_HT B_HB
 obtain ⟨l_t, t0, t1, t2, t3, -, -, -, -⟩ := P1.out.facts
 obtain ⟨l_x, x0, x1, x2, x3, -, -, -, -⟩ := PX.out.facts
 go_wp2_with fail
 refine (left_frac n1 n2 A B c e0 xs ys g1 g2 w1 RX.out RY.out T1.out T2.out HL.out.1 HL.out.2).mono ?_
 rintro e wx12 ⟨rfl, hb⟩
 clear l_t t0 t1 t2 t3 l_x x0 x1 x2 x3
 have HS_wx12 := Hd (show w1.heap.size ≤ wx12.heap.size from hb.size)
 have P1 := Hd (P1.out.below hb)
 have PX := Hd (PX.out.below hb)
 have T1 := Hd (T1.out.below hb)
 have T2 := Hd (T2.out.below hb)
 have RX := Hd (RX.out.below hb)
 have RY := Hd (RY.out.below hb)
 have HT := Hd (HT.out.below2 hb)
 have HB := Hd (Zb HB.out hb)
 go_wp2_with fail
 refine (lives_ours wx12 HT.out).mono ?_
 rintro e wx13 ⟨rfl, hb⟩
 have HS_wx13 := Hd (show wx12.heap.size ≤ wx13.heap.size from hb.size)
 have P1 := Hd (P1.out.below hb)
 have PX := Hd (PX.out.below hb)
 have T1 := Hd (T1.out.below hb)
 have T2 := Hd (T2.out.below hb)
 have RX := Hd (RX.out.below hb)
 have RY := Hd (RY.out.below hb)
 have HT := Hd (HT.out.below2 hb)
 have HB := Hd (Zb HB.out hb)
 go_wp2_with fail
 go_ret
 exact ⟨rfl, HB.out⟩
end Go.Proofs.YtipmkkobdbgphaaGreatDoor
