/- Several texts in one: GTextsW. -/
import Derived.Test.YtdonecnhdkjniaaGreatDoorGxReckW
import Derived.Test.YtdonecnhdkjniaaGreatDoorGx37
set_option maxRecDepth 100000
set_option maxHeartbeats 8000000
namespace Go.Proofs.YtdonecnhdkjniaaGreatDoor
open Go.RowKit

theorem gtexts_true {n1 n2 n3 n4 : Bool} {xs ys us vs : List Nat} (s : ByteArray) (w : World) (v_x : Value) (g_x : ZR w v_x n1 n2 n3 n4 xs ys us vs) (htab : ZM w) (hu : Lib.Utf8Tabs 2 3 w)
  (bx : (xs.length <= 1152921504606846975 /\ ys.length <= 1152921504606846975) /\ us.length <= 1152921504606846975 /\ vs.length <= 1152921504606846975) (hz : s.size <= 4611686018427387903) :
  Calls Tryz.prog 3 #[v_x, .string s] w fun e w' => e = .returned (.bool true) /\ Below w.heap.size w w' := by
 obtain ⟨Ax1, cx1, Ax2, cx2, Ax3, cx3, Ax4, cx4, rfl, r1, r2, r3, r4⟩ := g_x.form
 have C1 := fun (V : World) (v : Value) (g : ZR V v n1 n2 n3 n4 xs ys us vs) => gauss_cost bx.1.1 bx.1.2 bx.2.1 bx.2.2 V v g
 have b1 := fcost_le bx.1.1 bx.1.2
 have b2 := fcost_le bx.2.1 bx.2.2
 obtain ⟨s1, e1⟩ : ∃ k : Nat, k = fcost xs.length ys.length + fcost us.length vs.length := ⟨_, rfl⟩
 rw [<- e1] at C1
 obtain ⟨b, hb⟩ : ∃ b : Bool, b = decide (1048576 < [s1, s.size].sum) := ⟨_, rfl⟩
 have HLX := Hd (And.intro (And.intro r1.limbs r2.limbs) (And.intro r3.limbs r4.limbs))
 have HLEN := Hd (show b = false -> ((xs.length <= 1048576 /\ ys.length <= 1048576) /\ us.length <= 1048576 /\ vs.length <= 1048576) from by
  intro e
  rw [e] at hb
  have h9 := of_decide_eq_false hb.symm
  simp at h9
  clear C1 HLX b1 b2 hb
  unfold fcost at e1
  omega)
 have H3 := Hd (fun (u : Value) (V : World) (h : SliceOf [s1, s.size] u V) => beyond_of3 [s1, s.size] b (by simp) (by simp; omega) hb u V h)
 have H1 := Hd C1
 obtain ⟨t, k, D1, E1, -⟩ := gtext_spec n1 n2 n3 n4 xs ys us vs r1.limbs r2.limbs r3.limbs r4.limbs
 obtain ⟨N, D, M, E, K, z1, P1, Q1, -⟩ := parse_spec s
 have HD1 := Hd D1
 have HE1 := Hd E1
 have HZ1 := Hd z1
 have HP1 := Hd P1
 have HQ1 := Hd Q1
 have HT := Hd htab
 have HU := Hd hu
 have G_x := Hd g_x
 clear C1 b1 b2 e1 hb z1 P1 Q1 D1 E1 htab hu g_x r1 r2 r3 r4 bx hz
 go_enter Tryz.func3, Tryz.ntmps3
 go_upto_region 1 with fail
 refine Zp (P := fun W => Code.wp _ _ _ _ W) fun W p0 b0 => ?_
 have F := Hd (((Kp.base b0).add (ZC.nil W w.heap.size) (fun _ _ => ZC.below)).add (GRV.mk (Yl.mk p0) (G_x.out.below b0)) (fun _ _ => GRV.below))
 clear b0 p0 G_x
 obtain ⟨V_x, -⟩ := F.out.h
 obtain ⟨l_x, a_x, b_x, c_x, d_x, e_x, f_x, g_x, h_x⟩ := V_x.oct.facts
 go_wp2_with fail
 refine (H1.out W _ V_x.at_).mono ?_
 rintro e wx1 ⟨rfl, hb⟩
 have F := Hd (F.out.below hb)
 clear l_x a_x b_x c_x d_x e_x f_x g_x h_x V_x
 clear hb
 go_wp2_with fail
 refine (H3.out _ _ (SliceOf.new [s1, s.size] 3 wx1 _ rfl)).mono ?_
 rintro e wz ⟨rfl, hb⟩
 have hb := ((Below.refl wx1.heap.size wx1).alloc (Nat.le_refl _) (.cells #[.int .i64 (s1 : Int), .int .i64 (s.size : Int)] 3)).trans (hb.mono (by simp))
 have F := Hd (F.out.below hb)
 clear hb
 clear H1 H3
 cases b
 case true =>
  obtain ⟨-, -, HB⟩ := F.out.h
  go_wp2_with fail
  go_ret
  exact ⟨rfl, HB⟩
 have HL := Hd (HLEN.out rfl)
 clear HLEN
 have H1 := Hd (fun (V : World) (g : ZR V (.agg #[.bool n1, .slice Ax1 xs.length cx1, .bool n2, .slice Ax2 ys.length cx2, .bool n3, .slice Ax3 us.length cx3, .bool n4, .slice Ax4 vs.length cx4]) n1 n2 n3 n4 xs ys us vs) => twin_gauss_own n1 n2 n3 n4 Ax1 Ax2 Ax3 Ax4 cx1 cx2 cx3 cx4 xs ys us vs V g.raws.1 g.raws.2.1 g.raws.2.2.1 g.raws.2.2.2 HL.out.1.1 HL.out.1.2 HL.out.2.1 HL.out.2.2)
 obtain ⟨V_x, -, HB⟩ := F.out.h
 obtain ⟨l_x, a_x, b_x, c_x, d_x, e_x, f_x, g_x, h_x⟩ := V_x.oct.facts
 go_wp2_with fail
 refine (H1.out wz V_x.at_).mono ?_
 rintro e wt ⟨v, rfl, ht, hb⟩
 have h1 := ht.base HB.size
 have x1 := h1.raw HLX.out.1.1 HLX.out.1.2 HLX.out.2.1 HLX.out.2.2 HL.out.1.1 HL.out.1.2 HL.out.2.1 HL.out.2.2
 obtain ⟨g1, g2, g3, g4, rfl, -⟩ := h1.form
 clear l_x a_x b_x c_x d_x e_x f_x g_x h_x HB V_x
 have ha := (Below.refl wt.heap.size wt).alloc (Nat.le_refl _) (.cells #[.bool n1, .slice (some ⟨g1, 0, none⟩) xs.length (xs.length + 1), .bool n2, .slice (some ⟨g2, 0, none⟩) ys.length (ys.length + 1), .bool n3, .slice (some ⟨g3, 0, none⟩) us.length (us.length + 1), .bool n4, .slice (some ⟨g4, 0, none⟩) vs.length (vs.length + 1)] 28)
 have F := Hd ((((F.out.below hb).below ha).add (GRV.mk (Yl.new wt 28 _ _ _ _ _ _ _ _) (x1.below ha)) (fun _ _ => GRV.below)).add (h1.below ha) (fun _ _ => YZ.below))
 clear ht h1 x1 hb ha H1
 go_upto_region 4 with fail
 obtain ⟨wp, E⟩ : ∃ W, W = wt.alloc (.cells #[.bool n1, .slice (some ⟨g1, 0, none⟩) xs.length (xs.length + 1), .bool n2, .slice (some ⟨g2, 0, none⟩) ys.length (ys.length + 1), .bool n3, .slice (some ⟨g3, 0, none⟩) us.length (us.length + 1), .bool n4, .slice (some ⟨g4, 0, none⟩) vs.length (vs.length + 1)] 28) := ⟨_, rfl⟩
 obtain ⟨b_p, hq⟩ : ∃ q, q = wt.heap.size := ⟨_, rfl⟩
 rw [<- E, <- hq] at F ⊢
 clear E hq
 obtain ⟨-, V_p, -, -, HB⟩ := F.out.h
 obtain ⟨l_p, a_p, b_p, c_p, d_p, e_p, f_p, g_p, h_p⟩ := V_p.oct.facts
 go_wp2_with fail
 refine (HD1.out wp _ V_p.at_ (HT.out.below2 HB)).mono ?_
 rintro e wx2 ⟨rfl, hb⟩
 have F := Hd (F.out.below hb)
 clear l_p a_p b_p c_p d_p e_p f_p g_p h_p HB V_p
 clear hb
 obtain ⟨-, -, -, RS, HB⟩ := F.out.h
 go_wp2_with fail
 refine (HP1.out wx2 (Utf8Tabs_below HU.out HB)).mono ?_
 rintro e wx3 ⟨v, rfl, hI, hb⟩
 obtain ⟨A3a, c3a, A3b, c3b, A3c, c3c, A3d, c3d, rfl, -⟩ := hI.form
 go_upto_region 6 with fail
 refine Zp (P := fun W => Code.wp _ _ _ _ W) fun wy3 hq ha => ?_
 obtain ⟨q3, hq0⟩ : ∃ q, q = wx3.heap.size := ⟨_, rfl⟩
 rw [<- hq0] at hq ⊢
 have hn := GV.mk (Yl.mk hq) ((hI.in_.at_).below ha)
 have hbx := hb.trans (ha.mono hb.size)
 have RS := ZC.ins (w0 := wx2) [] [.slice A3a (Za N.natAbs).length c3a, .slice A3b (Za D.natAbs).length c3b, .slice A3c (Za M.natAbs).length c3c, .slice A3d (Za E.natAbs).length c3d] [] (RS.below hbx) RS HB.size ((hI.below ha).free (Nat.le_trans HZ1.out.1 (by decide)) (Nat.le_trans HZ1.out.2.1 (by decide)) (Nat.le_trans HZ1.out.2.2.1 (by decide)) (Nat.le_trans HZ1.out.2.2.2 (by decide)))
 have F := Hd (((F.out.below hbx).add hn (fun _ _ => GV.below)).add (show ZC _ w.heap.size [.slice A3a (Za N.natAbs).length c3a, .slice A3b (Za D.natAbs).length c3b, .slice A3c (Za M.natAbs).length c3c, .slice A3d (Za E.natAbs).length c3d] from RS) (fun _ _ => ZC.below))
 clear HB RS
 clear hI hb hn ha hbx hq hq0
 obtain ⟨RS, -, -, -, -, -, HB⟩ := F.out.h
 go_wp2_with fail
 refine (HP1.out wy3 (Utf8Tabs_below HU.out HB)).mono ?_
 rintro e wx4 ⟨v, rfl, hI, hb⟩
 obtain ⟨A4a, c4a, A4b, c4b, A4c, c4c, A4d, c4d, rfl, -⟩ := hI.form
 go_upto_region 7 with fail
 refine Zp (P := fun W => Code.wp _ _ _ _ W) fun wy4 hq ha => ?_
 obtain ⟨q4, hq0⟩ : ∃ q, q = wx4.heap.size := ⟨_, rfl⟩
 rw [<- hq0] at hq ⊢
 have hn := GV.mk (Yl.mk hq) ((hI.in_.at_).below ha)
 have hbx := hb.trans (ha.mono hb.size)
 have RS := ZC.ins (w0 := wy3) [.slice A3a (Za N.natAbs).length c3a, .slice A3b (Za D.natAbs).length c3b, .slice A3c (Za M.natAbs).length c3c, .slice A3d (Za E.natAbs).length c3d] [.slice A4a (Za N.natAbs).length c4a, .slice A4b (Za D.natAbs).length c4b, .slice A4c (Za M.natAbs).length c4c, .slice A4d (Za E.natAbs).length c4d] [] (RS.below hbx) RS HB.size ((hI.below ha).free (Nat.le_trans HZ1.out.1 (by decide)) (Nat.le_trans HZ1.out.2.1 (by decide)) (Nat.le_trans HZ1.out.2.2.1 (by decide)) (Nat.le_trans HZ1.out.2.2.2 (by decide)))
 have F := Hd (((F.out.below hbx).add hn (fun _ _ => GV.below)).add (show ZC _ w.heap.size [.slice A3a (Za N.natAbs).length c3a, .slice A3b (Za D.natAbs).length c3b, .slice A3c (Za M.natAbs).length c3c, .slice A3d (Za E.natAbs).length c3d, .slice A4a (Za N.natAbs).length c4a, .slice A4b (Za D.natAbs).length c4b, .slice A4c (Za M.natAbs).length c4c, .slice A4d (Za E.natAbs).length c4d] from RS) (fun _ _ => ZC.below))
 clear HB RS
 clear hI hb hn ha hbx hq hq0
 obtain ⟨-, -, -, -, -, -, V_x, -, HB⟩ := F.out.h
 obtain ⟨l_x, a_x, b_x, c_x, d_x, e_x, f_x, g_x, h_x⟩ := V_x.oct.facts
 go_wp2_with fail
 refine (HE1.out wy4 _ V_x.at_ (HT.out.below2 HB)).mono ?_
 rintro e wx5 ⟨rfl, hb⟩
 have F := Hd (F.out.below hb)
 clear l_x a_x b_x c_x d_x e_x f_x g_x h_x HB V_x
 clear hb
 obtain ⟨-, -, -, -, -, -, -, -, HB⟩ := F.out.h
 go_wp2_with fail
 refine (HQ1.out wx5 (HT.out.below2 HB)).mono ?_
 rintro e wx6 ⟨v, rfl, hI, hb⟩
 obtain ⟨A6a, c6a, A6b, c6b, A6c, c6c, A6d, c6d, rfl, -⟩ := hI.form
 go_upto_region 9 with fail
 refine Zp (P := fun W => Code.wp _ _ _ _ W) fun wy6 hq ha => ?_
 obtain ⟨q6, hq0⟩ : ∃ q, q = wx6.heap.size := ⟨_, rfl⟩
 rw [<- hq0] at hq ⊢
 have hn := GV.mk (Yl.mk hq) ((hI.at_).below ha)
 have hbx := hb.trans (ha.mono hb.size)
 have F := Hd ((F.out.below hbx).add hn (fun _ _ => GV.below))
 clear HB
 clear hI hb hn ha hbx hq hq0
 clear HD1 HE1 HP1 HQ1
 obtain ⟨V_wa, -, -, -, V_a, -⟩ := F.out.h
 obtain ⟨l_a, a_a, b_a, c_a, d_a, e_a, f_a, g_a, h_a⟩ := V_a.oct.facts
 obtain ⟨l_wa, a_wa, b_wa, c_wa, d_wa, e_wa, f_wa, g_wa, h_wa⟩ := V_wa.oct.facts
 go_wp2_with fail
 refine (sameGauss_true wy6 _ _ V_a.at_ V_wa.at_).mono ?_
 rintro e wx7 ⟨rfl, hb⟩
 have F := Hd (F.out.below hb)
 clear l_a a_a b_a c_a d_a e_a f_a g_a h_a l_wa a_wa b_wa c_wa d_wa e_wa f_wa g_wa h_wa V_a V_wa
 clear hb
 obtain ⟨V_wa, -, V_c, -⟩ := F.out.h
 obtain ⟨l_c, a_c, b_c, c_c, d_c, e_c, f_c, g_c, h_c⟩ := V_c.oct.facts
 obtain ⟨l_wa, a_wa, b_wa, c_wa, d_wa, e_wa, f_wa, g_wa, h_wa⟩ := V_wa.oct.facts
 go_wp2_with fail
 refine (sameGauss_true wx7 _ _ V_c.at_ V_wa.at_).mono ?_
 rintro e wx8 ⟨rfl, hb⟩
 have F := Hd (F.out.below hb)
 clear l_c a_c b_c c_c d_c e_c f_c g_c h_c l_wa a_wa b_wa c_wa d_wa e_wa f_wa g_wa h_wa V_c V_wa
 clear hb
 obtain ⟨-, -, -, -, -, TP, V_p, V_x, -⟩ := F.out.h
 obtain ⟨l_p, a_p, b_p, c_p, d_p, e_p, f_p, g_p, h_p⟩ := V_p.oct.facts
 obtain ⟨l_x, a_x, b_x, c_x, d_x, e_x, f_x, g_x, h_x⟩ := V_x.oct.facts
 go_wp2_with fail
 refine (left_gauss_t TP V_x.at_ HL.out).mono ?_
 rintro e wx9 ⟨rfl, hb⟩
 have F := Hd (F.out.below hb)
 clear l_p a_p b_p c_p d_p e_p f_p g_p h_p l_x a_x b_x c_x d_x e_x f_x g_x h_x TP V_p V_x
 clear hb
 go_upto_region 12 with fail
 obtain ⟨v0, E⟩ : ∃ W, W = wx9.alloc (.cells #[.int .i64 0, .slice none 0 0, .slice none 0 0, .slice none 0 0, .slice none 0 0, .slice none 0 0, .slice none 0 0, .slice none 0 0, .slice none 0 0, .slice none 0 0, .slice none 0 0, .slice none 0 0, .slice none 0 0, .slice none 0 0, .slice none 0 0, .slice none 0 0, .slice none 0 0] 55) := ⟨_, rfl⟩
 have hk0 : JC v0 wx9.heap.size 0 (fun _ => ZG) ZG := by rw [E]; exact JC.new wx9 _
 have HY := Hd (show Below wx9.heap.size wx9 v0 from by rw [E]; exact (Below.refl _ _).alloc (Nat.le_refl _) _)
 rw [<- E]
 obtain ⟨bk, hbb⟩ : ∃ b, b = wx9.heap.size := ⟨_, rfl⟩
 rw [<- hbb] at hk0 ⊢
 have HBB := Hd hbb
 have K := Hd (show Kept v0 bk [] from ⟨ZG, hk0.cong (fun j hj => by omega)⟩)
 clear E hk0 hbb
 have FB := F
 clear F
 obtain ⟨-, -, -, -, V_a, -⟩ := (FB.out.below HY.out).h
 obtain ⟨l_a, a_a, b_a, c_a, d_a, e_a, f_a, g_a, h_a⟩ := V_a.oct.facts
 go_wp2_with fail
 refine (keep_gauss bk [] (decide (N < 0)) (decide (D < 0)) (decide (M < 0)) (decide (E < 0)) A3a A3b A3c A3d (Za N.natAbs).length c3a (Za D.natAbs).length c3b (Za M.natAbs).length c3c (Za E.natAbs).length c3d (by simp) _ K.out).mono ?_
 rintro e vz1 ⟨rfl, hk, hb, -⟩
 have K := Hd (show Kept vz1 bk [.slice A3a (Za N.natAbs).length c3a, .slice A3b (Za D.natAbs).length c3b, .slice A3c (Za M.natAbs).length c3c, .slice A3d (Za E.natAbs).length c3d] from hk)
 have HY := Hd (HY.out.trans (HBB.out ▸ hb))
 clear l_a a_a b_a c_a d_a e_a f_a g_a h_a V_a
 clear hk hb
 obtain ⟨-, -, V_c, -⟩ := (FB.out.below HY.out).h
 obtain ⟨l_c, a_c, b_c, c_c, d_c, e_c, f_c, g_c, h_c⟩ := V_c.oct.facts
 go_wp2_with fail
 refine (keep_gauss bk [.slice A3a (Za N.natAbs).length c3a, .slice A3b (Za D.natAbs).length c3b, .slice A3c (Za M.natAbs).length c3c, .slice A3d (Za E.natAbs).length c3d] (decide (N < 0)) (decide (D < 0)) (decide (M < 0)) (decide (E < 0)) A4a A4b A4c A4d (Za N.natAbs).length c4a (Za D.natAbs).length c4b (Za M.natAbs).length c4c (Za E.natAbs).length c4d (by simp) _ K.out).mono ?_
 rintro e vz2 ⟨rfl, hk, hb, -⟩
 have K := Hd (show Kept vz2 bk [.slice A3a (Za N.natAbs).length c3a, .slice A3b (Za D.natAbs).length c3b, .slice A3c (Za M.natAbs).length c3c, .slice A3d (Za E.natAbs).length c3d, .slice A4a (Za N.natAbs).length c4a, .slice A4b (Za D.natAbs).length c4b, .slice A4c (Za M.natAbs).length c4c, .slice A4d (Za E.natAbs).length c4d] from hk)
 have HY := Hd (HY.out.trans (HBB.out ▸ hb))
 clear l_c a_c b_c c_c d_c e_c f_c g_c h_c V_c
 clear hk hb
 obtain ⟨-, RS, -, -, -, -, -, -, -, HB⟩ := (FB.out.below HY.out).h
 have hbs : w.heap.size <= bk := by rw [HBB.out]; obtain ⟨-, -, -, -, -, -, -, -, -, hz⟩ := FB.out.h; exact hz.size
 go_wp2_with fail
 refine (kept_apart bk w.heap.size [.slice A3a (Za N.natAbs).length c3a, .slice A3b (Za D.natAbs).length c3b, .slice A3c (Za M.natAbs).length c3c, .slice A3d (Za E.natAbs).length c3d, .slice A4a (Za N.natAbs).length c4a, .slice A4b (Za D.natAbs).length c4b, .slice A4c (Za M.natAbs).length c4c, .slice A4d (Za E.natAbs).length c4d] w vz2 (by simp) (by simp) K.out RS hbs HB).mono ?_
 rintro e vy ⟨rfl, hb⟩
 have HE := Hd hb
 clear RS HB hbs hb
 go_wp2_with fail
 refine (alive_true vy (HT.out.below2 HE.out)).mono ?_
 rintro e vx ⟨rfl, hb⟩
 have HE := Hd (Zb HE.out hb)
 clear hb
 go_wp2_with fail
 go_ret
 exact ⟨rfl, HE.out⟩
end Go.Proofs.YtdonecnhdkjniaaGreatDoor
