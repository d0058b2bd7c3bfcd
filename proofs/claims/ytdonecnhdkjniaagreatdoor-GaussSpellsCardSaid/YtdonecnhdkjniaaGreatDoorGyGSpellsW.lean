/- Several texts in one: GSpellsW. -/
import Derived.Test.YtdonecnhdkjniaaGreatDoorGyReckW
import Derived.Test.YtdonecnhdkjniaaGreatDoorGy37
set_option maxRecDepth 100000
set_option maxHeartbeats 8000000
namespace Go.Proofs.YtdonecnhdkjniaaGreatDoor
open Go.RowKit

theorem gspells_ap {n1 n2 n3 n4 : Bool} {xs ys us vs : List Nat} {N D M E K k : Int} {s1 : Nat} {t : ByteArray} (s : ByteArray) (C1 : ∀ (V : World) (v : Value), ZC V v n1 n2 n3 n4 xs ys us vs -> Calls Tryz.prog 6 #[v] V fun e w' => e = .returned (.int .i64 s1) /\ Below V.heap.size V w') (hs1 : s1 <= 9000000000000000000)
  (C2 : ∀ (V : World) (v : Value), ZC V v n1 n2 n3 n4 xs ys us vs -> ZB V -> Calls Tryz.prog 8 #[v] V fun e w' => e = .returned (.tuple #[.string t, .int .i64 k]) /\ Below V.heap.size V w') (hk : (k == 0) = false)
  (C4 : ∀ V : World, Lib.Utf8Tabs 2 3 V -> Calls Tryz.prog 9 #[.string s] V (Yv V N D M E K)) (hK : (K == 0) = false) (w : World) (v_x : Value) (g_x : ZC w v_x n1 n2 n3 n4 xs ys us vs) (htab : ZB w) (hu : Lib.Utf8Tabs 2 3 w) (hz : s.size <= 4611686018427387903) :
  Calls Tryz.prog 4 #[v_x, .string s] w fun e w' => e = .returned (.bool true) /\ Below w.heap.size w w' := by
 obtain ⟨Ax1, cx1, Ax2, cx2, Ax3, cx3, Ax4, cx4, rfl, -⟩ := g_x.form
 obtain ⟨b, hb⟩ : ∃ b : Bool, b = decide (1048576 < [s1, s.size].sum) := ⟨_, rfl⟩
 have H0 := Hd (fun (u : Value) (V : World) (h : Xd [s1, s.size] u V) => beyond_of3 [s1, s.size] b (by simp) (by simp; omega) hb u V h)
 have H1 := Hd C1
 have H2 := Hd C2
 have H4 := Hd C4
 have HT := Hd htab
 have HU := Hd hu
 have G_x := Hd g_x
 clear hb htab hu g_x hz hs1 C1 C2 C4
 go_enter Tryz.func4, Tryz.ntmps4
 go_upto_region 1 with fail
 refine Zy (P := fun W => Code.wp _ _ _ _ W) fun W p0 b0 => ?_
 have F := Hd ((Kp.base b0).add (GRV.mk (ZX.mk p0) (G_x.out.below b0)) (fun _ _ => GRV.below))
 clear b0 p0 G_x
 obtain ⟨V_x, -⟩ := F.out.h
 obtain ⟨l_x, a_x, b_x, c_x, d_x, e_x, f_x, g_x, h_x⟩ := V_x.oct.facts
 go_wp2_with fail
 refine (H1.out W _ V_x.at_).mono ?_
 rintro e wx1 ⟨rfl, hb⟩
 have F := Hd (F.out.below hb)
 clear l_x a_x b_x c_x d_x e_x f_x g_x h_x V_x
 clear hb
 go_wp2_with fail
 refine (H0.out _ _ (Xd.new [s1, s.size] 3 wx1 _ rfl)).mono ?_
 rintro e wz ⟨rfl, hb⟩
 have hb := ((Below.refl wx1.heap.size wx1).alloc (Nat.le_refl _) (.cells #[.int .i64 (s1 : Int), .int .i64 (s.size : Int)] 3)).trans (hb.mono (by simp))
 have F := Hd (F.out.below hb)
 clear hb
 clear H1 H0
 cases b
 case true =>
  obtain ⟨-, HB⟩ := F.out.h
  go_wp2_with fail
  go_ret
  exact ⟨rfl, HB⟩
 obtain ⟨V_x, HB⟩ := F.out.h
 obtain ⟨l_x, a_x, b_x, c_x, d_x, e_x, f_x, g_x, h_x⟩ := V_x.oct.facts
 go_wp2_with fail
 refine (H2.out wz _ V_x.at_ (HT.out.below2 HB)).mono ?_
 rintro e wx2 ⟨rfl, hb⟩
 have F := Hd (F.out.below hb)
 clear l_x a_x b_x c_x d_x e_x f_x g_x h_x HB V_x
 clear hb
 obtain ⟨-, HB⟩ := F.out.h
 go_wp2_with fail
 refine (H4.out wx2 (Utf8Tabs_below HU.out HB)).mono ?_
 rintro e wx3 ⟨v, rfl, hI, hb⟩
 obtain ⟨A3a, c3a, A3b, c3b, A3c, c3c, A3d, c3d, rfl, -⟩ := hI.form
 have hn := GV.new 28 (hI.at_)
 have ha := (Below.refl wx3.heap.size wx3).alloc (Nat.le_refl _) (.cells #[.bool (decide (N < 0)), .slice A3a (Za N.natAbs).length c3a, .bool (decide (D < 0)), .slice A3b (Za D.natAbs).length c3b, .bool (decide (M < 0)), .slice A3c (Za M.natAbs).length c3c, .bool (decide (E < 0)), .slice A3d (Za E.natAbs).length c3d] 28)
 have F := Hd (((F.out.below hb).below ha).add hn (fun _ _ => GV.below))
 clear HB
 clear hI hb hn ha
 go_upto_region 9 with fail
 obtain ⟨wy3, E⟩ : ∃ W, W = wx3.alloc (.cells #[.bool (decide (N < 0)), .slice A3a (Za N.natAbs).length c3a, .bool (decide (D < 0)), .slice A3b (Za D.natAbs).length c3b, .bool (decide (M < 0)), .slice A3c (Za M.natAbs).length c3c, .bool (decide (E < 0)), .slice A3d (Za E.natAbs).length c3d] 28) := ⟨_, rfl⟩
 obtain ⟨q3, hq⟩ : ∃ q, q = wx3.heap.size := ⟨_, rfl⟩
 rw [<- E, <- hq] at F ⊢
 clear E hq
 obtain ⟨-, -, HB⟩ := F.out.h
 go_wp2_with fail
 refine (alive_true wy3 (HT.out.below2 HB)).mono ?_
 rintro e wz ⟨rfl, hb⟩
 have HE := Hd (Zb HB hb)
 clear hb HB
 go_wp2_with fail
 go_ret
 exact ⟨rfl, HE.out⟩

theorem gspells_aq {n1 n2 n3 n4 : Bool} {xs ys us vs : List Nat} {N D M E k : Int} {s1 : Nat} {t : ByteArray} (s : ByteArray) (C1 : ∀ (V : World) (v : Value), ZC V v n1 n2 n3 n4 xs ys us vs -> Calls Tryz.prog 6 #[v] V fun e w' => e = .returned (.int .i64 s1) /\ Below V.heap.size V w') (hs1 : s1 <= 9000000000000000000)
  (C2 : ∀ (V : World) (v : Value), ZC V v n1 n2 n3 n4 xs ys us vs -> ZB V -> Calls Tryz.prog 8 #[v] V fun e w' => e = .returned (.tuple #[.string t, .int .i64 k]) /\ Below V.heap.size V w') (hk : (k == 0) = false)
  (C4 : ∀ V : World, Lib.Utf8Tabs 2 3 V -> Calls Tryz.prog 9 #[.string s] V (Yv V N D M E 0))
  (C5 : ∀ (V : World) (v : Value), ZB V -> Zi V v N D M E -> Calls Tryz.prog 8 #[v] V fun e w' => e = .returned (.tuple #[.string s, .int .i64 0]) /\ Below V.heap.size V w') (C6 : ∀ (V : World) (v : Value), Zi V v N D M E -> Calls Tryz.prog 17 #[v] V fun e w' => e = .returned (.int .i64 0) /\ Below V.heap.size V w') (w : World) (v_x : Value) (g_x : ZC w v_x n1 n2 n3 n4 xs ys us vs) (htab : ZB w) (hu : Lib.Utf8Tabs 2 3 w) (hz : s.size <= 4611686018427387903) :
  Calls Tryz.prog 4 #[v_x, .string s] w fun e w' => e = .returned (.bool true) /\ Below w.heap.size w w' := by
 obtain ⟨Ax1, cx1, Ax2, cx2, Ax3, cx3, Ax4, cx4, rfl, -⟩ := g_x.form
 obtain ⟨b, hb⟩ : ∃ b : Bool, b = decide (1048576 < [s1, s.size].sum) := ⟨_, rfl⟩
 have H0 := Hd (fun (u : Value) (V : World) (h : Xd [s1, s.size] u V) => beyond_of3 [s1, s.size] b (by simp) (by simp; omega) hb u V h)
 have H1 := Hd C1
 have H2 := Hd C2
 have H4 := Hd C4
 have H5 := Hd C5
 have H6 := Hd C6
 have HT := Hd htab
 have HU := Hd hu
 have G_x := Hd g_x
 clear hb htab hu g_x hz hs1 C1 C2 C4 C5 C6
 go_enter Tryz.func4, Tryz.ntmps4
 go_upto_region 1 with fail
 refine Zy (P := fun W => Code.wp _ _ _ _ W) fun W p0 b0 => ?_
 have F := Hd ((Kp.base b0).add (GRV.mk (ZX.mk p0) (G_x.out.below b0)) (fun _ _ => GRV.below))
 clear b0 p0 G_x
 obtain ⟨V_x, -⟩ := F.out.h
 obtain ⟨l_x, a_x, b_x, c_x, d_x, e_x, f_x, g_x, h_x⟩ := V_x.oct.facts
 go_wp2_with fail
 refine (H1.out W _ V_x.at_).mono ?_
 rintro e wx1 ⟨rfl, hb⟩
 have F := Hd (F.out.below hb)
 clear l_x a_x b_x c_x d_x e_x f_x g_x h_x V_x
 clear hb
 go_wp2_with fail
 refine (H0.out _ _ (Xd.new [s1, s.size] 3 wx1 _ rfl)).mono ?_
 rintro e wz ⟨rfl, hb⟩
 have hb := ((Below.refl wx1.heap.size wx1).alloc (Nat.le_refl _) (.cells #[.int .i64 (s1 : Int), .int .i64 (s.size : Int)] 3)).trans (hb.mono (by simp))
 have F := Hd (F.out.below hb)
 clear hb
 clear H1 H0
 cases b
 case true =>
  obtain ⟨-, HB⟩ := F.out.h
  go_wp2_with fail
  go_ret
  exact ⟨rfl, HB⟩
 obtain ⟨V_x, HB⟩ := F.out.h
 obtain ⟨l_x, a_x, b_x, c_x, d_x, e_x, f_x, g_x, h_x⟩ := V_x.oct.facts
 go_wp2_with fail
 refine (H2.out wz _ V_x.at_ (HT.out.below2 HB)).mono ?_
 rintro e wx2 ⟨rfl, hb⟩
 have F := Hd (F.out.below hb)
 clear l_x a_x b_x c_x d_x e_x f_x g_x h_x HB V_x
 clear hb
 obtain ⟨-, HB⟩ := F.out.h
 go_wp2_with fail
 refine (H4.out wx2 (Utf8Tabs_below HU.out HB)).mono ?_
 rintro e wx3 ⟨v, rfl, hI, hb⟩
 obtain ⟨A3a, c3a, A3b, c3b, A3c, c3c, A3d, c3d, rfl, -⟩ := hI.form
 have hn := GV.new 28 (hI.at_)
 have ha := (Below.refl wx3.heap.size wx3).alloc (Nat.le_refl _) (.cells #[.bool (decide (N < 0)), .slice A3a (Za N.natAbs).length c3a, .bool (decide (D < 0)), .slice A3b (Za D.natAbs).length c3b, .bool (decide (M < 0)), .slice A3c (Za M.natAbs).length c3c, .bool (decide (E < 0)), .slice A3d (Za E.natAbs).length c3d] 28)
 have F := Hd (((F.out.below hb).below ha).add hn (fun _ _ => GV.below))
 clear HB
 clear hI hb hn ha
 go_upto_region 9 with fail
 obtain ⟨wy3, E⟩ : ∃ W, W = wx3.alloc (.cells #[.bool (decide (N < 0)), .slice A3a (Za N.natAbs).length c3a, .bool (decide (D < 0)), .slice A3b (Za D.natAbs).length c3b, .bool (decide (M < 0)), .slice A3c (Za M.natAbs).length c3c, .bool (decide (E < 0)), .slice A3d (Za E.natAbs).length c3d] 28) := ⟨_, rfl⟩
 obtain ⟨q3, hq⟩ : ∃ q, q = wx3.heap.size := ⟨_, rfl⟩
 rw [<- E, <- hq] at F ⊢
 clear E hq
 obtain ⟨V_r, -, HB⟩ := F.out.h
 obtain ⟨l_r, a_r, b_r, c_r, d_r, e_r, f_r, g_r, h_r⟩ := V_r.oct.facts
 go_wp2_with fail
 refine (H5.out wy3 _ (HT.out.below2 HB) V_r.at_).mono ?_
 rintro e wx4 ⟨rfl, hb⟩
 have F := Hd (F.out.below hb)
 clear l_r a_r b_r c_r d_r e_r f_r g_r h_r HB V_r
 clear hb
 obtain ⟨V_r, -⟩ := F.out.h
 obtain ⟨l_r, a_r, b_r, c_r, d_r, e_r, f_r, g_r, h_r⟩ := V_r.oct.facts
 go_wp2_with fail
 refine (H6.out wx4 _ V_r.at_).mono ?_
 rintro e wx5 ⟨rfl, hb⟩
 have F := Hd (F.out.below hb)
 clear l_r a_r b_r c_r d_r e_r f_r g_r h_r V_r
 clear hb
 obtain ⟨-, -, HB⟩ := F.out.h
 go_wp2_with fail
 refine (alive_true wx5 (HT.out.below2 HB)).mono ?_
 rintro e wz ⟨rfl, hb⟩
 have HE := Hd (Zb HB hb)
 clear hb HB
 go_wp2_with fail
 go_ret
 exact ⟨rfl, HE.out⟩

theorem gspells_bp {n d m f : Int} {N D M E K : Int} {s1 : Nat} {t : ByteArray} (s : ByteArray) (C1 : ∀ (V : World) (v : Value), Zi V v n d m f -> Calls Tryz.prog 6 #[v] V fun e w' => e = .returned (.int .i64 s1) /\ Below V.heap.size V w') (hs1 : s1 <= 9000000000000000000)
  (C2 : ∀ (V : World) (v : Value), Zi V v n d m f -> ZB V -> Calls Tryz.prog 8 #[v] V fun e w' => e = .returned (.tuple #[.string t, .int .i64 0]) /\ Below V.heap.size V w') (C3 : ∀ V : World, Lib.Utf8Tabs 2 3 V -> Calls Tryz.prog 9 #[.string t] V (Yv V n d m f 0))
  (C4 : ∀ V : World, Lib.Utf8Tabs 2 3 V -> Calls Tryz.prog 9 #[.string s] V (Yv V N D M E K)) (hK : (K == 0) = false) (w : World) (v_x : Value) (g_x : Zi w v_x n d m f) (htab : ZB w) (hu : Lib.Utf8Tabs 2 3 w) (hz : s.size <= 4611686018427387903) :
  Calls Tryz.prog 4 #[v_x, .string s] w fun e w' => e = .returned (.bool true) /\ Below w.heap.size w w' := by
 obtain ⟨Ax1, cx1, Ax2, cx2, Ax3, cx3, Ax4, cx4, rfl, -⟩ := g_x.form
 obtain ⟨b, hb⟩ : ∃ b : Bool, b = decide (1048576 < [s1, s.size].sum) := ⟨_, rfl⟩
 have H0 := Hd (fun (u : Value) (V : World) (h : Xd [s1, s.size] u V) => beyond_of3 [s1, s.size] b (by simp) (by simp; omega) hb u V h)
 have H1 := Hd C1
 have H2 := Hd C2
 have H3 := Hd C3
 have H4 := Hd C4
 have HT := Hd htab
 have HU := Hd hu
 have G_x := Hd g_x
 clear hb htab hu g_x hz hs1 C1 C2 C3 C4
 go_enter Tryz.func4, Tryz.ntmps4
 go_upto_region 1 with fail
 refine Zy (P := fun W => Code.wp _ _ _ _ W) fun W p0 b0 => ?_
 have F := Hd ((Kp.base b0).add (GV.mk (ZX.mk p0) (G_x.out.below b0)) (fun _ _ => GV.below))
 clear b0 p0 G_x
 obtain ⟨V_x, -⟩ := F.out.h
 obtain ⟨l_x, a_x, b_x, c_x, d_x, e_x, f_x, g_x, h_x⟩ := V_x.oct.facts
 go_wp2_with fail
 refine (H1.out W _ V_x.at_).mono ?_
 rintro e wx1 ⟨rfl, hb⟩
 have F := Hd (F.out.below hb)
 clear l_x a_x b_x c_x d_x e_x f_x g_x h_x V_x
 clear hb
 go_wp2_with fail
 refine (H0.out _ _ (Xd.new [s1, s.size] 3 wx1 _ rfl)).mono ?_
 rintro e wz ⟨rfl, hb⟩
 have hb := ((Below.refl wx1.heap.size wx1).alloc (Nat.le_refl _) (.cells #[.int .i64 (s1 : Int), .int .i64 (s.size : Int)] 3)).trans (hb.mono (by simp))
 have F := Hd (F.out.below hb)
 clear hb
 clear H1 H0
 cases b
 case true =>
  obtain ⟨-, HB⟩ := F.out.h
  go_wp2_with fail
  go_ret
  exact ⟨rfl, HB⟩
 obtain ⟨V_x, HB⟩ := F.out.h
 obtain ⟨l_x, a_x, b_x, c_x, d_x, e_x, f_x, g_x, h_x⟩ := V_x.oct.facts
 go_wp2_with fail
 refine (H2.out wz _ V_x.at_ (HT.out.below2 HB)).mono ?_
 rintro e wx2 ⟨rfl, hb⟩
 have F := Hd (F.out.below hb)
 clear l_x a_x b_x c_x d_x e_x f_x g_x h_x HB V_x
 clear hb
 obtain ⟨-, HB⟩ := F.out.h
 go_wp2_with fail
 refine (H3.out wx2 (Utf8Tabs_below HU.out HB)).mono ?_
 rintro e wx3 ⟨v, rfl, hI, hb⟩
 obtain ⟨A3a, c3a, A3b, c3b, A3c, c3c, A3d, c3d, rfl, -⟩ := hI.form
 have hn := GV.new 28 (hI.at_)
 have ha := (Below.refl wx3.heap.size wx3).alloc (Nat.le_refl _) (.cells #[.bool (decide (n < 0)), .slice A3a (Za n.natAbs).length c3a, .bool (decide (d < 0)), .slice A3b (Za d.natAbs).length c3b, .bool (decide (m < 0)), .slice A3c (Za m.natAbs).length c3c, .bool (decide (f < 0)), .slice A3d (Za f.natAbs).length c3d] 28)
 have F := Hd (((F.out.below hb).below ha).add hn (fun _ _ => GV.below))
 clear HB
 clear hI hb hn ha
 go_upto_region 6 with fail
 obtain ⟨wy3, E⟩ : ∃ W, W = wx3.alloc (.cells #[.bool (decide (n < 0)), .slice A3a (Za n.natAbs).length c3a, .bool (decide (d < 0)), .slice A3b (Za d.natAbs).length c3b, .bool (decide (m < 0)), .slice A3c (Za m.natAbs).length c3c, .bool (decide (f < 0)), .slice A3d (Za f.natAbs).length c3d] 28) := ⟨_, rfl⟩
 obtain ⟨q3, hq⟩ : ∃ q, q = wx3.heap.size := ⟨_, rfl⟩
 rw [<- E, <- hq] at F ⊢
 clear E hq
 obtain ⟨V_q, V_x, -⟩ := F.out.h
 obtain ⟨l_q, a_q, b_q, c_q, d_q, e_q, f_q, g_q, h_q⟩ := V_q.oct.facts
 obtain ⟨l_x, a_x, b_x, c_x, d_x, e_x, f_x, g_x, h_x⟩ := V_x.oct.facts
 go_wp2_with fail
 refine (sameGauss_true wy3 _ _ V_q.at_ V_x.at_).mono ?_
 rintro e wx4 ⟨rfl, hb⟩
 have F := Hd (F.out.below hb)
 clear l_q a_q b_q c_q d_q e_q f_q g_q h_q l_x a_x b_x c_x d_x e_x f_x g_x h_x V_q V_x
 clear hb
 obtain ⟨-, -, HB⟩ := F.out.h
 go_wp2_with fail
 refine (H4.out wx4 (Utf8Tabs_below HU.out HB)).mono ?_
 rintro e wx5 ⟨v, rfl, hI, hb⟩
 obtain ⟨A5a, c5a, A5b, c5b, A5c, c5c, A5d, c5d, rfl, -⟩ := hI.form
 have hn := GV.new 28 (hI.at_)
 have ha := (Below.refl wx5.heap.size wx5).alloc (Nat.le_refl _) (.cells #[.bool (decide (N < 0)), .slice A5a (Za N.natAbs).length c5a, .bool (decide (D < 0)), .slice A5b (Za D.natAbs).length c5b, .bool (decide (M < 0)), .slice A5c (Za M.natAbs).length c5c, .bool (decide (E < 0)), .slice A5d (Za E.natAbs).length c5d] 28)
 have F := Hd (((F.out.below hb).below ha).add hn (fun _ _ => GV.below))
 clear HB
 clear hI hb hn ha
 go_upto_region 9 with fail
 obtain ⟨wy5, E⟩ : ∃ W, W = wx5.alloc (.cells #[.bool (decide (N < 0)), .slice A5a (Za N.natAbs).length c5a, .bool (decide (D < 0)), .slice A5b (Za D.natAbs).length c5b, .bool (decide (M < 0)), .slice A5c (Za M.natAbs).length c5c, .bool (decide (E < 0)), .slice A5d (Za E.natAbs).length c5d] 28) := ⟨_, rfl⟩
 obtain ⟨q5, hq⟩ : ∃ q, q = wx5.heap.size := ⟨_, rfl⟩
 rw [<- E, <- hq] at F ⊢
 clear E hq
 obtain ⟨-, -, -, HB⟩ := F.out.h
 go_wp2_with fail
 refine (alive_true wy5 (HT.out.below2 HB)).mono ?_
 rintro e wz ⟨rfl, hb⟩
 have HE := Hd (Zb HB hb)
 clear hb HB
 go_wp2_with fail
 go_ret
 exact ⟨rfl, HE.out⟩

theorem gspells_bq {n d m f : Int} {N D M E : Int} {s1 : Nat} {t : ByteArray} (s : ByteArray) (C1 : ∀ (V : World) (v : Value), Zi V v n d m f -> Calls Tryz.prog 6 #[v] V fun e w' => e = .returned (.int .i64 s1) /\ Below V.heap.size V w') (hs1 : s1 <= 9000000000000000000)
  (C2 : ∀ (V : World) (v : Value), Zi V v n d m f -> ZB V -> Calls Tryz.prog 8 #[v] V fun e w' => e = .returned (.tuple #[.string t, .int .i64 0]) /\ Below V.heap.size V w') (C3 : ∀ V : World, Lib.Utf8Tabs 2 3 V -> Calls Tryz.prog 9 #[.string t] V (Yv V n d m f 0))
  (C4 : ∀ V : World, Lib.Utf8Tabs 2 3 V -> Calls Tryz.prog 9 #[.string s] V (Yv V N D M E 0))
  (C5 : ∀ (V : World) (v : Value), ZB V -> Zi V v N D M E -> Calls Tryz.prog 8 #[v] V fun e w' => e = .returned (.tuple #[.string s, .int .i64 0]) /\ Below V.heap.size V w') (C6 : ∀ (V : World) (v : Value), Zi V v N D M E -> Calls Tryz.prog 17 #[v] V fun e w' => e = .returned (.int .i64 0) /\ Below V.heap.size V w') (w : World) (v_x : Value) (g_x : Zi w v_x n d m f) (htab : ZB w) (hu : Lib.Utf8Tabs 2 3 w) (hz : s.size <= 4611686018427387903) :
  Calls Tryz.prog 4 #[v_x, .string s] w fun e w' => e = .returned (.bool true) /\ Below w.heap.size w w' := by
 obtain ⟨Ax1, cx1, Ax2, cx2, Ax3, cx3, Ax4, cx4, rfl, -⟩ := g_x.form
 obtain ⟨b, hb⟩ : ∃ b : Bool, b = decide (1048576 < [s1, s.size].sum) := ⟨_, rfl⟩
 have H0 := Hd (fun (u : Value) (V : World) (h : Xd [s1, s.size] u V) => beyond_of3 [s1, s.size] b (by simp) (by simp; omega) hb u V h)
 have H1 := Hd C1
 have H2 := Hd C2
 have H3 := Hd C3
 have H4 := Hd C4
 have H5 := Hd C5
 have H6 := Hd C6
 have HT := Hd htab
 have HU := Hd hu
 have G_x := Hd g_x
 clear hb htab hu g_x hz hs1 C1 C2 C3 C4 C5 C6
 go_enter Tryz.func4, Tryz.ntmps4
 go_upto_region 1 with fail
 refine Zy (P := fun W => Code.wp _ _ _ _ W) fun W p0 b0 => ?_
 have F := Hd ((Kp.base b0).add (GV.mk (ZX.mk p0) (G_x.out.below b0)) (fun _ _ => GV.below))
 clear b0 p0 G_x
 obtain ⟨V_x, -⟩ := F.out.h
 obtain ⟨l_x, a_x, b_x, c_x, d_x, e_x, f_x, g_x, h_x⟩ := V_x.oct.facts
 go_wp2_with fail
 refine (H1.out W _ V_x.at_).mono ?_
 rintro e wx1 ⟨rfl, hb⟩
 have F := Hd (F.out.below hb)
 clear l_x a_x b_x c_x d_x e_x f_x g_x h_x V_x
 clear hb
 go_wp2_with fail
 refine (H0.out _ _ (Xd.new [s1, s.size] 3 wx1 _ rfl)).mono ?_
 rintro e wz ⟨rfl, hb⟩
 have hb := ((Below.refl wx1.heap.size wx1).alloc (Nat.le_refl _) (.cells #[.int .i64 (s1 : Int), .int .i64 (s.size : Int)] 3)).trans (hb.mono (by simp))
 have F := Hd (F.out.below hb)
 clear hb
 clear H1 H0
 cases b
 case true =>
  obtain ⟨-, HB⟩ := F.out.h
  go_wp2_with fail
  go_ret
  exact ⟨rfl, HB⟩
 obtain ⟨V_x, HB⟩ := F.out.h
 obtain ⟨l_x, a_x, b_x, c_x, d_x, e_x, f_x, g_x, h_x⟩ := V_x.oct.facts
 go_wp2_with fail
 refine (H2.out wz _ V_x.at_ (HT.out.below2 HB)).mono ?_
 rintro e wx2 ⟨rfl, hb⟩
 have F := Hd (F.out.below hb)
 clear l_x a_x b_x c_x d_x e_x f_x g_x h_x HB V_x
 clear hb
 obtain ⟨-, HB⟩ := F.out.h
 go_wp2_with fail
 refine (H3.out wx2 (Utf8Tabs_below HU.out HB)).mono ?_
 rintro e wx3 ⟨v, rfl, hI, hb⟩
 obtain ⟨A3a, c3a, A3b, c3b, A3c, c3c, A3d, c3d, rfl, -⟩ := hI.form
 have hn := GV.new 28 (hI.at_)
 have ha := (Below.refl wx3.heap.size wx3).alloc (Nat.le_refl _) (.cells #[.bool (decide (n < 0)), .slice A3a (Za n.natAbs).length c3a, .bool (decide (d < 0)), .slice A3b (Za d.natAbs).length c3b, .bool (decide (m < 0)), .slice A3c (Za m.natAbs).length c3c, .bool (decide (f < 0)), .slice A3d (Za f.natAbs).length c3d] 28)
 have F := Hd (((F.out.below hb).below ha).add hn (fun _ _ => GV.below))
 clear HB
 clear hI hb hn ha
 go_upto_region 6 with fail
 obtain ⟨wy3, E⟩ : ∃ W, W = wx3.alloc (.cells #[.bool (decide (n < 0)), .slice A3a (Za n.natAbs).length c3a, .bool (decide (d < 0)), .slice A3b (Za d.natAbs).length c3b, .bool (decide (m < 0)), .slice A3c (Za m.natAbs).length c3c, .bool (decide (f < 0)), .slice A3d (Za f.natAbs).length c3d] 28) := ⟨_, rfl⟩
 obtain ⟨q3, hq⟩ : ∃ q, q = wx3.heap.size := ⟨_, rfl⟩
 rw [<- E, <- hq] at F ⊢
 clear E hq
 obtain ⟨V_q, V_x, -⟩ := F.out.h
 obtain ⟨l_q, a_q, b_q, c_q, d_q, e_q, f_q, g_q, h_q⟩ := V_q.oct.facts
 obtain ⟨l_x, a_x, b_x, c_x, d_x, e_x, f_x, g_x, h_x⟩ := V_x.oct.facts
 go_wp2_with fail
 refine (sameGauss_true wy3 _ _ V_q.at_ V_x.at_).mono ?_
 rintro e wx4 ⟨rfl, hb⟩
 have F := Hd (F.out.below hb)
 clear l_q a_q b_q c_q d_q e_q f_q g_q h_q l_x a_x b_x c_x d_x e_x f_x g_x h_x V_q V_x
 clear hb
 obtain ⟨-, -, HB⟩ := F.out.h
 go_wp2_with fail
 refine (H4.out wx4 (Utf8Tabs_below HU.out HB)).mono ?_
 rintro e wx5 ⟨v, rfl, hI, hb⟩
 obtain ⟨A5a, c5a, A5b, c5b, A5c, c5c, A5d, c5d, rfl, -⟩ := hI.form
 have hn := GV.new 28 (hI.at_)
 have ha := (Below.refl wx5.heap.size wx5).alloc (Nat.le_refl _) (.cells #[.bool (decide (N < 0)), .slice A5a (Za N.natAbs).length c5a, .bool (decide (D < 0)), .slice A5b (Za D.natAbs).length c5b, .bool (decide (M < 0)), .slice A5c (Za M.natAbs).length c5c, .bool (decide (E < 0)), .slice A5d (Za E.natAbs).length c5d] 28)
 have F := Hd (((F.out.below hb).below ha).add hn (fun _ _ => GV.below))
 clear HB
 clear hI hb hn ha
 go_upto_region 9 with fail
 obtain ⟨wy5, E⟩ : ∃ W, W = wx5.alloc (.cells #[.bool (decide (N < 0)), .slice A5a (Za N.natAbs).length c5a, .bool (decide (D < 0)), .slice A5b (Za D.natAbs).length c5b, .bool (decide (M < 0)), .slice A5c (Za M.natAbs).length c5c, .bool (decide (E < 0)), .slice A5d (Za E.natAbs).length c5d] 28) := ⟨_, rfl⟩
 obtain ⟨q5, hq⟩ : ∃ q, q = wx5.heap.size := ⟨_, rfl⟩
 rw [<- E, <- hq] at F ⊢
 clear E hq
 obtain ⟨V_r, -, -, HB⟩ := F.out.h
 obtain ⟨l_r, a_r, b_r, c_r, d_r, e_r, f_r, g_r, h_r⟩ := V_r.oct.facts
 go_wp2_with fail
 refine (H5.out wy5 _ (HT.out.below2 HB) V_r.at_).mono ?_
 rintro e wx6 ⟨rfl, hb⟩
 have F := Hd (F.out.below hb)
 clear l_r a_r b_r c_r d_r e_r f_r g_r h_r HB V_r
 clear hb
 obtain ⟨V_r, -⟩ := F.out.h
 obtain ⟨l_r, a_r, b_r, c_r, d_r, e_r, f_r, g_r, h_r⟩ := V_r.oct.facts
 go_wp2_with fail
 refine (H6.out wx6 _ V_r.at_).mono ?_
 rintro e wx7 ⟨rfl, hb⟩
 have F := Hd (F.out.below hb)
 clear l_r a_r b_r c_r d_r e_r f_r g_r h_r V_r
 clear hb
 obtain ⟨-, -, -, HB⟩ := F.out.h
 go_wp2_with fail
 refine (alive_true wx7 (HT.out.below2 HB)).mono ?_
 rintro e wz ⟨rfl, hb⟩
 have HE := Hd (Zb HB hb)
 clear hb HB
 go_wp2_with fail
 go_ret
 exact ⟨rfl, HE.out⟩

theorem Zn.in_ {base : Nat} {w : World} {n d m f k : Int} {e : Ending} {w' : World} (h : Zn base w n d m f k e w') : Yv w n d m f k e w' := by
 obtain ⟨v, h1, h2, h3⟩ := h
 exact ⟨v, h1, h2.in_, h3⟩
theorem gspells_true {n1 n2 n3 n4 : Bool} {xs ys us vs : List Nat} (s : ByteArray) (w : World) (v_x : Value) (g_x : ZC w v_x n1 n2 n3 n4 xs ys us vs) (htab : ZB w) (hu : Lib.Utf8Tabs 2 3 w)
   (bx : (xs.length <= 1152921504606846975 /\ ys.length <= 1152921504606846975) /\ us.length <= 1152921504606846975 /\ vs.length <= 1152921504606846975) (hz : s.size <= 4611686018427387903) :
   Calls Tryz.prog 4 #[v_x, .string s] w fun e w' => e = .returned (.bool true) /\ Below w.heap.size w w' := by
 obtain ⟨Ax1, cx1, Ax2, cx2, Ax3, cx3, Ax4, cx4, e0, r1, r2, r3, r4⟩ := g_x.form
 have C1 := fun (V : World) (v : Value) (g : ZC V v n1 n2 n3 n4 xs ys us vs) => gauss_cost bx.1.1 bx.1.2 bx.2.1 bx.2.2 V v g
 have b1 := fcost_le bx.1.1 bx.1.2
 have b2 := fcost_le bx.2.1 bx.2.2
 obtain ⟨t, k, D1, hk⟩ := gtext_only n1 n2 n3 n4 xs ys us vs r1.limbs r2.limbs r3.limbs r4.limbs
 obtain ⟨N, D, M, E, K, P1, hK⟩ := parse_only s
 have C4 := fun (V : World) (hu : Lib.Utf8Tabs 2 3 V) => (P1 V hu).mono fun e w' h => h.in_
 have key : K = 0 -> (∀ (V : World) (v : Value), ZB V -> Zi V v N D M E -> Calls Tryz.prog 8 #[v] V fun e w' => e = .returned (.tuple #[.string s, .int .i64 0]) /\ Below V.heap.size V w') /\ ∀ (V : World) (v : Value), Zi V v N D M E -> Calls Tryz.prog 17 #[v] V fun e w' => e = .returned (.int .i64 0) /\ Below V.heap.size V w' := fun hK0 => by
   obtain ⟨f1, f2, es, hl⟩ := hK hK0
   refine ⟨fun V v ht g => ?_, fun V v g => gauss_Check_true (GIs.of f1 f2).may V v g.raw⟩
   have h9 := gtext_r f1 f2 V v ht g
   rw [<- es, (txt_good hl).1, (txt_good hl).2] at h9
   exact h9
 by_cases hk0 : k = 0
 . obtain ⟨n, d, m, f, f1, f2, rfl, rfl, rfl, rfl, rfl, rfl, rfl, rfl, et, hl⟩ := hk hk0
   subst hk0
   have hR : ∀ (V : World) (v : Value), Zi V v n d m f -> ZC V v (decide (n < 0)) (decide (d < 0)) (decide (m < 0)) (decide (f < 0)) (Za n.natAbs) (Za d.natAbs) (Za m.natAbs) (Za f.natAbs) := fun V v g => g.raw
   have g_y : Zi w v_x n d m f := ⟨g_x.form⟩
   have C3 := fun (V : World) (hu : Lib.Utf8Tabs 2 3 V) => (parse_back f1 f2 (by rw [<- et]; exact hl) V hu).mono fun e w' h => h.in_
   rw [<- et] at C3
   by_cases hK0 : K = 0
   . obtain ⟨C5, C6⟩ := key hK0
     subst hK0
     exact gspells_bq s (fun V v g => C1 V v (hR V v g)) (by omega) (fun V v g ht => D1 V v (hR V v g) ht) C3 C4 C5 C6 w v_x g_y htab hu hz
   . exact gspells_bp s (fun V v g => C1 V v (hR V v g)) (by omega) (fun V v g ht => D1 V v (hR V v g) ht) C3 C4 (beq_eq_false_iff_ne.2 hK0) w v_x g_y htab hu hz
 . by_cases hK0 : K = 0
   . obtain ⟨C5, C6⟩ := key hK0
     subst hK0
     exact gspells_aq s C1 (by omega) D1 (beq_eq_false_iff_ne.2 hk0) C4 C5 C6 w v_x g_x htab hu hz
   . exact gspells_ap s C1 (by omega) D1 (beq_eq_false_iff_ne.2 hk0) C4 (beq_eq_false_iff_ne.2 hK0) w v_x g_x htab hu hz
end Go.Proofs.YtdonecnhdkjniaaGreatDoor
