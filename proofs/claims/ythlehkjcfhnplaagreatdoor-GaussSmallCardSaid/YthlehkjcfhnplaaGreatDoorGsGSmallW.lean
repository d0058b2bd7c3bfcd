/- Several texts in one: GSmallW. -/
import Derived.Test.YthlehkjcfhnplaaGreatDoorGs35
import Derived.Test.YthlehkjcfhnplaaGreatDoorGsHd
import Derived.Test.YthlehkjcfhnplaaGreatDoorGs36
set_option maxRecDepth 100000
set_option maxHeartbeats 8000000
/- GaussSmall: the walk. (Written by wip/gauss/gengsmall.py.) -/
namespace Go.Proofs.YthlehkjcfhnplaaGreatDoor
open Go.RowKit

theorem gsmall_true (z0 z1 : Int) (h1 : -9223372036854775808 ≤ z0) (h2 : z0 ≤ 9223372036854775807) (h3 : -9223372036854775808 ≤ z1) (h4 : z1 ≤ 9223372036854775807) (w : World) (htab : powTab w) :
    Calls Tryz.prog 3 #[.int .i64 z0, .int .i64 z1] w fun e w' => e = .returned (.bool true) ∧ Below w.heap.size w w' := by
  have gi := gis_int z0 z1 h1 h2 h3 h4
  obtain ⟨o, ho⟩ : ∃ o : Int, o = 1 := ⟨_, rfl⟩
  have C1 := of_g o ho h1 h2 h3 h4
  have C2 := of_gi o ho h1 h2 h3 h4
  rw [← ho] at gi
  have C3 := fun (V : World) (v : Value) (g : GaussAt V v z0 o z1 o) => gauss_Check_true gi.may V v g.raw
  have HL := Hd (And.intro (Nat.le_trans gi.f1.num (by decide) : lz z0 ≤ 1073741824) (And.intro (Nat.le_trans gi.f1.den (by decide) : lz o ≤ 1073741824) (Nat.le_trans gi.f2.num (by decide) : lz z1 ≤ 1073741824)))
  have H1 := Hd C1
  have H2 := Hd C2
  have H3 := Hd C3
  have HT := Hd htab
  clear gi ho h1 h2 h3 h4 C1 C2 C3 htab
  go_enter Tryz.func3, Tryz.ntmps3
  have F := Hd ((Kp.base (Below.refl w.heap.size w)).add (RowsFree.nil w w.heap.size) (fun _ _ => RowsFree.below))
  obtain ⟨RS, HB⟩ := F.out.h
  go_wp2_with fail
  refine (H1.out w).mono ?_
  rintro e wx1 ⟨v, rfl, hI, hb⟩
  obtain ⟨A1a, c1a, A1b, c1b, A1c, c1c, A1d, c1d, rfl, -⟩ := hI.form
  have hn := GV.new 28 (hI.in_.at_)
  have ha := (Below.refl wx1.heap.size wx1).alloc (Nat.le_refl _) (.cells #[.bool (decide (z0 < 0)), .slice A1a (natL z0.natAbs).length c1a, .bool (decide (o < 0)), .slice A1b (natL o.natAbs).length c1b, .bool (decide (z1 < 0)), .slice A1c (natL z1.natAbs).length c1c, .bool (decide (o < 0)), .slice A1d (natL o.natAbs).length c1d] 28)
  have hbx := hb.trans (ha.mono hb.size)
  have RS := RowsFree.ins (w0 := w) [] [.slice A1a (natL z0.natAbs).length c1a, .slice A1b (natL o.natAbs).length c1b, .slice A1c (natL z1.natAbs).length c1c, .slice A1d (natL o.natAbs).length c1d] [] (RS.below hbx) RS HB.size ((hI.below ha).free HL.out.1 HL.out.2.1 HL.out.2.2 HL.out.2.1)
  have F := Hd ((((F.out.below hb).below ha).add hn (fun _ _ => GV.below)).add (show RowsFree _ w.heap.size [.slice A1a (natL z0.natAbs).length c1a, .slice A1b (natL o.natAbs).length c1b, .slice A1c (natL z1.natAbs).length c1c, .slice A1d (natL o.natAbs).length c1d] from RS) (fun _ _ => RowsFree.below))
  clear HB RS
  clear hI hb hn ha hbx
  go_upto_region 2 with fail
  obtain ⟨wy1, E⟩ : ∃ W, W = wx1.alloc (.cells #[.bool (decide (z0 < 0)), .slice A1a (natL z0.natAbs).length c1a, .bool (decide (o < 0)), .slice A1b (natL o.natAbs).length c1b, .bool (decide (z1 < 0)), .slice A1c (natL z1.natAbs).length c1c, .bool (decide (o < 0)), .slice A1d (natL o.natAbs).length c1d] 28) := ⟨_, rfl⟩
  obtain ⟨q1, hq⟩ : ∃ q, q = wx1.heap.size := ⟨_, rfl⟩
  rw [← E, ← hq] at F ⊢
  clear E hq
  obtain ⟨RS, -, -, HB⟩ := F.out.h
  go_wp2_with fail
  refine (H1.out wy1).mono ?_
  rintro e wx2 ⟨v, rfl, hI, hb⟩
  obtain ⟨A2a, c2a, A2b, c2b, A2c, c2c, A2d, c2d, rfl, -⟩ := hI.form
  have hn := GV.new 28 (hI.in_.at_)
  have ha := (Below.refl wx2.heap.size wx2).alloc (Nat.le_refl _) (.cells #[.bool (decide (z0 < 0)), .slice A2a (natL z0.natAbs).length c2a, .bool (decide (o < 0)), .slice A2b (natL o.natAbs).length c2b, .bool (decide (z1 < 0)), .slice A2c (natL z1.natAbs).length c2c, .bool (decide (o < 0)), .slice A2d (natL o.natAbs).length c2d] 28)
  have hbx := hb.trans (ha.mono hb.size)
  have RS := RowsFree.ins (w0 := wy1) [.slice A1a (natL z0.natAbs).length c1a, .slice A1b (natL o.natAbs).length c1b, .slice A1c (natL z1.natAbs).length c1c, .slice A1d (natL o.natAbs).length c1d] [.slice A2a (natL z0.natAbs).length c2a, .slice A2b (natL o.natAbs).length c2b, .slice A2c (natL z1.natAbs).length c2c, .slice A2d (natL o.natAbs).length c2d] [] (RS.below hbx) RS HB.size ((hI.below ha).free HL.out.1 HL.out.2.1 HL.out.2.2 HL.out.2.1)
  have F := Hd ((((F.out.below hb).below ha).add hn (fun _ _ => GV.below)).add (show RowsFree _ w.heap.size [.slice A1a (natL z0.natAbs).length c1a, .slice A1b (natL o.natAbs).length c1b, .slice A1c (natL z1.natAbs).length c1c, .slice A1d (natL o.natAbs).length c1d, .slice A2a (natL z0.natAbs).length c2a, .slice A2b (natL o.natAbs).length c2b, .slice A2c (natL z1.natAbs).length c2c, .slice A2d (natL o.natAbs).length c2d] from RS) (fun _ _ => RowsFree.below))
  clear HB RS
  clear hI hb hn ha hbx
  go_upto_region 3 with fail
  obtain ⟨wy2, E⟩ : ∃ W, W = wx2.alloc (.cells #[.bool (decide (z0 < 0)), .slice A2a (natL z0.natAbs).length c2a, .bool (decide (o < 0)), .slice A2b (natL o.natAbs).length c2b, .bool (decide (z1 < 0)), .slice A2c (natL z1.natAbs).length c2c, .bool (decide (o < 0)), .slice A2d (natL o.natAbs).length c2d] 28) := ⟨_, rfl⟩
  obtain ⟨q2, hq⟩ : ∃ q, q = wx2.heap.size := ⟨_, rfl⟩
  rw [← E, ← hq] at F ⊢
  clear E hq
  go_wp2_with fail
  refine wp_region_free [.val (.agg #[.bool (decide (z0 < 0)), .slice A1a (natL z0.natAbs).length c1a, .bool (decide (o < 0)), .slice A1b (natL o.natAbs).length c1b, .bool (decide (z1 < 0)), .slice A1c (natL z1.natAbs).length c1c, .bool (decide (o < 0)), .slice A1d (natL o.natAbs).length c1d]) [], .val (.int .i64 z0) [], .val (.int .i64 z1) [], .any false (fun u V => GaussIn V u z0 o z1 o) [], .val (.bool true) [3], .val (.bool false) [], .val (.bool false) [], .val (.agg #[.bool (decide (z0 < 0)), .slice A2a (natL z0.natAbs).length c2a, .bool (decide (o < 0)), .slice A2b (natL o.natAbs).length c2b, .bool (decide (z1 < 0)), .slice A2c (natL z1.natAbs).length c2c, .bool (decide (o < 0)), .slice A2d (natL o.natAbs).length c2d]) [], .val (.agg #[.bool (decide (z0 < 0)), .slice A1a (natL z0.natAbs).length c1a, .bool (decide (o < 0)), .slice A1b (natL o.natAbs).length c1b, .bool (decide (z1 < 0)), .slice A1c (natL z1.natAbs).length c1c, .bool (decide (o < 0)), .slice A1d (natL o.natAbs).length c1d]) [], .val (.bool true) [], .val (.bool false) [], .val (.bool false) [], .val (.bool false) [], .val (.agg #[.bool (decide (z0 < 0)), .slice A1a (natL z0.natAbs).length c1a, .bool (decide (o < 0)), .slice A1b (natL o.natAbs).length c1b, .bool (decide (z1 < 0)), .slice A1c (natL z1.natAbs).length c1c, .bool (decide (o < 0)), .slice A1d (natL o.natAbs).length c1d]) [], .val (.int .i64 0) [], .val (.bool false) [], .val (.bool false) []] wy2.heap.size wy2 [] (fun _ _ => False) _ mixedOrders2 (Nat.le_refl _) (Below.refl _ _) (KeptV.refl _ _ _) rfl (by kernel_rfl) (by kernel_rfl) (by kernel_rfl) (by kernel_rfl) (by kernel_rfl) (by kernel_rfl) (by kernel_rfl) (by kernel_rfl) rfl (by simp [oldsF]) ?_ ?_ ?_ ?_
  · simp only [StableF, and_true]
    exact fun u V V' h k => h.kept k (by decide)
  · simp only [OldsF]
  · simp (maxSteps := 4000000) [StepsF, DepF, freeAct, fill, pairs]
    repeat' (first | apply And.intro | (intro (u : Value)) | (intro (u : Nat)))
    all_goals first
    | (intro V hV hK
       obtain ⟨-, V_y, -, V_z, -⟩ := (F.out.below hV).h
       obtain ⟨l_z, a_z, b_z, c_z, d_z, e_z, f_z, g_z, h_z⟩ := V_z.oct.facts
       obtain ⟨l_y, a_y, b_y, c_y, d_y, e_y, f_y, g_y, h_y⟩ := V_y.oct.facts
       clear hV hK
       go_simp
       first
       | exact Below.refl _ _
       | ((with_reducible refine (H2.out V).mono ?_); rintro e w' ⟨v, rfl, hv, hb⟩; exact ⟨hv, hb⟩)
       | ((with_reducible refine (sameGauss_true V _ _ V_y.at_ V_z.at_).mono ?_); rintro e w' ⟨rfl, hb⟩; exact ⟨rfl, hb⟩)
       | ((with_reducible refine (H3.out V _ V_z.at_).mono ?_); rintro e w' ⟨rfl, hb⟩; exact ⟨rfl, hb⟩))
    | (intro V hV hK h1
       obtain ⟨-, V_y, -, V_z, -⟩ := (F.out.below hV).h
       obtain ⟨l_z, a_z, b_z, c_z, d_z, e_z, f_z, g_z, h_z⟩ := V_z.oct.facts
       obtain ⟨l_y, a_y, b_y, c_y, d_y, e_y, f_y, g_y, h_y⟩ := V_y.oct.facts
       clear hV hK
       go_simp
       ((with_reducible refine (sameGauss_true V _ _ V_z.at_ h1.at_).mono ?_); rintro e w' ⟨rfl, hb⟩; exact ⟨rfl, hb⟩))
  · simp [EndF, FactsF, freeAct, fill, pairs]
    intro u1 V3 hV hK h1 _ _ _
    have F := Hd (F.out.below hV)
    clear hV hK h1
    clear H1 H2 H3
    go_upto_region 6 with fail
    obtain ⟨v0, E⟩ : ∃ W, W = V3.alloc (.cells #[.int .i64 0, .slice none 0 0, .slice none 0 0, .slice none 0 0, .slice none 0 0, .slice none 0 0, .slice none 0 0, .slice none 0 0, .slice none 0 0, .slice none 0 0, .slice none 0 0, .slice none 0 0, .slice none 0 0, .slice none 0 0, .slice none 0 0, .slice none 0 0, .slice none 0 0] 50) := ⟨_, rfl⟩
    have hk0 : Keep v0 V3.heap.size 0 (fun _ => nilS) nilS := by rw [E]; exact Keep.new V3 _
    have HY := Hd (show Below V3.heap.size V3 v0 from by rw [E]; exact (Below.refl _ _).alloc (Nat.le_refl _) _)
    rw [← E]
    obtain ⟨bk, hbb⟩ : ∃ b, b = V3.heap.size := ⟨_, rfl⟩
    rw [← hbb] at hk0 ⊢
    have HBB := Hd hbb
    have K := Hd (show Kept v0 bk [] from ⟨nilS, hk0.cong (fun j hj => by omega)⟩)
    clear E hk0 hbb
    have FB := F
    clear F
    obtain ⟨-, -, -, V_z, -⟩ := (FB.out.below HY.out).h
    obtain ⟨l_z, a_z, b_z, c_z, d_z, e_z, f_z, g_z, h_z⟩ := V_z.oct.facts
    go_wp2_with fail
    refine (keep_gauss bk [] (decide (z0 < 0)) (decide (o < 0)) (decide (z1 < 0)) (decide (o < 0)) A1a A1b A1c A1d (natL z0.natAbs).length c1a (natL o.natAbs).length c1b (natL z1.natAbs).length c1c (natL o.natAbs).length c1d (by simp) _ K.out).mono ?_
    rintro e vz1 ⟨rfl, hk, hb, -⟩
    have K := Hd (show Kept vz1 bk [.slice A1a (natL z0.natAbs).length c1a, .slice A1b (natL o.natAbs).length c1b, .slice A1c (natL z1.natAbs).length c1c, .slice A1d (natL o.natAbs).length c1d] from hk)
    have HY := Hd (HY.out.trans (HBB.out ▸ hb))
    clear l_z a_z b_z c_z d_z e_z f_z g_z h_z V_z
    clear hk hb
    obtain ⟨-, V_y, -⟩ := (FB.out.below HY.out).h
    obtain ⟨l_y, a_y, b_y, c_y, d_y, e_y, f_y, g_y, h_y⟩ := V_y.oct.facts
    go_wp2_with fail
    refine (keep_gauss bk [.slice A1a (natL z0.natAbs).length c1a, .slice A1b (natL o.natAbs).length c1b, .slice A1c (natL z1.natAbs).length c1c, .slice A1d (natL o.natAbs).length c1d] (decide (z0 < 0)) (decide (o < 0)) (decide (z1 < 0)) (decide (o < 0)) A2a A2b A2c A2d (natL z0.natAbs).length c2a (natL o.natAbs).length c2b (natL z1.natAbs).length c2c (natL o.natAbs).length c2d (by simp) _ K.out).mono ?_
    rintro e vz2 ⟨rfl, hk, hb, -⟩
    have K := Hd (show Kept vz2 bk [.slice A1a (natL z0.natAbs).length c1a, .slice A1b (natL o.natAbs).length c1b, .slice A1c (natL z1.natAbs).length c1c, .slice A1d (natL o.natAbs).length c1d, .slice A2a (natL z0.natAbs).length c2a, .slice A2b (natL o.natAbs).length c2b, .slice A2c (natL z1.natAbs).length c2c, .slice A2d (natL o.natAbs).length c2d] from hk)
    have HY := Hd (HY.out.trans (HBB.out ▸ hb))
    clear l_y a_y b_y c_y d_y e_y f_y g_y h_y V_y
    clear hk hb
    obtain ⟨RS, -, -, -, -, HB⟩ := (FB.out.below HY.out).h
    have hbs : w.heap.size ≤ bk := by rw [HBB.out]; obtain ⟨-, -, -, -, -, hz⟩ := FB.out.h; exact hz.size
    go_wp2_with fail
    refine (kept_apart bk w.heap.size [.slice A1a (natL z0.natAbs).length c1a, .slice A1b (natL o.natAbs).length c1b, .slice A1c (natL z1.natAbs).length c1c, .slice A1d (natL o.natAbs).length c1d, .slice A2a (natL z0.natAbs).length c2a, .slice A2b (natL o.natAbs).length c2b, .slice A2c (natL z1.natAbs).length c2c, .slice A2d (natL o.natAbs).length c2d] w vz2 (by simp) (by simp) K.out RS hbs HB).mono ?_
    rintro e vy ⟨rfl, hb⟩
    have HE := Hd hb
    clear RS HB hbs hb
    go_wp2_with fail
    refine (alive_true vy (HT.out.below2 HE.out)).mono ?_
    rintro e vx ⟨rfl, hb⟩
    have HE := Hd (belowTo HE.out hb)
    clear hb
    go_wp2_with fail
    go_ret
    exact ⟨rfl, HE.out⟩
end Go.Proofs.YthlehkjcfhnplaaGreatDoor
