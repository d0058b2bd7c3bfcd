/- Several texts in one: FRingW. -/
import Derived.Test.YtadmoheohmbieaaDoorBr29
import Derived.Test.YtadmoheohmbieaaDoorBr30
import Derived.Deep.DeepCutAuto
set_option maxRecDepth 100000
set_option maxHeartbeats 8000000
/- FracRing: the walk. (Written by wip/frac/genfring.py.) -/
namespace Go.Proofs.YtadmoheohmbieaaDoor
open Go.RowKit

theorem chkE_either (n1 n2 : Bool) (xs ys : List Nat) : chkE n1 n2 xs ys = 0 ∨ chkE n1 n2 xs ys = 1 := by
  unfold chkE
  split <;> (try split) <;> simp

theorem fring_ok (n d m f p g : Int) (A B A2 B2 A3 B3 : Option Addr) (c e0 c2 e2 c3 e3 : Nat) (w : World) (hx : Raw w A c (natL n.natAbs)) (kx : Raw w B e0 (natL d.natAbs)) (hy : Raw w A2 c2 (natL m.natAbs)) (ky : Raw w B2 e2 (natL f.natAbs)) (hz : Raw w A3 c3 (natL p.natAbs)) (kz : Raw w B3 e3 (natL g.natAbs)) (htab : powTab w) (hlx : (natL n.natAbs).length ≤ 1152921504606846975) (hly : (natL d.natAbs).length ≤ 1152921504606846975) (hlu : (natL m.natAbs).length ≤ 1152921504606846975) (hlv : (natL f.natAbs).length ≤ 1152921504606846975) (hlp : (natL p.natAbs).length ≤ 1152921504606846975) (hlq : (natL g.natAbs).length ≤ 1152921504606846975) (hb : decide (1048576 < [fcost (natL n.natAbs).length (natL d.natAbs).length, fcost (natL m.natAbs).length (natL f.natAbs).length, fcost (natL p.natAbs).length (natL g.natAbs).length].sum) = false) (f1 : Fine n d) (f2 : Fine m f) (f3 : Fine p g) :
    Calls Tryd.prog 4 #[.agg #[.bool (decide (n < 0)), .slice A (natL n.natAbs).length c, .bool (decide (d < 0)), .slice B (natL d.natAbs).length e0], .agg #[.bool (decide (m < 0)), .slice A2 (natL m.natAbs).length c2, .bool (decide (f < 0)), .slice B2 (natL f.natAbs).length e2], .agg #[.bool (decide (p < 0)), .slice A3 (natL p.natAbs).length c3, .bool (decide (g < 0)), .slice B3 (natL g.natAbs).length e3]] w fun e w' => e = .returned (.bool true) ∧ Below w.heap.size w w' := by
  have Dx := fun (V : World) (a1 : Raw V A c (natL n.natAbs)) (a2 : Raw V B e0 (natL d.natAbs)) => frac_Check (decide (n < 0)) (decide (d < 0)) A B c e0 _ _ V a1 a2
  have Dy := fun (V : World) (a1 : Raw V A2 c2 (natL m.natAbs)) (a2 : Raw V B2 e2 (natL f.natAbs)) => frac_Check (decide (m < 0)) (decide (f < 0)) A2 B2 c2 e2 _ _ V a1 a2
  have Dz := fun (V : World) (a1 : Raw V A3 c3 (natL p.natAbs)) (a2 : Raw V B3 e3 (natL g.natAbs)) => frac_Check (decide (p < 0)) (decide (g < 0)) A3 B3 c3 e3 _ _ V a1 a2
  rw [f1.chk] at Dx
  rw [f2.chk] at Dy
  rw [f3.chk] at Dz
  have Ex := Hd Dx
  have Ey := Hd Dy
  have Ez := Hd Dz
  obtain ⟨Na, hNa⟩ : ∃ k : Int, k = ansN (addN n d m f) (addD n d m f) := ⟨_, rfl⟩
  obtain ⟨Da, hDa⟩ : ∃ k : Int, k = ansD (addN n d m f) (addD n d m f) := ⟨_, rfl⟩
  obtain ⟨Ka, hKa⟩ : ∃ k : Int, k = ansK (addN n d m f) (addD n d m f) := ⟨_, rfl⟩
  have Ca := Hd (add_c f1 f2 hNa hDa hKa)
  have Cb := Hd (add_c f2 f1 (hNa.trans (by rw [(add_turn n d m f).1, (add_turn n d m f).2])) (hDa.trans (by rw [(add_turn n d m f).1, (add_turn n d m f).2])) (hKa.trans (by rw [(add_turn n d m f).1, (add_turn n d m f).2])))
  have La := Hd (like_add f1 f2 hNa hDa hKa)
  obtain ⟨Nc, hNc⟩ : ∃ k : Int, k = ansN (mulN n d m f) (mulD n d m f) := ⟨_, rfl⟩
  obtain ⟨Dc, hDc⟩ : ∃ k : Int, k = ansD (mulN n d m f) (mulD n d m f) := ⟨_, rfl⟩
  obtain ⟨Kc, hKc⟩ : ∃ k : Int, k = ansK (mulN n d m f) (mulD n d m f) := ⟨_, rfl⟩
  have Cc := Hd (mul_c f1 f2 hNc hDc hKc)
  have Cd := Hd (mul_c f2 f1 (hNc.trans (by rw [(mul_turn n d m f).1, (mul_turn n d m f).2])) (hDc.trans (by rw [(mul_turn n d m f).1, (mul_turn n d m f).2])) (hKc.trans (by rw [(mul_turn n d m f).1, (mul_turn n d m f).2])))
  have Lc := Hd (like_mul f1 f2 hNc hDc hKc)
  have EA := Hd (And.intro hNa (And.intro hDa hKa))
  have EC := Hd (And.intro hNc (And.intro hDc hKc))
  have HF := Hd (And.intro f1 (And.intro f2 f3))
  clear Dx Dy Dz f1 f2 f3 hNa hDa hKa hNc hDc hKc
  have C1 := fun (V : World) (a1 : Raw V A c (natL n.natAbs)) (a2 : Raw V B e0 (natL d.natAbs)) => frac_cost (decide (n < 0)) (decide (d < 0)) A B c e0 _ _ hlx hly V a1 a2
  have C2 := fun (V : World) (a1 : Raw V A2 c2 (natL m.natAbs)) (a2 : Raw V B2 e2 (natL f.natAbs)) => frac_cost (decide (m < 0)) (decide (f < 0)) A2 B2 c2 e2 _ _ hlu hlv V a1 a2
  have C3 := fun (V : World) (a1 : Raw V A3 c3 (natL p.natAbs)) (a2 : Raw V B3 e3 (natL g.natAbs)) => frac_cost (decide (p < 0)) (decide (g < 0)) A3 B3 c3 e3 _ _ hlp hlq V a1 a2
  have h1 := fcost_le hlx hly
  have h2 := fcost_le hlu hlv
  have h3 := fcost_le hlp hlq
  obtain ⟨s1, q1⟩ : ∃ k : Nat, k = fcost (natL n.natAbs).length (natL d.natAbs).length := ⟨_, rfl⟩
  obtain ⟨s2, q2⟩ : ∃ k : Nat, k = fcost (natL m.natAbs).length (natL f.natAbs).length := ⟨_, rfl⟩
  obtain ⟨s3, q3⟩ : ∃ k : Nat, k = fcost (natL p.natAbs).length (natL g.natAbs).length := ⟨_, rfl⟩
  rw [← q1] at C1 h1
  rw [← q2] at C2 h2
  rw [← q3] at C3 h3
  rw [← q1, ← q2, ← q3] at hb
  have H4 := Hd (fun (u : Value) (V : World) (h : SliceOf [s1, s2, s3] u V) => beyond_of2 [s1, s2, s3] false (by simp) (by simp; omega) hb.symm u V h)
  have H1 := Hd C1
  have H2 := Hd C2
  have H3 := Hd C3
  clear C1 C2 C3 h1 h2 h3 q1 q2 q3 hb hlx hly hlu hlv hlp hlq
  have b0 := (((Below.refl w.heap.size w).alloc (Nat.le_refl _) (.cells #[.bool (decide (n < 0)), .slice A (natL n.natAbs).length c, .bool (decide (d < 0)), .slice B (natL d.natAbs).length e0] 26)).alloc (by simp) (.cells #[.bool (decide (m < 0)), .slice A2 (natL m.natAbs).length c2, .bool (decide (f < 0)), .slice B2 (natL f.natAbs).length e2] 26)).alloc (by simp; omega) (.cells #[.bool (decide (p < 0)), .slice A3 (natL p.natAbs).length c3, .bool (decide (g < 0)), .slice B3 (natL g.natAbs).length e3] 26)
  have p0 := ((Quad.new w (.bool (decide (n < 0))) (.slice A (natL n.natAbs).length c) (.bool (decide (d < 0))) (.slice B (natL d.natAbs).length e0)).alloc (.cells #[.bool (decide (m < 0)), .slice A2 (natL m.natAbs).length c2, .bool (decide (f < 0)), .slice B2 (natL f.natAbs).length e2] 26)).alloc (.cells #[.bool (decide (p < 0)), .slice A3 (natL p.natAbs).length c3, .bool (decide (g < 0)), .slice B3 (natL g.natAbs).length e3] 26)
  have p1 := (Quad.new (w.alloc (.cells #[.bool (decide (n < 0)), .slice A (natL n.natAbs).length c, .bool (decide (d < 0)), .slice B (natL d.natAbs).length e0] 26)) (.bool (decide (m < 0))) (.slice A2 (natL m.natAbs).length c2) (.bool (decide (f < 0))) (.slice B2 (natL f.natAbs).length e2)).alloc (.cells #[.bool (decide (p < 0)), .slice A3 (natL p.natAbs).length c3, .bool (decide (g < 0)), .slice B3 (natL g.natAbs).length e3] 26)
  have p2 := Quad.new ((w.alloc (.cells #[.bool (decide (n < 0)), .slice A (natL n.natAbs).length c, .bool (decide (d < 0)), .slice B (natL d.natAbs).length e0] 26)).alloc (.cells #[.bool (decide (m < 0)), .slice A2 (natL m.natAbs).length c2, .bool (decide (f < 0)), .slice B2 (natL f.natAbs).length e2] 26)) (.bool (decide (p < 0))) (.slice A3 (natL p.natAbs).length c3) (.bool (decide (g < 0))) (.slice B3 (natL g.natAbs).length e3)
  simp only [World.size_alloc] at p1 p2
  have PX := Hd p0
  have PY := Hd p1
  have PZ := Hd p2
  have RX := Hd (hx.below b0)
  have KX := Hd (kx.below b0)
  have RY := Hd (hy.below b0)
  have KY := Hd (ky.below b0)
  have RZ := Hd (hz.below b0)
  have KZ := Hd (kz.below b0)
  have HT := Hd (htab.below2 b0)
  have HB := Hd b0
  clear b0 p0 p1 p2 hx kx hy ky hz kz htab
  go_enter Tryd.func4, Tryd.ntmps4
  go_wp2_with fail
  obtain ⟨W, E⟩ : ∃ W, W = ((w.alloc (.cells #[.bool (decide (n < 0)), .slice A (natL n.natAbs).length c, .bool (decide (d < 0)), .slice B (natL d.natAbs).length e0] 26)).alloc (.cells #[.bool (decide (m < 0)), .slice A2 (natL m.natAbs).length c2, .bool (decide (f < 0)), .slice B2 (natL f.natAbs).length e2] 26)).alloc (.cells #[.bool (decide (p < 0)), .slice A3 (natL p.natAbs).length c3, .bool (decide (g < 0)), .slice B3 (natL g.natAbs).length e3] 26) := ⟨_, rfl⟩
  rw [← E] at PX PY PZ RX KX RY KY RZ KZ HT HB ⊢
  clear E
  refine wp_region_free [.val (.agg #[.bool (decide (n < 0)), .slice A (natL n.natAbs).length c, .bool (decide (d < 0)), .slice B (natL d.natAbs).length e0]) [], .val (.int .i64 s1) [], .val (.agg #[.bool (decide (m < 0)), .slice A2 (natL m.natAbs).length c2, .bool (decide (f < 0)), .slice B2 (natL f.natAbs).length e2]) [], .val (.int .i64 s2) [], .val (.agg #[.bool (decide (p < 0)), .slice A3 (natL p.natAbs).length c3, .bool (decide (g < 0)), .slice B3 (natL g.natAbs).length e3]) [], .val (.int .i64 s3) [], .any false (SliceOf [s1, s2, s3]) [], .val (.bool false) [6], .val (.bool false) [], .val (.agg #[.bool (decide (n < 0)), .slice A (natL n.natAbs).length c, .bool (decide (d < 0)), .slice B (natL d.natAbs).length e0]) [], .val (.int .i64 0) [], .val (.bool false) [], .val (.bool false) [], .val (.bool false) [], .val (.agg #[.bool (decide (m < 0)), .slice A2 (natL m.natAbs).length c2, .bool (decide (f < 0)), .slice B2 (natL f.natAbs).length e2]) [], .val (.int .i64 0) [], .val (.bool false) [], .val (.bool false) [], .val (.bool false) [], .val (.agg #[.bool (decide (p < 0)), .slice A3 (natL p.natAbs).length c3, .bool (decide (g < 0)), .slice B3 (natL g.natAbs).length e3]) [], .val (.int .i64 0) [], .val (.bool false) [], .val (.bool false) []] W.heap.size W [] blkInt _ mixedOrders2 (Nat.le_refl _) (Below.refl _ _) (KeptV.refl _ _ _) rfl (by kernel_rfl) (by kernel_rfl) (by kernel_rfl) (by kernel_rfl) (by kernel_rfl) (by kernel_rfl) (by kernel_rfl) (by kernel_rfl) rfl (by simp [oldsF]) ?_ ?_ ?_ ?_
  · simp only [StableF, and_true]
    exact fun u V V' h k => h.kept k
  · simp only [OldsF]
  · simp (maxSteps := 4000000) [StepsF, DepF, freeAct, fill, pairs]
    repeat' (first | apply And.intro | (intro (u : Value)) | (intro (u : Nat)))
    all_goals first
    | (intro V hV hK; clear hV hK; go_simp; exact Below.refl _ _)
    | (intro V hV hK
       have r1 := RX.out.below hV
       have r2 := KX.out.below hV
       have r3 := RY.out.below hV
       have r4 := KY.out.below hV
       have r5 := RZ.out.below hV
       have r6 := KZ.out.below hV
       obtain ⟨-, a_x, b_x, c_x, d_x, -, -, -, -⟩ := (PX.out.below hV).facts
       obtain ⟨-, a_y, b_y, c_y, d_y, -, -, -, -⟩ := (PY.out.below hV).facts
       obtain ⟨-, a_z, b_z, c_z, d_z, -, -, -, -⟩ := (PZ.out.below hV).facts
       clear hV hK
       go_simp
       first
       | exact Below.refl _ _
       | ((with_reducible refine (H1.out V r1 r2).mono ?_); rintro e w' ⟨rfl, hb⟩; exact ⟨rfl, hb⟩)
       | ((with_reducible refine (H2.out V r3 r4).mono ?_); rintro e w' ⟨rfl, hb⟩; exact ⟨rfl, hb⟩)
       | ((with_reducible refine (H3.out V r5 r6).mono ?_); rintro e w' ⟨rfl, hb⟩; exact ⟨rfl, hb⟩)
       | ((with_reducible refine (Ex.out V r1 r2).mono ?_); rintro e w' ⟨rfl, hb⟩; exact ⟨rfl, hb⟩)
       | ((with_reducible refine (Ey.out V r3 r4).mono ?_); rintro e w' ⟨rfl, hb⟩; exact ⟨rfl, hb⟩)
       | ((with_reducible refine (Ez.out V r5 r6).mono ?_); rintro e w' ⟨rfl, hb⟩; exact ⟨rfl, hb⟩)
       | exact ⟨SliceOf.new [s1, s2, s3] _ _ _ rfl, (Below.refl _ _).alloc (Nat.le_refl _) _⟩)
    | (intro V hV hK h1
       clear hV hK
       go_simp
       refine (H4.out _ V h1).mono ?_
       rintro e w' ⟨rfl, hb⟩
       exact ⟨rfl, hb⟩)
  · simp [EndF, FactsF, freeAct, fill, pairs]
    intro u1 V hV hK _ _ _ _
    have PX := Hd (PX.out.below hV)
    have PY := Hd (PY.out.below hV)
    have PZ := Hd (PZ.out.below hV)
    have RX := Hd (RX.out.below hV)
    have KX := Hd (KX.out.below hV)
    have RY := Hd (RY.out.below hV)
    have KY := Hd (KY.out.below hV)
    have RZ := Hd (RZ.out.below hV)
    have KZ := Hd (KZ.out.below hV)
    have HT := Hd (HT.out.below2 hV)
    have HB := Hd (belowTo HB.out hV)
    clear hV hK H1 H2 H3 H4 Ex Ey Ez
    have F := Hd (((((Kp.base HB.out).add HT.out (fun _ _ => powTab.below2)).add (FV.mk PX.out RX.out KX.out) (fun _ _ => FV.below)).add (FV.mk PY.out RY.out KY.out) (fun _ _ => FV.below)).add (FV.mk PZ.out RZ.out KZ.out) (fun _ _ => FV.below))
    clear PX PY PZ RX KX RY KY RZ KZ HT HB
    obtain ⟨-, V_y, V_x, -⟩ := F.out.h
    obtain ⟨l_x, a_x, b_x, c_x, d_x, -, -, -, -⟩ := V_x.quad.facts
    obtain ⟨l_y, a_y, b_y, c_y, d_y, -, -, -, -⟩ := V_y.quad.facts
    go_wp2_with fail
    refine (Ca.out _ _ _ _ _ _ _ _ _ V_x.num V_x.den V_y.num V_y.den).mono ?_
    rintro e wx1 ⟨v, rfl, hI, hb⟩
    obtain ⟨Ar1, cr1, Br1, er1, rfl, i1, i2, -⟩ := hI.form
    have hn := FV.new i1.rawAt i2.rawAt
    have ha := (Below.refl wx1.heap.size wx1).alloc (Nat.le_refl _) (.cells #[.bool (decide (Na < 0)), .slice Ar1 (natL Na.natAbs).length cr1, .bool (decide (Da < 0)), .slice Br1 (natL Da.natAbs).length er1] 26)
    have F := Hd (((F.out.below hb).below ha).add hn (fun _ _ => FV.below))
    clear l_x a_x b_x c_x d_x l_y a_y b_y c_y d_y V_x V_y
    clear hI i1 i2 hb hn ha
    go_upto_region 4 with fail
    obtain ⟨wy1, E⟩ : ∃ W, W = wx1.alloc (.cells #[.bool (decide (Na < 0)), .slice Ar1 (natL Na.natAbs).length cr1, .bool (decide (Da < 0)), .slice Br1 (natL Da.natAbs).length er1] 26) := ⟨_, rfl⟩
    obtain ⟨q1, hq⟩ : ∃ q, q = wx1.heap.size := ⟨_, rfl⟩
    rw [← E, ← hq] at F ⊢
    clear E hq
    obtain ⟨-, -, V_y, V_x, -⟩ := F.out.h
    obtain ⟨l_y, a_y, b_y, c_y, d_y, -, -, -, -⟩ := V_y.quad.facts
    obtain ⟨l_x, a_x, b_x, c_x, d_x, -, -, -, -⟩ := V_x.quad.facts
    go_wp2_with fail
    refine (Cb.out _ _ _ _ _ _ _ _ _ V_y.num V_y.den V_x.num V_x.den).mono ?_
    rintro e wx2 ⟨v, rfl, hI, hb⟩
    obtain ⟨Ar2, cr2, Br2, er2, rfl, i1, i2, -⟩ := hI.form
    have hn := FV.new i1.rawAt i2.rawAt
    have ha := (Below.refl wx2.heap.size wx2).alloc (Nat.le_refl _) (.cells #[.bool (decide (Na < 0)), .slice Ar2 (natL Na.natAbs).length cr2, .bool (decide (Da < 0)), .slice Br2 (natL Da.natAbs).length er2] 26)
    have F := Hd (((F.out.below hb).below ha).add hn (fun _ _ => FV.below))
    clear l_y a_y b_y c_y d_y l_x a_x b_x c_x d_x V_x V_y
    clear hI i1 i2 hb hn ha
    go_upto_region 5 with fail
    obtain ⟨wy2, E⟩ : ∃ W, W = wx2.alloc (.cells #[.bool (decide (Na < 0)), .slice Ar2 (natL Na.natAbs).length cr2, .bool (decide (Da < 0)), .slice Br2 (natL Da.natAbs).length er2] 26) := ⟨_, rfl⟩
    obtain ⟨q2, hq⟩ : ∃ q, q = wx2.heap.size := ⟨_, rfl⟩
    rw [← E, ← hq] at F ⊢
    clear E hq
    obtain ⟨-, -, -, V_y, V_x, -⟩ := F.out.h
    obtain ⟨l_x, a_x, b_x, c_x, d_x, -, -, -, -⟩ := V_x.quad.facts
    obtain ⟨l_y, a_y, b_y, c_y, d_y, -, -, -, -⟩ := V_y.quad.facts
    go_wp2_with fail
    refine (Cc.out _ _ _ _ _ _ _ _ _ V_x.num V_x.den V_y.num V_y.den).mono ?_
    rintro e wx3 ⟨v, rfl, hI, hb⟩
    obtain ⟨Ar3, cr3, Br3, er3, rfl, i1, i2, -⟩ := hI.form
    have hn := FV.new i1.rawAt i2.rawAt
    have ha := (Below.refl wx3.heap.size wx3).alloc (Nat.le_refl _) (.cells #[.bool (decide (Nc < 0)), .slice Ar3 (natL Nc.natAbs).length cr3, .bool (decide (Dc < 0)), .slice Br3 (natL Dc.natAbs).length er3] 26)
    have F := Hd (((F.out.below hb).below ha).add hn (fun _ _ => FV.below))
    clear l_x a_x b_x c_x d_x l_y a_y b_y c_y d_y V_x V_y
    clear hI i1 i2 hb hn ha
    go_upto_region 6 with fail
    obtain ⟨wy3, E⟩ : ∃ W, W = wx3.alloc (.cells #[.bool (decide (Nc < 0)), .slice Ar3 (natL Nc.natAbs).length cr3, .bool (decide (Dc < 0)), .slice Br3 (natL Dc.natAbs).length er3] 26) := ⟨_, rfl⟩
    obtain ⟨q3, hq⟩ : ∃ q, q = wx3.heap.size := ⟨_, rfl⟩
    rw [← E, ← hq] at F ⊢
    clear E hq
    obtain ⟨-, -, -, -, V_y, V_x, -⟩ := F.out.h
    obtain ⟨l_y, a_y, b_y, c_y, d_y, -, -, -, -⟩ := V_y.quad.facts
    obtain ⟨l_x, a_x, b_x, c_x, d_x, -, -, -, -⟩ := V_x.quad.facts
    go_wp2_with fail
    refine (Cd.out _ _ _ _ _ _ _ _ _ V_y.num V_y.den V_x.num V_x.den).mono ?_
    rintro e wx4 ⟨v, rfl, hI, hb⟩
    obtain ⟨Ar4, cr4, Br4, er4, rfl, i1, i2, -⟩ := hI.form
    have hn := FV.new i1.rawAt i2.rawAt
    have ha := (Below.refl wx4.heap.size wx4).alloc (Nat.le_refl _) (.cells #[.bool (decide (Nc < 0)), .slice Ar4 (natL Nc.natAbs).length cr4, .bool (decide (Dc < 0)), .slice Br4 (natL Dc.natAbs).length er4] 26)
    have F := Hd (((F.out.below hb).below ha).add hn (fun _ _ => FV.below))
    clear l_y a_y b_y c_y d_y l_x a_x b_x c_x d_x V_x V_y
    clear hI i1 i2 hb hn ha
    go_upto_region 7 with fail
    obtain ⟨wy4, E⟩ : ∃ W, W = wx4.alloc (.cells #[.bool (decide (Nc < 0)), .slice Ar4 (natL Nc.natAbs).length cr4, .bool (decide (Dc < 0)), .slice Br4 (natL Dc.natAbs).length er4] 26) := ⟨_, rfl⟩
    obtain ⟨q4, hq⟩ : ∃ q, q = wx4.heap.size := ⟨_, rfl⟩
    rw [← E, ← hq] at F ⊢
    clear E hq
    obtain ⟨-, -, V_b, V_a, -⟩ := F.out.h
    obtain ⟨l_a, a_a, b_a, c_a, d_a, -, -, -, -⟩ := V_a.quad.facts
    obtain ⟨l_b, a_b, b_b, c_b, d_b, -, -, -, -⟩ := V_b.quad.facts
    go_wp2_with fail
    refine (La.out _ _ _ _ _ _ _ _ _ V_a.num V_a.den V_b.num V_b.den).mono ?_
    rintro e wx5 ⟨rfl, hb⟩
    have F := Hd (F.out.below hb)
    clear l_a a_a b_a c_a d_a l_b a_b b_b c_b d_b V_a V_b
    clear hb
    obtain ⟨V_d, V_c, -⟩ := F.out.h
    obtain ⟨l_c, a_c, b_c, c_c, d_c, -, -, -, -⟩ := V_c.quad.facts
    obtain ⟨l_d, a_d, b_d, c_d, d_d, -, -, -, -⟩ := V_d.quad.facts
    go_wp2_with fail
    refine (Lc.out _ _ _ _ _ _ _ _ _ V_c.num V_c.den V_d.num V_d.den).mono ?_
    rintro e wx6 ⟨rfl, hb⟩
    have F := Hd (F.out.below hb)
    clear l_c a_c b_c c_c d_c l_d a_d b_d c_d d_d V_c V_d
    clear hb
    clear Ca Cb Cc Cd La Lc
    go_upto_if 109 with fail
    obtain ⟨yc7, E⟩ : ∃ Y, Y = wx6 := ⟨_, rfl⟩
    rw [← E] at F ⊢
    clear E
    go_cut [] (fun wc => Below yc7.heap.size yc7 wc)
    case first => as_aux_lemma =>
      have F := Hd (F.out.add (Below.refl yc7.heap.size yc7) (fun _ _ a b => belowTo a b))
      obtain ⟨f1, f2, f3⟩ := HF.out
      rcases ans_cases EA.out.1 EA.out.2.1 EA.out.2.2 with ⟨hk, hn, hd, l1, l2⟩ | ⟨hk, hn, hd⟩
      · as_aux_lemma =>
          have fa := fine_add f1 f2 hn hd l1 l2
          subst hk
          obtain ⟨Np, hNp⟩ : ∃ k : Int, k = ansN (addN Na Da p g) (addD Na Da p g) := ⟨_, rfl⟩
          obtain ⟨Dp, hDp⟩ : ∃ k : Int, k = ansD (addN Na Da p g) (addD Na Da p g) := ⟨_, rfl⟩
          obtain ⟨Kp, hKp⟩ : ∃ k : Int, k = ansK (addN Na Da p g) (addD Na Da p g) := ⟨_, rfl⟩
          obtain ⟨Nq, hNq⟩ : ∃ k : Int, k = ansN (addN m f p g) (addD m f p g) := ⟨_, rfl⟩
          obtain ⟨Dq, hDq⟩ : ∃ k : Int, k = ansD (addN m f p g) (addD m f p g) := ⟨_, rfl⟩
          obtain ⟨Kq, hKq⟩ : ∃ k : Int, k = ansK (addN m f p g) (addD m f p g) := ⟨_, rfl⟩
          obtain ⟨Nm, hNm⟩ : ∃ k : Int, k = ansN (mulN Na Da p g) (mulD Na Da p g) := ⟨_, rfl⟩
          obtain ⟨Dm, hDm⟩ : ∃ k : Int, k = ansD (mulN Na Da p g) (mulD Na Da p g) := ⟨_, rfl⟩
          obtain ⟨Km, hKm⟩ : ∃ k : Int, k = ansK (mulN Na Da p g) (mulD Na Da p g) := ⟨_, rfl⟩
          obtain ⟨Nu, hNu⟩ : ∃ k : Int, k = ansN (mulN n d p g) (mulD n d p g) := ⟨_, rfl⟩
          obtain ⟨Du, hDu⟩ : ∃ k : Int, k = ansD (mulN n d p g) (mulD n d p g) := ⟨_, rfl⟩
          obtain ⟨Ku, hKu⟩ : ∃ k : Int, k = ansK (mulN n d p g) (mulD n d p g) := ⟨_, rfl⟩
          obtain ⟨No, hNo⟩ : ∃ k : Int, k = ansN (mulN m f p g) (mulD m f p g) := ⟨_, rfl⟩
          obtain ⟨Do, hDo⟩ : ∃ k : Int, k = ansD (mulN m f p g) (mulD m f p g) := ⟨_, rfl⟩
          obtain ⟨Ko, hKo⟩ : ∃ k : Int, k = ansK (mulN m f p g) (mulD m f p g) := ⟨_, rfl⟩
          have Cp := Hd (add_c fa f3 hNp hDp hKp)
          have Cq := Hd (add_c f2 f3 hNq hDq hKq)
          have Cs := Hd (sub_back_c f1 f2 fa hn hd)
          have Cm := Hd (mul_c fa f3 hNm hDm hKm)
          have Cu := Hd (mul_c f1 f3 hNu hDu hKu)
          have Co := Hd (mul_c f2 f3 hNo hDo hKo)
          have Lp := Hd (like_add fa f3 hNp hDp hKp)
          have Lm := Hd (like_mul fa f3 hNm hDm hKm)
          have Lx := Hd (like_fine f1)
          have EP := Hd (And.intro hNp (And.intro hDp hKp))
          have EQ := Hd (And.intro hNq (And.intro hDq hKq))
          have EM := Hd (And.intro hNm (And.intro hDm hKm))
          have EU := Hd (And.intro hNu (And.intro hDu hKu))
          have EO := Hd (And.intro hNo (And.intro hDo hKo))
          have ED := Hd (And.intro hn hd)
          clear hn hd l1 l2 fa f1 f2 f3 hNp hDp hKp hNq hDq hKq hNm hDm hKm hNu hDu hKu hNo hDo hKo
          obtain ⟨-, -, -, -, V_a, V_z, -⟩ := F.out.h
          obtain ⟨l_a, a_a, b_a, c_a, d_a, -, -, -, -⟩ := V_a.quad.facts
          obtain ⟨l_z, a_z, b_z, c_z, d_z, -, -, -, -⟩ := V_z.quad.facts
          go_wp2_with fail
          refine (Cp.out _ _ _ _ _ _ _ _ _ V_a.num V_a.den V_z.num V_z.den).mono ?_
          rintro e wx8 ⟨v, rfl, hI, hb⟩
          obtain ⟨Ar8, cr8, Br8, er8, rfl, i1, i2, -⟩ := hI.form
          have hn := FV.new i1.rawAt i2.rawAt
          have ha := (Below.refl wx8.heap.size wx8).alloc (Nat.le_refl _) (.cells #[.bool (decide (Np < 0)), .slice Ar8 (natL Np.natAbs).length cr8, .bool (decide (Dp < 0)), .slice Br8 (natL Dp.natAbs).length er8] 26)
          have F := Hd (((F.out.below hb).below ha).add hn (fun _ _ => FV.below))
          clear l_a a_a b_a c_a d_a l_z a_z b_z c_z d_z V_a V_z
          clear hI i1 i2 hb hn ha
          go_upto_region 11 with fail
          obtain ⟨wy8, E⟩ : ∃ W, W = wx8.alloc (.cells #[.bool (decide (Np < 0)), .slice Ar8 (natL Np.natAbs).length cr8, .bool (decide (Dp < 0)), .slice Br8 (natL Dp.natAbs).length er8] 26) := ⟨_, rfl⟩
          obtain ⟨q8, hq⟩ : ∃ q, q = wx8.heap.size := ⟨_, rfl⟩
          rw [← E, ← hq] at F ⊢
          clear E hq
          obtain ⟨-, -, -, -, -, -, V_z, V_y, -⟩ := F.out.h
          obtain ⟨l_y, a_y, b_y, c_y, d_y, -, -, -, -⟩ := V_y.quad.facts
          obtain ⟨l_z, a_z, b_z, c_z, d_z, -, -, -, -⟩ := V_z.quad.facts
          go_wp2_with fail
          refine (Cq.out _ _ _ _ _ _ _ _ _ V_y.num V_y.den V_z.num V_z.den).mono ?_
          rintro e wx9 ⟨v, rfl, hI, hb⟩
          obtain ⟨Ar9, cr9, Br9, er9, rfl, i1, i2, -⟩ := hI.form
          have hn := FV.new i1.rawAt i2.rawAt
          have ha := (Below.refl wx9.heap.size wx9).alloc (Nat.le_refl _) (.cells #[.bool (decide (Nq < 0)), .slice Ar9 (natL Nq.natAbs).length cr9, .bool (decide (Dq < 0)), .slice Br9 (natL Dq.natAbs).length er9] 26)
          have F := Hd (((F.out.below hb).below ha).add hn (fun _ _ => FV.below))
          clear l_y a_y b_y c_y d_y l_z a_z b_z c_z d_z V_y V_z
          clear hI i1 i2 hb hn ha
          go_upto_region 12 with fail
          obtain ⟨wy9, E⟩ : ∃ W, W = wx9.alloc (.cells #[.bool (decide (Nq < 0)), .slice Ar9 (natL Nq.natAbs).length cr9, .bool (decide (Dq < 0)), .slice Br9 (natL Dq.natAbs).length er9] 26) := ⟨_, rfl⟩
          obtain ⟨q9, hq⟩ : ∃ q, q = wx9.heap.size := ⟨_, rfl⟩
          rw [← E, ← hq] at F ⊢
          clear E hq
          obtain ⟨f1, f2, f3⟩ := HF.out
          rcases ans_cases EQ.out.1 EQ.out.2.1 EQ.out.2.2 with ⟨hk, hn, hd, l1, l2⟩ | ⟨hk, hn, hd⟩
          · as_aux_lemma =>
              have fq := fine_add f2 f3 hn hd l1 l2
              have gg := add_group n m p f1.pos f2.pos f3.pos
              have Cr := Hd (show OpC 13 n d Nq Dq Np Dp Kp from add_c f1 fq (by rw [EP.out.1, ED.out.1, ED.out.2, hn, hd, gg.1, gg.2]) (by rw [EP.out.2.1, ED.out.1, ED.out.2, hn, hd, gg.1, gg.2]) (by rw [EP.out.2.2, ED.out.1, ED.out.2, hn, hd, gg.1, gg.2]))
              subst hk
              clear hn hd l1 l2 fq gg f1 f2 f3
              obtain ⟨V_q, -, -, -, -, -, -, -, -, V_x, -⟩ := F.out.h
              obtain ⟨l_x, a_x, b_x, c_x, d_x, -, -, -, -⟩ := V_x.quad.facts
              obtain ⟨l_q, a_q, b_q, c_q, d_q, -, -, -, -⟩ := V_q.quad.facts
              go_wp2_with fail
              refine (Cr.out _ _ _ _ _ _ _ _ _ V_x.num V_x.den V_q.num V_q.den).mono ?_
              rintro e wx10 ⟨v, rfl, hI, hb⟩
              obtain ⟨Ar10, cr10, Br10, er10, rfl, i1, i2, -⟩ := hI.form
              have hn := FV.new i1.rawAt i2.rawAt
              have ha := (Below.refl wx10.heap.size wx10).alloc (Nat.le_refl _) (.cells #[.bool (decide (Np < 0)), .slice Ar10 (natL Np.natAbs).length cr10, .bool (decide (Dp < 0)), .slice Br10 (natL Dp.natAbs).length er10] 26)
              have F := Hd (((F.out.below hb).below ha).add hn (fun _ _ => FV.below))
              clear l_x a_x b_x c_x d_x l_q a_q b_q c_q d_q V_q V_x
              clear hI i1 i2 hb hn ha
              go_upto_region 13 with fail
              obtain ⟨wy10, E⟩ : ∃ W, W = wx10.alloc (.cells #[.bool (decide (Np < 0)), .slice Ar10 (natL Np.natAbs).length cr10, .bool (decide (Dp < 0)), .slice Br10 (natL Dp.natAbs).length er10] 26) := ⟨_, rfl⟩
              obtain ⟨q10, hq⟩ : ∃ q, q = wx10.heap.size := ⟨_, rfl⟩
              rw [← E, ← hq] at F ⊢
              clear E hq
              obtain ⟨-, -, -, -, -, -, -, V_a, -, V_y, -⟩ := F.out.h
              obtain ⟨l_a, a_a, b_a, c_a, d_a, -, -, -, -⟩ := V_a.quad.facts
              obtain ⟨l_y, a_y, b_y, c_y, d_y, -, -, -, -⟩ := V_y.quad.facts
              go_wp2_with fail
              refine (Cs.out _ _ _ _ _ _ _ _ _ V_a.num V_a.den V_y.num V_y.den).mono ?_
              rintro e wx11 ⟨v, rfl, hI, hb⟩
              obtain ⟨Ar11, cr11, Br11, er11, rfl, i1, i2, -⟩ := hI.form
              have hn := FV.new i1.rawAt i2.rawAt
              have ha := (Below.refl wx11.heap.size wx11).alloc (Nat.le_refl _) (.cells #[.bool (decide (n < 0)), .slice Ar11 (natL n.natAbs).length cr11, .bool (decide (d < 0)), .slice Br11 (natL d.natAbs).length er11] 26)
              have F := Hd (((F.out.below hb).below ha).add hn (fun _ _ => FV.below))
              clear l_a a_a b_a c_a d_a l_y a_y b_y c_y d_y V_a V_y
              clear hI i1 i2 hb hn ha
              go_upto_region 14 with fail
              obtain ⟨wy11, E⟩ : ∃ W, W = wx11.alloc (.cells #[.bool (decide (n < 0)), .slice Ar11 (natL n.natAbs).length cr11, .bool (decide (d < 0)), .slice Br11 (natL d.natAbs).length er11] 26) := ⟨_, rfl⟩
              obtain ⟨q11, hq⟩ : ∃ q, q = wx11.heap.size := ⟨_, rfl⟩
              rw [← E, ← hq] at F ⊢
              clear E hq
              obtain ⟨-, V_r, -, V_p, -⟩ := F.out.h
              obtain ⟨l_p, a_p, b_p, c_p, d_p, -, -, -, -⟩ := V_p.quad.facts
              obtain ⟨l_r, a_r, b_r, c_r, d_r, -, -, -, -⟩ := V_r.quad.facts
              go_wp2_with fail
              refine (Lp.out _ _ _ _ _ _ _ _ _ V_p.num V_p.den V_r.num V_r.den).mono ?_
              rintro e wx12 ⟨rfl, hb⟩
              have F := Hd (F.out.below hb)
              clear l_p a_p b_p c_p d_p l_r a_r b_r c_r d_r V_p V_r
              clear hb
              obtain ⟨V_s, -, -, -, -, -, -, -, -, -, -, V_x, -⟩ := F.out.h
              obtain ⟨l_s, a_s, b_s, c_s, d_s, -, -, -, -⟩ := V_s.quad.facts
              obtain ⟨l_x, a_x, b_x, c_x, d_x, -, -, -, -⟩ := V_x.quad.facts
              go_wp2_with fail
              refine (Lx.out _ _ _ _ _ _ _ _ _ V_s.num V_s.den V_x.num V_x.den).mono ?_
              rintro e wx13 ⟨rfl, hb⟩
              have F := Hd (F.out.below hb)
              clear l_s a_s b_s c_s d_s l_x a_x b_x c_x d_x V_s V_x
              clear hb
              go_upto_region 16 with fail
              obtain ⟨-, -, -, -, -, -, -, -, V_a, V_z, -⟩ := F.out.h
              obtain ⟨l_a, a_a, b_a, c_a, d_a, -, -, -, -⟩ := V_a.quad.facts
              obtain ⟨l_z, a_z, b_z, c_z, d_z, -, -, -, -⟩ := V_z.quad.facts
              go_wp2_with fail
              refine (Cm.out _ _ _ _ _ _ _ _ _ V_a.num V_a.den V_z.num V_z.den).mono ?_
              rintro e wx14 ⟨v, rfl, hI, hb⟩
              obtain ⟨Ar14, cr14, Br14, er14, rfl, i1, i2, -⟩ := hI.form
              have hn := FV.new i1.rawAt i2.rawAt
              have ha := (Below.refl wx14.heap.size wx14).alloc (Nat.le_refl _) (.cells #[.bool (decide (Nm < 0)), .slice Ar14 (natL Nm.natAbs).length cr14, .bool (decide (Dm < 0)), .slice Br14 (natL Dm.natAbs).length er14] 26)
              have F := Hd (((F.out.below hb).below ha).add hn (fun _ _ => FV.below))
              clear l_a a_a b_a c_a d_a l_z a_z b_z c_z d_z V_a V_z
              clear hI i1 i2 hb hn ha
              go_upto_region 17 with fail
              obtain ⟨wy14, E⟩ : ∃ W, W = wx14.alloc (.cells #[.bool (decide (Nm < 0)), .slice Ar14 (natL Nm.natAbs).length cr14, .bool (decide (Dm < 0)), .slice Br14 (natL Dm.natAbs).length er14] 26) := ⟨_, rfl⟩
              obtain ⟨q14, hq⟩ : ∃ q, q = wx14.heap.size := ⟨_, rfl⟩
              rw [← E, ← hq] at F ⊢
              clear E hq
              obtain ⟨-, -, -, -, -, -, -, -, -, -, V_z, -, V_x, -⟩ := F.out.h
              obtain ⟨l_x, a_x, b_x, c_x, d_x, -, -, -, -⟩ := V_x.quad.facts
              obtain ⟨l_z, a_z, b_z, c_z, d_z, -, -, -, -⟩ := V_z.quad.facts
              go_wp2_with fail
              refine (Cu.out _ _ _ _ _ _ _ _ _ V_x.num V_x.den V_z.num V_z.den).mono ?_
              rintro e wx15 ⟨v, rfl, hI, hb⟩
              obtain ⟨Ar15, cr15, Br15, er15, rfl, i1, i2, -⟩ := hI.form
              have hn := FV.new i1.rawAt i2.rawAt
              have ha := (Below.refl wx15.heap.size wx15).alloc (Nat.le_refl _) (.cells #[.bool (decide (Nu < 0)), .slice Ar15 (natL Nu.natAbs).length cr15, .bool (decide (Du < 0)), .slice Br15 (natL Du.natAbs).length er15] 26)
              have F := Hd (((F.out.below hb).below ha).add hn (fun _ _ => FV.below))
              clear l_x a_x b_x c_x d_x l_z a_z b_z c_z d_z V_x V_z
              clear hI i1 i2 hb hn ha
              go_upto_region 18 with fail
              obtain ⟨wy15, E⟩ : ∃ W, W = wx15.alloc (.cells #[.bool (decide (Nu < 0)), .slice Ar15 (natL Nu.natAbs).length cr15, .bool (decide (Du < 0)), .slice Br15 (natL Du.natAbs).length er15] 26) := ⟨_, rfl⟩
              obtain ⟨q15, hq⟩ : ∃ q, q = wx15.heap.size := ⟨_, rfl⟩
              rw [← E, ← hq] at F ⊢
              clear E hq
              obtain ⟨-, -, -, -, -, -, -, -, -, -, -, V_z, V_y, -⟩ := F.out.h
              obtain ⟨l_y, a_y, b_y, c_y, d_y, -, -, -, -⟩ := V_y.quad.facts
              obtain ⟨l_z, a_z, b_z, c_z, d_z, -, -, -, -⟩ := V_z.quad.facts
              go_wp2_with fail
              refine (Co.out _ _ _ _ _ _ _ _ _ V_y.num V_y.den V_z.num V_z.den).mono ?_
              rintro e wx16 ⟨v, rfl, hI, hb⟩
              obtain ⟨Ar16, cr16, Br16, er16, rfl, i1, i2, -⟩ := hI.form
              have hn := FV.new i1.rawAt i2.rawAt
              have ha := (Below.refl wx16.heap.size wx16).alloc (Nat.le_refl _) (.cells #[.bool (decide (No < 0)), .slice Ar16 (natL No.natAbs).length cr16, .bool (decide (Do < 0)), .slice Br16 (natL Do.natAbs).length er16] 26)
              have F := Hd (((F.out.below hb).below ha).add hn (fun _ _ => FV.below))
              clear l_y a_y b_y c_y d_y l_z a_z b_z c_z d_z V_y V_z
              clear hI i1 i2 hb hn ha
              go_upto_region 19 with fail
              obtain ⟨wy16, E⟩ : ∃ W, W = wx16.alloc (.cells #[.bool (decide (No < 0)), .slice Ar16 (natL No.natAbs).length cr16, .bool (decide (Do < 0)), .slice Br16 (natL Do.natAbs).length er16] 26) := ⟨_, rfl⟩
              obtain ⟨q16, hq⟩ : ∃ q, q = wx16.heap.size := ⟨_, rfl⟩
              rw [← E, ← hq] at F ⊢
              clear E hq
              obtain ⟨f1, f2, f3⟩ := HF.out
              rcases ans_cases EU.out.1 EU.out.2.1 EU.out.2.2 with ⟨hk, hn, hd, l1, l2⟩ | ⟨hk, hn, hd⟩
              · as_aux_lemma =>
                  rcases ans_cases EO.out.1 EO.out.2.1 EO.out.2.2 with ⟨hk2, hn2, hd2, l3, l4⟩ | ⟨hk2, hn2, hd2⟩
                  · as_aux_lemma =>
                      have fu := fine_mul f1 f3 hn hd l1 l2
                      have fo := fine_mul f2 f3 hn2 hd2 l3 l4
                      have gg := mul_over n m p f1.pos f2.pos f3.pos
                      have Ct := Hd (show OpC 13 Nu Du No Do Nm Dm Km from add_c fu fo (by rw [EM.out.1, ED.out.1, ED.out.2, hn, hd, hn2, hd2, gg.1, gg.2]) (by rw [EM.out.2.1, ED.out.1, ED.out.2, hn, hd, hn2, hd2, gg.1, gg.2]) (by rw [EM.out.2.2, ED.out.1, ED.out.2, hn, hd, hn2, hd2, gg.1, gg.2]))
                      subst hk hk2
                      clear hn hd l1 l2 hn2 hd2 l3 l4 fu fo gg f1 f2 f3
                      obtain ⟨V_o, V_u, -⟩ := F.out.h
                      obtain ⟨l_u, a_u, b_u, c_u, d_u, -, -, -, -⟩ := V_u.quad.facts
                      obtain ⟨l_o, a_o, b_o, c_o, d_o, -, -, -, -⟩ := V_o.quad.facts
                      go_wp2_with fail
                      refine (Ct.out _ _ _ _ _ _ _ _ _ V_u.num V_u.den V_o.num V_o.den).mono ?_
                      rintro e wx17 ⟨v, rfl, hI, hb⟩
                      obtain ⟨Ar17, cr17, Br17, er17, rfl, i1, i2, -⟩ := hI.form
                      have hn := FV.new i1.rawAt i2.rawAt
                      have ha := (Below.refl wx17.heap.size wx17).alloc (Nat.le_refl _) (.cells #[.bool (decide (Nm < 0)), .slice Ar17 (natL Nm.natAbs).length cr17, .bool (decide (Dm < 0)), .slice Br17 (natL Dm.natAbs).length er17] 26)
                      have F := Hd (((F.out.below hb).below ha).add hn (fun _ _ => FV.below))
                      clear l_u a_u b_u c_u d_u l_o a_o b_o c_o d_o V_o V_u
                      clear hI i1 i2 hb hn ha
                      go_upto_region 21 with fail
                      obtain ⟨wy17, E⟩ : ∃ W, W = wx17.alloc (.cells #[.bool (decide (Nm < 0)), .slice Ar17 (natL Nm.natAbs).length cr17, .bool (decide (Dm < 0)), .slice Br17 (natL Dm.natAbs).length er17] 26) := ⟨_, rfl⟩
                      obtain ⟨q17, hq⟩ : ∃ q, q = wx17.heap.size := ⟨_, rfl⟩
                      rw [← E, ← hq] at F ⊢
                      clear E hq
                      obtain ⟨V_t, -, -, V_m, -⟩ := F.out.h
                      obtain ⟨l_m, a_m, b_m, c_m, d_m, -, -, -, -⟩ := V_m.quad.facts
                      obtain ⟨l_t, a_t, b_t, c_t, d_t, -, -, -, -⟩ := V_t.quad.facts
                      go_wp2_with fail
                      refine (Lm.out _ _ _ _ _ _ _ _ _ V_m.num V_m.den V_t.num V_t.den).mono ?_
                      rintro e wx18 ⟨rfl, hb⟩
                      have F := Hd (F.out.below hb)
                      clear l_m a_m b_m c_m d_m l_t a_t b_t c_t d_t V_m V_t
                      clear hb
                      obtain ⟨-, -, -, -, -, -, -, -, HC, -⟩ := F.out.h
                      go_wp2_with fail
                      go_meet
                      case rel => exact HC
                  · as_aux_lemma =>
                      subst hk hk2
                      clear hn hd l1 l2 hn2 hd2 f1 f2 f3
                      obtain ⟨-, -, -, -, -, -, -, HC, -⟩ := F.out.h
                      go_wp2_with fail
                      go_meet
                      case rel => exact HC
              · as_aux_lemma =>
                  subst hk
                  clear hn hd f1 f2 f3
                  obtain ⟨-, -, -, -, -, -, -, HC, -⟩ := F.out.h
                  go_wp2_with fail
                  go_meet
                  case rel => exact HC
          · as_aux_lemma =>
              have Cr := Hd (show OpC 13 n d Nq Dq Nq Dq 1 from by rw [hn, hd]; exact add_none_c f1)
              subst hk
              clear hn hd f1 f2 f3
              obtain ⟨V_q, -, -, -, -, -, -, -, -, V_x, -⟩ := F.out.h
              obtain ⟨l_x, a_x, b_x, c_x, d_x, -, -, -, -⟩ := V_x.quad.facts
              obtain ⟨l_q, a_q, b_q, c_q, d_q, -, -, -, -⟩ := V_q.quad.facts
              go_wp2_with fail
              refine (Cr.out _ _ _ _ _ _ _ _ _ V_x.num V_x.den V_q.num V_q.den).mono ?_
              rintro e wx10 ⟨v, rfl, hI, hb⟩
              obtain ⟨Ar10, cr10, Br10, er10, rfl, i1, i2, -⟩ := hI.form
              have hn := FV.new i1.rawAt i2.rawAt
              have ha := (Below.refl wx10.heap.size wx10).alloc (Nat.le_refl _) (.cells #[.bool (decide (Nq < 0)), .slice Ar10 (natL Nq.natAbs).length cr10, .bool (decide (Dq < 0)), .slice Br10 (natL Dq.natAbs).length er10] 26)
              have F := Hd (((F.out.below hb).below ha).add hn (fun _ _ => FV.below))
              clear l_x a_x b_x c_x d_x l_q a_q b_q c_q d_q V_q V_x
              clear hI i1 i2 hb hn ha
              go_upto_region 13 with fail
              obtain ⟨wy10, E⟩ : ∃ W, W = wx10.alloc (.cells #[.bool (decide (Nq < 0)), .slice Ar10 (natL Nq.natAbs).length cr10, .bool (decide (Dq < 0)), .slice Br10 (natL Dq.natAbs).length er10] 26) := ⟨_, rfl⟩
              obtain ⟨q10, hq⟩ : ∃ q, q = wx10.heap.size := ⟨_, rfl⟩
              rw [← E, ← hq] at F ⊢
              clear E hq
              obtain ⟨-, -, -, -, -, -, -, V_a, -, V_y, -⟩ := F.out.h
              obtain ⟨l_a, a_a, b_a, c_a, d_a, -, -, -, -⟩ := V_a.quad.facts
              obtain ⟨l_y, a_y, b_y, c_y, d_y, -, -, -, -⟩ := V_y.quad.facts
              go_wp2_with fail
              refine (Cs.out _ _ _ _ _ _ _ _ _ V_a.num V_a.den V_y.num V_y.den).mono ?_
              rintro e wx11 ⟨v, rfl, hI, hb⟩
              obtain ⟨Ar11, cr11, Br11, er11, rfl, i1, i2, -⟩ := hI.form
              have hn := FV.new i1.rawAt i2.rawAt
              have ha := (Below.refl wx11.heap.size wx11).alloc (Nat.le_refl _) (.cells #[.bool (decide (n < 0)), .slice Ar11 (natL n.natAbs).length cr11, .bool (decide (d < 0)), .slice Br11 (natL d.natAbs).length er11] 26)
              have F := Hd (((F.out.below hb).below ha).add hn (fun _ _ => FV.below))
              clear l_a a_a b_a c_a d_a l_y a_y b_y c_y d_y V_a V_y
              clear hI i1 i2 hb hn ha
              go_upto_region 14 with fail
              obtain ⟨wy11, E⟩ : ∃ W, W = wx11.alloc (.cells #[.bool (decide (n < 0)), .slice Ar11 (natL n.natAbs).length cr11, .bool (decide (d < 0)), .slice Br11 (natL d.natAbs).length er11] 26) := ⟨_, rfl⟩
              obtain ⟨q11, hq⟩ : ∃ q, q = wx11.heap.size := ⟨_, rfl⟩
              rw [← E, ← hq] at F ⊢
              clear E hq
              obtain ⟨V_s, -, -, -, -, -, -, -, -, -, -, V_x, -⟩ := F.out.h
              obtain ⟨l_s, a_s, b_s, c_s, d_s, -, -, -, -⟩ := V_s.quad.facts
              obtain ⟨l_x, a_x, b_x, c_x, d_x, -, -, -, -⟩ := V_x.quad.facts
              go_wp2_with fail
              refine (Lx.out _ _ _ _ _ _ _ _ _ V_s.num V_s.den V_x.num V_x.den).mono ?_
              rintro e wx12 ⟨rfl, hb⟩
              have F := Hd (F.out.below hb)
              clear l_s a_s b_s c_s d_s l_x a_x b_x c_x d_x V_s V_x
              clear hb
              go_upto_region 16 with fail
              obtain ⟨-, -, -, -, -, -, -, -, V_a, V_z, -⟩ := F.out.h
              obtain ⟨l_a, a_a, b_a, c_a, d_a, -, -, -, -⟩ := V_a.quad.facts
              obtain ⟨l_z, a_z, b_z, c_z, d_z, -, -, -, -⟩ := V_z.quad.facts
              go_wp2_with fail
              refine (Cm.out _ _ _ _ _ _ _ _ _ V_a.num V_a.den V_z.num V_z.den).mono ?_
              rintro e wx13 ⟨v, rfl, hI, hb⟩
              obtain ⟨Ar13, cr13, Br13, er13, rfl, i1, i2, -⟩ := hI.form
              have hn := FV.new i1.rawAt i2.rawAt
              have ha := (Below.refl wx13.heap.size wx13).alloc (Nat.le_refl _) (.cells #[.bool (decide (Nm < 0)), .slice Ar13 (natL Nm.natAbs).length cr13, .bool (decide (Dm < 0)), .slice Br13 (natL Dm.natAbs).length er13] 26)
              have F := Hd (((F.out.below hb).below ha).add hn (fun _ _ => FV.below))
              clear l_a a_a b_a c_a d_a l_z a_z b_z c_z d_z V_a V_z
              clear hI i1 i2 hb hn ha
              go_upto_region 17 with fail
              obtain ⟨wy13, E⟩ : ∃ W, W = wx13.alloc (.cells #[.bool (decide (Nm < 0)), .slice Ar13 (natL Nm.natAbs).length cr13, .bool (decide (Dm < 0)), .slice Br13 (natL Dm.natAbs).length er13] 26) := ⟨_, rfl⟩
              obtain ⟨q13, hq⟩ : ∃ q, q = wx13.heap.size := ⟨_, rfl⟩
              rw [← E, ← hq] at F ⊢
              clear E hq
              obtain ⟨-, -, -, -, -, -, -, -, -, -, V_z, -, V_x, -⟩ := F.out.h
              obtain ⟨l_x, a_x, b_x, c_x, d_x, -, -, -, -⟩ := V_x.quad.facts
              obtain ⟨l_z, a_z, b_z, c_z, d_z, -, -, -, -⟩ := V_z.quad.facts
              go_wp2_with fail
              refine (Cu.out _ _ _ _ _ _ _ _ _ V_x.num V_x.den V_z.num V_z.den).mono ?_
              rintro e wx14 ⟨v, rfl, hI, hb⟩
              obtain ⟨Ar14, cr14, Br14, er14, rfl, i1, i2, -⟩ := hI.form
              have hn := FV.new i1.rawAt i2.rawAt
              have ha := (Below.refl wx14.heap.size wx14).alloc (Nat.le_refl _) (.cells #[.bool (decide (Nu < 0)), .slice Ar14 (natL Nu.natAbs).length cr14, .bool (decide (Du < 0)), .slice Br14 (natL Du.natAbs).length er14] 26)
              have F := Hd (((F.out.below hb).below ha).add hn (fun _ _ => FV.below))
              clear l_x a_x b_x c_x d_x l_z a_z b_z c_z d_z V_x V_z
              clear hI i1 i2 hb hn ha
              go_upto_region 18 with fail
              obtain ⟨wy14, E⟩ : ∃ W, W = wx14.alloc (.cells #[.bool (decide (Nu < 0)), .slice Ar14 (natL Nu.natAbs).length cr14, .bool (decide (Du < 0)), .slice Br14 (natL Du.natAbs).length er14] 26) := ⟨_, rfl⟩
              obtain ⟨q14, hq⟩ : ∃ q, q = wx14.heap.size := ⟨_, rfl⟩
              rw [← E, ← hq] at F ⊢
              clear E hq
              obtain ⟨-, -, -, -, -, -, -, -, -, -, -, V_z, V_y, -⟩ := F.out.h
              obtain ⟨l_y, a_y, b_y, c_y, d_y, -, -, -, -⟩ := V_y.quad.facts
              obtain ⟨l_z, a_z, b_z, c_z, d_z, -, -, -, -⟩ := V_z.quad.facts
              go_wp2_with fail
              refine (Co.out _ _ _ _ _ _ _ _ _ V_y.num V_y.den V_z.num V_z.den).mono ?_
              rintro e wx15 ⟨v, rfl, hI, hb⟩
              obtain ⟨Ar15, cr15, Br15, er15, rfl, i1, i2, -⟩ := hI.form
              have hn := FV.new i1.rawAt i2.rawAt
              have ha := (Below.refl wx15.heap.size wx15).alloc (Nat.le_refl _) (.cells #[.bool (decide (No < 0)), .slice Ar15 (natL No.natAbs).length cr15, .bool (decide (Do < 0)), .slice Br15 (natL Do.natAbs).length er15] 26)
              have F := Hd (((F.out.below hb).below ha).add hn (fun _ _ => FV.below))
              clear l_y a_y b_y c_y d_y l_z a_z b_z c_z d_z V_y V_z
              clear hI i1 i2 hb hn ha
              go_upto_region 19 with fail
              obtain ⟨wy15, E⟩ : ∃ W, W = wx15.alloc (.cells #[.bool (decide (No < 0)), .slice Ar15 (natL No.natAbs).length cr15, .bool (decide (Do < 0)), .slice Br15 (natL Do.natAbs).length er15] 26) := ⟨_, rfl⟩
              obtain ⟨q15, hq⟩ : ∃ q, q = wx15.heap.size := ⟨_, rfl⟩
              rw [← E, ← hq] at F ⊢
              clear E hq
              obtain ⟨f1, f2, f3⟩ := HF.out
              rcases ans_cases EU.out.1 EU.out.2.1 EU.out.2.2 with ⟨hk, hn, hd, l1, l2⟩ | ⟨hk, hn, hd⟩
              · as_aux_lemma =>
                  rcases ans_cases EO.out.1 EO.out.2.1 EO.out.2.2 with ⟨hk2, hn2, hd2, l3, l4⟩ | ⟨hk2, hn2, hd2⟩
                  · as_aux_lemma =>
                      have fu := fine_mul f1 f3 hn hd l1 l2
                      have fo := fine_mul f2 f3 hn2 hd2 l3 l4
                      have gg := mul_over n m p f1.pos f2.pos f3.pos
                      have Ct := Hd (show OpC 13 Nu Du No Do Nm Dm Km from add_c fu fo (by rw [EM.out.1, ED.out.1, ED.out.2, hn, hd, hn2, hd2, gg.1, gg.2]) (by rw [EM.out.2.1, ED.out.1, ED.out.2, hn, hd, hn2, hd2, gg.1, gg.2]) (by rw [EM.out.2.2, ED.out.1, ED.out.2, hn, hd, hn2, hd2, gg.1, gg.2]))
                      subst hk hk2
                      clear hn hd l1 l2 hn2 hd2 l3 l4 fu fo gg f1 f2 f3
                      obtain ⟨V_o, V_u, -⟩ := F.out.h
                      obtain ⟨l_u, a_u, b_u, c_u, d_u, -, -, -, -⟩ := V_u.quad.facts
                      obtain ⟨l_o, a_o, b_o, c_o, d_o, -, -, -, -⟩ := V_o.quad.facts
                      go_wp2_with fail
                      refine (Ct.out _ _ _ _ _ _ _ _ _ V_u.num V_u.den V_o.num V_o.den).mono ?_
                      rintro e wx16 ⟨v, rfl, hI, hb⟩
                      obtain ⟨Ar16, cr16, Br16, er16, rfl, i1, i2, -⟩ := hI.form
                      have hn := FV.new i1.rawAt i2.rawAt
                      have ha := (Below.refl wx16.heap.size wx16).alloc (Nat.le_refl _) (.cells #[.bool (decide (Nm < 0)), .slice Ar16 (natL Nm.natAbs).length cr16, .bool (decide (Dm < 0)), .slice Br16 (natL Dm.natAbs).length er16] 26)
                      have F := Hd (((F.out.below hb).below ha).add hn (fun _ _ => FV.below))
                      clear l_u a_u b_u c_u d_u l_o a_o b_o c_o d_o V_o V_u
                      clear hI i1 i2 hb hn ha
                      go_upto_region 21 with fail
                      obtain ⟨wy16, E⟩ : ∃ W, W = wx16.alloc (.cells #[.bool (decide (Nm < 0)), .slice Ar16 (natL Nm.natAbs).length cr16, .bool (decide (Dm < 0)), .slice Br16 (natL Dm.natAbs).length er16] 26) := ⟨_, rfl⟩
                      obtain ⟨q16, hq⟩ : ∃ q, q = wx16.heap.size := ⟨_, rfl⟩
                      rw [← E, ← hq] at F ⊢
                      clear E hq
                      obtain ⟨V_t, -, -, V_m, -⟩ := F.out.h
                      obtain ⟨l_m, a_m, b_m, c_m, d_m, -, -, -, -⟩ := V_m.quad.facts
                      obtain ⟨l_t, a_t, b_t, c_t, d_t, -, -, -, -⟩ := V_t.quad.facts
                      go_wp2_with fail
                      refine (Lm.out _ _ _ _ _ _ _ _ _ V_m.num V_m.den V_t.num V_t.den).mono ?_
                      rintro e wx17 ⟨rfl, hb⟩
                      have F := Hd (F.out.below hb)
                      clear l_m a_m b_m c_m d_m l_t a_t b_t c_t d_t V_m V_t
                      clear hb
                      obtain ⟨-, -, -, -, -, -, -, -, HC, -⟩ := F.out.h
                      go_wp2_with fail
                      go_meet
                      case rel => exact HC
                  · as_aux_lemma =>
                      subst hk hk2
                      clear hn hd l1 l2 hn2 hd2 f1 f2 f3
                      obtain ⟨-, -, -, -, -, -, -, HC, -⟩ := F.out.h
                      go_wp2_with fail
                      go_meet
                      case rel => exact HC
              · as_aux_lemma =>
                  subst hk
                  clear hn hd f1 f2 f3
                  obtain ⟨-, -, -, -, -, -, -, HC, -⟩ := F.out.h
                  go_wp2_with fail
                  go_meet
                  case rel => exact HC
      · as_aux_lemma =>
          subst hk
          clear hn hd f1 f2 f3
          obtain ⟨HC, -⟩ := F.out.h
          go_wp2_with fail
          go_meet
          case rel => exact HC
    case rest => as_aux_lemma =>
      have F := Hd (F.out.below hcut)
      clear hcut
      go_upto_if 202 with fail
      obtain ⟨yc48, E⟩ : ∃ Y, Y = wc := ⟨_, rfl⟩
      rw [← E] at F ⊢
      clear E
      go_cut [] (fun wc => Below yc48.heap.size yc48 wc)
      case first => as_aux_lemma =>
        have F := Hd (F.out.add (Below.refl yc48.heap.size yc48) (fun _ _ a b => belowTo a b))
        obtain ⟨f1, f2, f3⟩ := HF.out
        rcases ans_cases EC.out.1 EC.out.2.1 EC.out.2.2 with ⟨hk, hn, hd, l1, l2⟩ | ⟨hk, hn, hd⟩
        · as_aux_lemma =>
            have fc := fine_mul f1 f2 hn hd l1 l2
            subst hk
            obtain ⟨Np, hNp⟩ : ∃ k : Int, k = ansN (mulN Nc Dc p g) (mulD Nc Dc p g) := ⟨_, rfl⟩
            obtain ⟨Dp, hDp⟩ : ∃ k : Int, k = ansD (mulN Nc Dc p g) (mulD Nc Dc p g) := ⟨_, rfl⟩
            obtain ⟨Kp, hKp⟩ : ∃ k : Int, k = ansK (mulN Nc Dc p g) (mulD Nc Dc p g) := ⟨_, rfl⟩
            obtain ⟨No, hNo⟩ : ∃ k : Int, k = ansN (mulN m f p g) (mulD m f p g) := ⟨_, rfl⟩
            obtain ⟨Do, hDo⟩ : ∃ k : Int, k = ansD (mulN m f p g) (mulD m f p g) := ⟨_, rfl⟩
            obtain ⟨Ko, hKo⟩ : ∃ k : Int, k = ansK (mulN m f p g) (mulD m f p g) := ⟨_, rfl⟩
            have Cp := Hd (mul_c fc f3 hNp hDp hKp)
            have Co := Hd (mul_c f2 f3 hNo hDo hKo)
            have Lp := Hd (like_mul fc f3 hNp hDp hKp)
            have Lx := Hd (like_fine f1)
            have Cy := Hd (sign_c f2)
            have FC := Hd fc
            have EP := Hd (And.intro hNp (And.intro hDp hKp))
            have EO := Hd (And.intro hNo (And.intro hDo hKo))
            have ED := Hd (And.intro hn hd)
            clear hn hd l1 l2 fc f1 f2 f3 hNp hDp hKp hNo hDo hKo
            obtain ⟨-, -, V_c, -, -, V_z, -⟩ := F.out.h
            obtain ⟨l_c, a_c, b_c, c_c, d_c, -, -, -, -⟩ := V_c.quad.facts
            obtain ⟨l_z, a_z, b_z, c_z, d_z, -, -, -, -⟩ := V_z.quad.facts
            go_wp2_with fail
            refine (Cp.out _ _ _ _ _ _ _ _ _ V_c.num V_c.den V_z.num V_z.den).mono ?_
            rintro e wx49 ⟨v, rfl, hI, hb⟩
            obtain ⟨Ar49, cr49, Br49, er49, rfl, i1, i2, -⟩ := hI.form
            have hn := FV.new i1.rawAt i2.rawAt
            have ha := (Below.refl wx49.heap.size wx49).alloc (Nat.le_refl _) (.cells #[.bool (decide (Np < 0)), .slice Ar49 (natL Np.natAbs).length cr49, .bool (decide (Dp < 0)), .slice Br49 (natL Dp.natAbs).length er49] 26)
            have F := Hd (((F.out.below hb).below ha).add hn (fun _ _ => FV.below))
            clear l_c a_c b_c c_c d_c l_z a_z b_z c_z d_z V_c V_z
            clear hI i1 i2 hb hn ha
            go_upto_region 25 with fail
            obtain ⟨wy49, E⟩ : ∃ W, W = wx49.alloc (.cells #[.bool (decide (Np < 0)), .slice Ar49 (natL Np.natAbs).length cr49, .bool (decide (Dp < 0)), .slice Br49 (natL Dp.natAbs).length er49] 26) := ⟨_, rfl⟩
            obtain ⟨q49, hq⟩ : ∃ q, q = wx49.heap.size := ⟨_, rfl⟩
            rw [← E, ← hq] at F ⊢
            clear E hq
            obtain ⟨-, -, -, -, -, -, V_z, V_y, -⟩ := F.out.h
            obtain ⟨l_y, a_y, b_y, c_y, d_y, -, -, -, -⟩ := V_y.quad.facts
            obtain ⟨l_z, a_z, b_z, c_z, d_z, -, -, -, -⟩ := V_z.quad.facts
            go_wp2_with fail
            refine (Co.out _ _ _ _ _ _ _ _ _ V_y.num V_y.den V_z.num V_z.den).mono ?_
            rintro e wx50 ⟨v, rfl, hI, hb⟩
            obtain ⟨Ar50, cr50, Br50, er50, rfl, i1, i2, -⟩ := hI.form
            have hn := FV.new i1.rawAt i2.rawAt
            have ha := (Below.refl wx50.heap.size wx50).alloc (Nat.le_refl _) (.cells #[.bool (decide (No < 0)), .slice Ar50 (natL No.natAbs).length cr50, .bool (decide (Do < 0)), .slice Br50 (natL Do.natAbs).length er50] 26)
            have F := Hd (((F.out.below hb).below ha).add hn (fun _ _ => FV.below))
            clear l_y a_y b_y c_y d_y l_z a_z b_z c_z d_z V_y V_z
            clear hI i1 i2 hb hn ha
            go_upto_region 26 with fail
            obtain ⟨wy50, E⟩ : ∃ W, W = wx50.alloc (.cells #[.bool (decide (No < 0)), .slice Ar50 (natL No.natAbs).length cr50, .bool (decide (Do < 0)), .slice Br50 (natL Do.natAbs).length er50] 26) := ⟨_, rfl⟩
            obtain ⟨q50, hq⟩ : ∃ q, q = wx50.heap.size := ⟨_, rfl⟩
            rw [← E, ← hq] at F ⊢
            clear E hq
            obtain ⟨f1, f2, f3⟩ := HF.out
            rcases ans_cases EO.out.1 EO.out.2.1 EO.out.2.2 with ⟨hk, hn, hd, l1, l2⟩ | ⟨hk, hn, hd⟩
            · as_aux_lemma =>
                have fo := fine_mul f2 f3 hn hd l1 l2
                have gg := mul_group n m p f1.pos f2.pos f3.pos
                have Cr := Hd (show OpC 14 n d No Do Np Dp Kp from mul_c f1 fo (by rw [EP.out.1, ED.out.1, ED.out.2, hn, hd, gg.1, gg.2]) (by rw [EP.out.2.1, ED.out.1, ED.out.2, hn, hd, gg.1, gg.2]) (by rw [EP.out.2.2, ED.out.1, ED.out.2, hn, hd, gg.1, gg.2]))
                subst hk
                clear hn hd l1 l2 fo gg f1 f2 f3
                obtain ⟨V_o, -, -, -, -, -, -, -, -, V_x, -⟩ := F.out.h
                obtain ⟨l_x, a_x, b_x, c_x, d_x, -, -, -, -⟩ := V_x.quad.facts
                obtain ⟨l_o, a_o, b_o, c_o, d_o, -, -, -, -⟩ := V_o.quad.facts
                go_wp2_with fail
                refine (Cr.out _ _ _ _ _ _ _ _ _ V_x.num V_x.den V_o.num V_o.den).mono ?_
                rintro e wx51 ⟨v, rfl, hI, hb⟩
                obtain ⟨Ar51, cr51, Br51, er51, rfl, i1, i2, -⟩ := hI.form
                have hn := FV.new i1.rawAt i2.rawAt
                have ha := (Below.refl wx51.heap.size wx51).alloc (Nat.le_refl _) (.cells #[.bool (decide (Np < 0)), .slice Ar51 (natL Np.natAbs).length cr51, .bool (decide (Dp < 0)), .slice Br51 (natL Dp.natAbs).length er51] 26)
                have F := Hd (((F.out.below hb).below ha).add hn (fun _ _ => FV.below))
                clear l_x a_x b_x c_x d_x l_o a_o b_o c_o d_o V_o V_x
                clear hI i1 i2 hb hn ha
                go_upto_region 27 with fail
                obtain ⟨wy51, E⟩ : ∃ W, W = wx51.alloc (.cells #[.bool (decide (Np < 0)), .slice Ar51 (natL Np.natAbs).length cr51, .bool (decide (Dp < 0)), .slice Br51 (natL Dp.natAbs).length er51] 26) := ⟨_, rfl⟩
                obtain ⟨q51, hq⟩ : ∃ q, q = wx51.heap.size := ⟨_, rfl⟩
                rw [← E, ← hq] at F ⊢
                clear E hq
                obtain ⟨V_r, -, V_p, -⟩ := F.out.h
                obtain ⟨l_p, a_p, b_p, c_p, d_p, -, -, -, -⟩ := V_p.quad.facts
                obtain ⟨l_r, a_r, b_r, c_r, d_r, -, -, -, -⟩ := V_r.quad.facts
                go_wp2_with fail
                refine (Lp.out _ _ _ _ _ _ _ _ _ V_p.num V_p.den V_r.num V_r.den).mono ?_
                rintro e wx52 ⟨rfl, hb⟩
                have F := Hd (F.out.below hb)
                clear l_p a_p b_p c_p d_p l_r a_r b_r c_r d_r V_p V_r
                clear hb
                go_upto_region 29 with fail
                obtain ⟨f1, f2, f3⟩ := HF.out
                by_cases hm : m = 0
                · as_aux_lemma =>
                    obtain ⟨N0, hN0⟩ : ∃ k : Int, k = 0 := ⟨_, rfl⟩
                    have Ct := Hd (show OpC 16 Nc Dc m f N0 N0 3 from by rw [hN0]; exact quo_nought_c FC.out f2 hm)
                    clear hN0
                    have HM := Hd (show (0 : Int) = m.sign from by rw [hm]; rfl)
                    clear hm f1 f2 f3
                    rw [← HM.out] at Cy
                    obtain ⟨-, -, -, -, -, V_c, -, -, -, V_y, -⟩ := F.out.h
                    obtain ⟨l_c, a_c, b_c, c_c, d_c, -, -, -, -⟩ := V_c.quad.facts
                    obtain ⟨l_y, a_y, b_y, c_y, d_y, -, -, -, -⟩ := V_y.quad.facts
                    go_wp2_with fail
                    refine (Ct.out _ _ _ _ _ _ _ _ _ V_c.num V_c.den V_y.num V_y.den).mono ?_
                    rintro e wx53 ⟨v, rfl, hI, hb⟩
                    obtain ⟨Ar53, cr53, Br53, er53, rfl, i1, i2, -⟩ := hI.form
                    have hn := FV.new i1.rawAt i2.rawAt
                    have ha := (Below.refl wx53.heap.size wx53).alloc (Nat.le_refl _) (.cells #[.bool (decide (N0 < 0)), .slice Ar53 (natL N0.natAbs).length cr53, .bool (decide (N0 < 0)), .slice Br53 (natL N0.natAbs).length er53] 26)
                    have F := Hd (((F.out.below hb).below ha).add hn (fun _ _ => FV.below))
                    clear l_c a_c b_c c_c d_c l_y a_y b_y c_y d_y V_c V_y
                    clear hI i1 i2 hb hn ha
                    go_upto_region 30 with fail
                    obtain ⟨wy53, E⟩ : ∃ W, W = wx53.alloc (.cells #[.bool (decide (N0 < 0)), .slice Ar53 (natL N0.natAbs).length cr53, .bool (decide (N0 < 0)), .slice Br53 (natL N0.natAbs).length er53] 26) := ⟨_, rfl⟩
                    obtain ⟨q53, hq⟩ : ∃ q, q = wx53.heap.size := ⟨_, rfl⟩
                    rw [← E, ← hq] at F ⊢
                    clear E hq
                    obtain ⟨-, -, -, -, -, -, -, -, -, -, V_y, -⟩ := F.out.h
                    obtain ⟨l_y, a_y, b_y, c_y, d_y, -, -, -, -⟩ := V_y.quad.facts
                    go_wp2_with fail
                    refine (Cy.out _ _ _ _ _ V_y.num V_y.den).mono ?_
                    rintro e wx54 ⟨rfl, hb⟩
                    have F := Hd (F.out.below hb)
                    clear l_y a_y b_y c_y d_y V_y
                    clear hb
                    obtain ⟨-, -, -, -, -, -, -, -, -, -, V_y, -⟩ := F.out.h
                    obtain ⟨l_y, a_y, b_y, c_y, d_y, -, -, -, -⟩ := V_y.quad.facts
                    go_wp2_with fail
                    refine (Cy.out _ _ _ _ _ V_y.num V_y.den).mono ?_
                    rintro e wx55 ⟨rfl, hb⟩
                    have F := Hd (F.out.below hb)
                    clear l_y a_y b_y c_y d_y V_y
                    clear hb
                    obtain ⟨-, -, -, -, HC, -⟩ := F.out.h
                    go_wp2_with fail
                    go_meet
                    case rel => exact HC
                · as_aux_lemma =>
                    have Ct := Hd (quo_back_c f1 f2 FC.out ED.out.1 ED.out.2 hm)
                    obtain ⟨s, hs⟩ : ∃ k : Int, k = m.sign := ⟨_, rfl⟩
                    rw [← hs] at Cy
                    have hs0 : (s == 0) = false := by rw [hs]; simpa using hm
                    have hs1 : (s != 0) = true := by rw [hs]; simpa using hm
                    have HS0 := Hd hs0
                    have HS1 := Hd hs1
                    clear hm f1 f2 f3 hs hs0 hs1
                    obtain ⟨-, -, -, -, -, V_c, -, -, -, V_y, -⟩ := F.out.h
                    obtain ⟨l_c, a_c, b_c, c_c, d_c, -, -, -, -⟩ := V_c.quad.facts
                    obtain ⟨l_y, a_y, b_y, c_y, d_y, -, -, -, -⟩ := V_y.quad.facts
                    go_wp2_with fail
                    refine (Ct.out _ _ _ _ _ _ _ _ _ V_c.num V_c.den V_y.num V_y.den).mono ?_
                    rintro e wx53 ⟨v, rfl, hI, hb⟩
                    obtain ⟨Ar53, cr53, Br53, er53, rfl, i1, i2, -⟩ := hI.form
                    have hn := FV.new i1.rawAt i2.rawAt
                    have ha := (Below.refl wx53.heap.size wx53).alloc (Nat.le_refl _) (.cells #[.bool (decide (n < 0)), .slice Ar53 (natL n.natAbs).length cr53, .bool (decide (d < 0)), .slice Br53 (natL d.natAbs).length er53] 26)
                    have F := Hd (((F.out.below hb).below ha).add hn (fun _ _ => FV.below))
                    clear l_c a_c b_c c_c d_c l_y a_y b_y c_y d_y V_c V_y
                    clear hI i1 i2 hb hn ha
                    go_upto_region 30 with fail
                    obtain ⟨wy53, E⟩ : ∃ W, W = wx53.alloc (.cells #[.bool (decide (n < 0)), .slice Ar53 (natL n.natAbs).length cr53, .bool (decide (d < 0)), .slice Br53 (natL d.natAbs).length er53] 26) := ⟨_, rfl⟩
                    obtain ⟨q53, hq⟩ : ∃ q, q = wx53.heap.size := ⟨_, rfl⟩
                    rw [← E, ← hq] at F ⊢
                    clear E hq
                    obtain ⟨-, -, -, -, -, -, -, -, -, -, V_y, -⟩ := F.out.h
                    obtain ⟨l_y, a_y, b_y, c_y, d_y, -, -, -, -⟩ := V_y.quad.facts
                    go_wp2_with fail
                    refine (Cy.out _ _ _ _ _ V_y.num V_y.den).mono ?_
                    rintro e wx54 ⟨rfl, hb⟩
                    have F := Hd (F.out.below hb)
                    clear l_y a_y b_y c_y d_y V_y
                    clear hb
                    have hs1 := HS1.out
                    have hs0 := HS0.out
                    obtain ⟨V_t, -, -, -, -, -, -, -, -, -, -, V_x, -⟩ := F.out.h
                    obtain ⟨l_t, a_t, b_t, c_t, d_t, -, -, -, -⟩ := V_t.quad.facts
                    obtain ⟨l_x, a_x, b_x, c_x, d_x, -, -, -, -⟩ := V_x.quad.facts
                    go_wp2_with fail
                    refine (Lx.out _ _ _ _ _ _ _ _ _ V_t.num V_t.den V_x.num V_x.den).mono ?_
                    rintro e wx55 ⟨rfl, hb⟩
                    have F := Hd (F.out.below hb)
                    clear l_t a_t b_t c_t d_t l_x a_x b_x c_x d_x V_t V_x
                    clear hb
                    obtain ⟨-, -, -, -, -, -, -, -, -, -, V_y, -⟩ := F.out.h
                    obtain ⟨l_y, a_y, b_y, c_y, d_y, -, -, -, -⟩ := V_y.quad.facts
                    go_wp2_with fail
                    refine (Cy.out _ _ _ _ _ V_y.num V_y.den).mono ?_
                    rintro e wx56 ⟨rfl, hb⟩
                    have F := Hd (F.out.below hb)
                    clear l_y a_y b_y c_y d_y V_y
                    clear hb
                    obtain ⟨-, -, -, -, HC, -⟩ := F.out.h
                    go_wp2_with fail
                    go_meet
                    case rel => exact HC
            · as_aux_lemma =>
                have Cr := Hd (show OpC 14 n d No Do No Do 1 from by rw [hn, hd]; exact mul_none_c f1)
                subst hk
                clear hn hd f1 f2 f3
                obtain ⟨V_o, -, -, -, -, -, -, -, -, V_x, -⟩ := F.out.h
                obtain ⟨l_x, a_x, b_x, c_x, d_x, -, -, -, -⟩ := V_x.quad.facts
                obtain ⟨l_o, a_o, b_o, c_o, d_o, -, -, -, -⟩ := V_o.quad.facts
                go_wp2_with fail
                refine (Cr.out _ _ _ _ _ _ _ _ _ V_x.num V_x.den V_o.num V_o.den).mono ?_
                rintro e wx51 ⟨v, rfl, hI, hb⟩
                obtain ⟨Ar51, cr51, Br51, er51, rfl, i1, i2, -⟩ := hI.form
                have hn := FV.new i1.rawAt i2.rawAt
                have ha := (Below.refl wx51.heap.size wx51).alloc (Nat.le_refl _) (.cells #[.bool (decide (No < 0)), .slice Ar51 (natL No.natAbs).length cr51, .bool (decide (Do < 0)), .slice Br51 (natL Do.natAbs).length er51] 26)
                have F := Hd (((F.out.below hb).below ha).add hn (fun _ _ => FV.below))
                clear l_x a_x b_x c_x d_x l_o a_o b_o c_o d_o V_o V_x
                clear hI i1 i2 hb hn ha
                go_upto_region 27 with fail
                obtain ⟨wy51, E⟩ : ∃ W, W = wx51.alloc (.cells #[.bool (decide (No < 0)), .slice Ar51 (natL No.natAbs).length cr51, .bool (decide (Do < 0)), .slice Br51 (natL Do.natAbs).length er51] 26) := ⟨_, rfl⟩
                obtain ⟨q51, hq⟩ : ∃ q, q = wx51.heap.size := ⟨_, rfl⟩
                rw [← E, ← hq] at F ⊢
                clear E hq
                go_upto_region 29 with fail
                obtain ⟨f1, f2, f3⟩ := HF.out
                by_cases hm : m = 0
                · as_aux_lemma =>
                    obtain ⟨N0, hN0⟩ : ∃ k : Int, k = 0 := ⟨_, rfl⟩
                    have Ct := Hd (show OpC 16 Nc Dc m f N0 N0 3 from by rw [hN0]; exact quo_nought_c FC.out f2 hm)
                    clear hN0
                    have HM := Hd (show (0 : Int) = m.sign from by rw [hm]; rfl)
                    clear hm f1 f2 f3
                    rw [← HM.out] at Cy
                    obtain ⟨-, -, -, -, -, V_c, -, -, -, V_y, -⟩ := F.out.h
                    obtain ⟨l_c, a_c, b_c, c_c, d_c, -, -, -, -⟩ := V_c.quad.facts
                    obtain ⟨l_y, a_y, b_y, c_y, d_y, -, -, -, -⟩ := V_y.quad.facts
                    go_wp2_with fail
                    refine (Ct.out _ _ _ _ _ _ _ _ _ V_c.num V_c.den V_y.num V_y.den).mono ?_
                    rintro e wx52 ⟨v, rfl, hI, hb⟩
                    obtain ⟨Ar52, cr52, Br52, er52, rfl, i1, i2, -⟩ := hI.form
                    have hn := FV.new i1.rawAt i2.rawAt
                    have ha := (Below.refl wx52.heap.size wx52).alloc (Nat.le_refl _) (.cells #[.bool (decide (N0 < 0)), .slice Ar52 (natL N0.natAbs).length cr52, .bool (decide (N0 < 0)), .slice Br52 (natL N0.natAbs).length er52] 26)
                    have F := Hd (((F.out.below hb).below ha).add hn (fun _ _ => FV.below))
                    clear l_c a_c b_c c_c d_c l_y a_y b_y c_y d_y V_c V_y
                    clear hI i1 i2 hb hn ha
                    go_upto_region 30 with fail
                    obtain ⟨wy52, E⟩ : ∃ W, W = wx52.alloc (.cells #[.bool (decide (N0 < 0)), .slice Ar52 (natL N0.natAbs).length cr52, .bool (decide (N0 < 0)), .slice Br52 (natL N0.natAbs).length er52] 26) := ⟨_, rfl⟩
                    obtain ⟨q52, hq⟩ : ∃ q, q = wx52.heap.size := ⟨_, rfl⟩
                    rw [← E, ← hq] at F ⊢
                    clear E hq
                    obtain ⟨-, -, -, -, -, -, -, -, -, -, V_y, -⟩ := F.out.h
                    obtain ⟨l_y, a_y, b_y, c_y, d_y, -, -, -, -⟩ := V_y.quad.facts
                    go_wp2_with fail
                    refine (Cy.out _ _ _ _ _ V_y.num V_y.den).mono ?_
                    rintro e wx53 ⟨rfl, hb⟩
                    have F := Hd (F.out.below hb)
                    clear l_y a_y b_y c_y d_y V_y
                    clear hb
                    obtain ⟨-, -, -, -, -, -, -, -, -, -, V_y, -⟩ := F.out.h
                    obtain ⟨l_y, a_y, b_y, c_y, d_y, -, -, -, -⟩ := V_y.quad.facts
                    go_wp2_with fail
                    refine (Cy.out _ _ _ _ _ V_y.num V_y.den).mono ?_
                    rintro e wx54 ⟨rfl, hb⟩
                    have F := Hd (F.out.below hb)
                    clear l_y a_y b_y c_y d_y V_y
                    clear hb
                    obtain ⟨-, -, -, -, HC, -⟩ := F.out.h
                    go_wp2_with fail
                    go_meet
                    case rel => exact HC
                · as_aux_lemma =>
                    have Ct := Hd (quo_back_c f1 f2 FC.out ED.out.1 ED.out.2 hm)
                    obtain ⟨s, hs⟩ : ∃ k : Int, k = m.sign := ⟨_, rfl⟩
                    rw [← hs] at Cy
                    have hs0 : (s == 0) = false := by rw [hs]; simpa using hm
                    have hs1 : (s != 0) = true := by rw [hs]; simpa using hm
                    have HS0 := Hd hs0
                    have HS1 := Hd hs1
                    clear hm f1 f2 f3 hs hs0 hs1
                    obtain ⟨-, -, -, -, -, V_c, -, -, -, V_y, -⟩ := F.out.h
                    obtain ⟨l_c, a_c, b_c, c_c, d_c, -, -, -, -⟩ := V_c.quad.facts
                    obtain ⟨l_y, a_y, b_y, c_y, d_y, -, -, -, -⟩ := V_y.quad.facts
                    go_wp2_with fail
                    refine (Ct.out _ _ _ _ _ _ _ _ _ V_c.num V_c.den V_y.num V_y.den).mono ?_
                    rintro e wx52 ⟨v, rfl, hI, hb⟩
                    obtain ⟨Ar52, cr52, Br52, er52, rfl, i1, i2, -⟩ := hI.form
                    have hn := FV.new i1.rawAt i2.rawAt
                    have ha := (Below.refl wx52.heap.size wx52).alloc (Nat.le_refl _) (.cells #[.bool (decide (n < 0)), .slice Ar52 (natL n.natAbs).length cr52, .bool (decide (d < 0)), .slice Br52 (natL d.natAbs).length er52] 26)
                    have F := Hd (((F.out.below hb).below ha).add hn (fun _ _ => FV.below))
                    clear l_c a_c b_c c_c d_c l_y a_y b_y c_y d_y V_c V_y
                    clear hI i1 i2 hb hn ha
                    go_upto_region 30 with fail
                    obtain ⟨wy52, E⟩ : ∃ W, W = wx52.alloc (.cells #[.bool (decide (n < 0)), .slice Ar52 (natL n.natAbs).length cr52, .bool (decide (d < 0)), .slice Br52 (natL d.natAbs).length er52] 26) := ⟨_, rfl⟩
                    obtain ⟨q52, hq⟩ : ∃ q, q = wx52.heap.size := ⟨_, rfl⟩
                    rw [← E, ← hq] at F ⊢
                    clear E hq
                    obtain ⟨-, -, -, -, -, -, -, -, -, -, V_y, -⟩ := F.out.h
                    obtain ⟨l_y, a_y, b_y, c_y, d_y, -, -, -, -⟩ := V_y.quad.facts
                    go_wp2_with fail
                    refine (Cy.out _ _ _ _ _ V_y.num V_y.den).mono ?_
                    rintro e wx53 ⟨rfl, hb⟩
                    have F := Hd (F.out.below hb)
                    clear l_y a_y b_y c_y d_y V_y
                    clear hb
                    have hs1 := HS1.out
                    have hs0 := HS0.out
                    obtain ⟨V_t, -, -, -, -, -, -, -, -, -, -, V_x, -⟩ := F.out.h
                    obtain ⟨l_t, a_t, b_t, c_t, d_t, -, -, -, -⟩ := V_t.quad.facts
                    obtain ⟨l_x, a_x, b_x, c_x, d_x, -, -, -, -⟩ := V_x.quad.facts
                    go_wp2_with fail
                    refine (Lx.out _ _ _ _ _ _ _ _ _ V_t.num V_t.den V_x.num V_x.den).mono ?_
                    rintro e wx54 ⟨rfl, hb⟩
                    have F := Hd (F.out.below hb)
                    clear l_t a_t b_t c_t d_t l_x a_x b_x c_x d_x V_t V_x
                    clear hb
                    obtain ⟨-, -, -, -, -, -, -, -, -, -, V_y, -⟩ := F.out.h
                    obtain ⟨l_y, a_y, b_y, c_y, d_y, -, -, -, -⟩ := V_y.quad.facts
                    go_wp2_with fail
                    refine (Cy.out _ _ _ _ _ V_y.num V_y.den).mono ?_
                    rintro e wx55 ⟨rfl, hb⟩
                    have F := Hd (F.out.below hb)
                    clear l_y a_y b_y c_y d_y V_y
                    clear hb
                    obtain ⟨-, -, -, -, HC, -⟩ := F.out.h
                    go_wp2_with fail
                    go_meet
                    case rel => exact HC
        · as_aux_lemma =>
            subst hk
            clear hn hd f1 f2 f3
            obtain ⟨HC, -⟩ := F.out.h
            go_wp2_with fail
            go_meet
            case rel => exact HC
      case rest => as_aux_lemma =>
        have F := Hd (F.out.below hcut)
        clear hcut
        obtain ⟨-, -, -, -, -, -, -, HT, HB⟩ := F.out.h
        go_wp2_with fail
        refine (lives_ours _ HT).mono ?_
        rintro e w9 ⟨rfl, hb⟩
        have HF9 := Hd (belowTo HB hb)
        clear hb HT HB
        go_wp2_with fail
        go_ret
        exact ⟨rfl, HF9.out⟩

theorem fring_true (n1 n2 n3 n4 n5 n6 : Bool) (A B A2 B2 A3 B3 : Option Addr) (c e0 c2 e2 c3 e3 : Nat) (xs ys us vs ps qs : List Nat) (w : World) (hx : Raw w A c xs) (kx : Raw w B e0 ys) (hy : Raw w A2 c2 us) (ky : Raw w B2 e2 vs) (hz : Raw w A3 c3 ps) (kz : Raw w B3 e3 qs) (htab : powTab w) (hlx : xs.length ≤ 1152921504606846975) (hly : ys.length ≤ 1152921504606846975) (hlu : us.length ≤ 1152921504606846975) (hlv : vs.length ≤ 1152921504606846975) (hlp : ps.length ≤ 1152921504606846975) (hlq : qs.length ≤ 1152921504606846975) :
    Calls Tryd.prog 4 #[.agg #[.bool n1, .slice A xs.length c, .bool n2, .slice B ys.length e0], .agg #[.bool n3, .slice A2 us.length c2, .bool n4, .slice B2 vs.length e2], .agg #[.bool n5, .slice A3 ps.length c3, .bool n6, .slice B3 qs.length e3]] w fun e w' => e = .returned (.bool true) ∧ Below w.heap.size w w' := by
  have lx := hx.limbs
  have lkx := kx.limbs
  have ly := hy.limbs
  have lky := ky.limbs
  have lz' := hz.limbs
  have lkz := kz.limbs
  rcases Bool.eq_false_or_eq_true (decide (1048576 < [fcost xs.length ys.length, fcost us.length vs.length, fcost ps.length qs.length].sum)) with hb | hb
  · exact fring_bad_b n1 n2 n3 n4 n5 n6 A B A2 B2 A3 B3 c e0 c2 e2 c3 e3 xs ys us vs ps qs w hx kx hy ky hz kz htab hlx hly hlu hlv hlp hlq hb
  · rcases chkE_either n1 n2 xs ys with k1 | k1
    · rcases chkE_either n3 n4 us vs with k2 | k2
      · rcases chkE_either n5 n6 ps qs with k3 | k3
        · obtain ⟨n, d, f1, rfl, rfl, rfl, rfl⟩ := fine_of lx lkx k1
          obtain ⟨m, f, f2, rfl, rfl, rfl, rfl⟩ := fine_of ly lky k2
          obtain ⟨p, g, f3, rfl, rfl, rfl, rfl⟩ := fine_of lz' lkz k3
          exact fring_ok n d m f p g A B A2 B2 A3 B3 c e0 c2 e2 c3 e3 w hx kx hy ky hz kz htab hlx hly hlu hlv hlp hlq hb f1 f2 f3
        · exact fring_bad_z n1 n2 n3 n4 n5 n6 A B A2 B2 A3 B3 c e0 c2 e2 c3 e3 xs ys us vs ps qs w hx kx hy ky hz kz htab hlx hly hlu hlv hlp hlq hb k1 k2 k3
      · exact fring_bad_y n1 n2 n3 n4 n5 n6 A B A2 B2 A3 B3 c e0 c2 e2 c3 e3 xs ys us vs ps qs w hx kx hy ky hz kz htab hlx hly hlu hlv hlp hlq hb k1 k2
    · exact fring_bad_x n1 n2 n3 n4 n5 n6 A B A2 B2 A3 B3 c e0 c2 e2 c3 e3 xs ys us vs ps qs w hx kx hy ky hz kz htab hlx hly hlu hlv hlp hlq hb k1
end Go.Proofs.YtadmoheohmbieaaDoor
