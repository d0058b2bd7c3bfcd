/- Several texts in one: FOrderW. -/
import Derived.Test.YtadmoheohmbieaaDoorBo28
import Derived.Test.YtadmoheohmbieaaDoorBo29
set_option maxRecDepth 100000
set_option maxHeartbeats 8000000
/- FracOrder: the walk. (Written by wip/frac/genforder.py.) -/
namespace Go.Proofs.YtadmoheohmbieaaDoor
open Go.RowKit

theorem chkE_two (n1 n2 : Bool) (xs ys : List Nat) : chkE n1 n2 xs ys = 0 ∨ chkE n1 n2 xs ys = 1 := by
  unfold chkE
  split <;> (try split) <;> simp
theorem cmpz_three (a b : Int) : cmpz a b = -1 ∨ cmpz a b = 0 ∨ cmpz a b = 1 := by
  unfold cmpz
  split <;> (try split) <;> simp

theorem forder_bad_b (n1 n2 n3 n4 n5 n6 : Bool) (A B A2 B2 A3 B3 : Option Addr) (c e0 c2 e2 c3 e3 : Nat) (xs ys us vs ps qs : List Nat) (w : World) (hx : Raw w A c xs) (kx : Raw w B e0 ys) (hy : Raw w A2 c2 us) (ky : Raw w B2 e2 vs) (hz : Raw w A3 c3 ps) (kz : Raw w B3 e3 qs) (htab : powTab w) (hlx : xs.length ≤ 1152921504606846975) (hly : ys.length ≤ 1152921504606846975) (hlu : us.length ≤ 1152921504606846975) (hlv : vs.length ≤ 1152921504606846975) (hlp : ps.length ≤ 1152921504606846975) (hlq : qs.length ≤ 1152921504606846975) (hb : decide (1048576 < [fcost xs.length ys.length, fcost us.length vs.length, fcost ps.length qs.length].sum) = true)  :
    Calls Tryd.prog 3 #[.agg #[.bool n1, .slice A xs.length c, .bool n2, .slice B ys.length e0], .agg #[.bool n3, .slice A2 us.length c2, .bool n4, .slice B2 vs.length e2], .agg #[.bool n5, .slice A3 ps.length c3, .bool n6, .slice B3 qs.length e3]] w fun e w' => e = .returned (.bool true) ∧ Below w.heap.size w w' := by
  have C1 := fun (V : World) (a1 : Raw V A c xs) (a2 : Raw V B e0 ys) => frac_cost n1 n2 A B c e0 _ _ hlx hly V a1 a2
  have C2 := fun (V : World) (a1 : Raw V A2 c2 us) (a2 : Raw V B2 e2 vs) => frac_cost n3 n4 A2 B2 c2 e2 _ _ hlu hlv V a1 a2
  have C3 := fun (V : World) (a1 : Raw V A3 c3 ps) (a2 : Raw V B3 e3 qs) => frac_cost n5 n6 A3 B3 c3 e3 _ _ hlp hlq V a1 a2
  have h1 := fcost_le hlx hly
  have h2 := fcost_le hlu hlv
  have h3 := fcost_le hlp hlq
  obtain ⟨s1, q1⟩ : ∃ k : Nat, k = fcost xs.length ys.length := ⟨_, rfl⟩
  obtain ⟨s2, q2⟩ : ∃ k : Nat, k = fcost us.length vs.length := ⟨_, rfl⟩
  obtain ⟨s3, q3⟩ : ∃ k : Nat, k = fcost ps.length qs.length := ⟨_, rfl⟩
  rw [← q1] at C1 h1
  rw [← q2] at C2 h2
  rw [← q3] at C3 h3
  rw [← q1, ← q2, ← q3] at hb
  have H4 := Hd (fun (u : Value) (V : World) (h : SliceOf [s1, s2, s3] u V) => beyond_of2 [s1, s2, s3] true (by simp) (by simp; omega) hb.symm u V h)
  have H1 := Hd C1
  have H2 := Hd C2
  have H3 := Hd C3
  clear C1 C2 C3 h1 h2 h3 q1 q2 q3 hb hlx hly hlu hlv hlp hlq
  have b0 := (((Below.refl w.heap.size w).alloc (Nat.le_refl _) (.cells #[.bool n1, .slice A xs.length c, .bool n2, .slice B ys.length e0] 26)).alloc (by simp) (.cells #[.bool n3, .slice A2 us.length c2, .bool n4, .slice B2 vs.length e2] 26)).alloc (by simp; omega) (.cells #[.bool n5, .slice A3 ps.length c3, .bool n6, .slice B3 qs.length e3] 26)
  have p0 := ((Quad.new w (.bool n1) (.slice A xs.length c) (.bool n2) (.slice B ys.length e0)).alloc (.cells #[.bool n3, .slice A2 us.length c2, .bool n4, .slice B2 vs.length e2] 26)).alloc (.cells #[.bool n5, .slice A3 ps.length c3, .bool n6, .slice B3 qs.length e3] 26)
  have p1 := (Quad.new (w.alloc (.cells #[.bool n1, .slice A xs.length c, .bool n2, .slice B ys.length e0] 26)) (.bool n3) (.slice A2 us.length c2) (.bool n4) (.slice B2 vs.length e2)).alloc (.cells #[.bool n5, .slice A3 ps.length c3, .bool n6, .slice B3 qs.length e3] 26)
  have p2 := Quad.new ((w.alloc (.cells #[.bool n1, .slice A xs.length c, .bool n2, .slice B ys.length e0] 26)).alloc (.cells #[.bool n3, .slice A2 us.length c2, .bool n4, .slice B2 vs.length e2] 26)) (.bool n5) (.slice A3 ps.length c3) (.bool n6) (.slice B3 qs.length e3)
  simp only [World.size_alloc] at p1 p2
  have PX := Hd p0
  have PY := Hd p1
  have PZ := Hd p2
  have RX := Hd (hx.below b0)
  have KX := Hd (kx.below b0)
  have RY := Hd (hy.below b0)
  have KY := Hd (ky.below b0)
  have RZ := Hd (hz.below b0)
  have KZ := Hd (kz.below b0)
  have HT := Hd (htab.below2 b0)
  have HB := Hd b0
  clear b0 p0 p1 p2 hx kx hy ky hz kz htab
  go_enter Tryd.func3, Tryd.ntmps3
  go_wp2_with fail
  obtain ⟨W, E⟩ : ∃ W, W = ((w.alloc (.cells #[.bool n1, .slice A xs.length c, .bool n2, .slice B ys.length e0] 26)).alloc (.cells #[.bool n3, .slice A2 us.length c2, .bool n4, .slice B2 vs.length e2] 26)).alloc (.cells #[.bool n5, .slice A3 ps.length c3, .bool n6, .slice B3 qs.length e3] 26) := ⟨_, rfl⟩
  rw [← E] at PX PY PZ RX KX RY KY RZ KZ HT HB ⊢
  clear E
  refine wp_region_free [.val (.agg #[.bool n1, .slice A xs.length c, .bool n2, .slice B ys.length e0]) [], .val (.int .i64 s1) [], .val (.agg #[.bool n3, .slice A2 us.length c2, .bool n4, .slice B2 vs.length e2]) [], .val (.int .i64 s2) [], .val (.agg #[.bool n5, .slice A3 ps.length c3, .bool n6, .slice B3 qs.length e3]) [], .val (.int .i64 s3) [], .any false (SliceOf [s1, s2, s3]) [], .val (.bool true) [6], .val (.bool true) [], .skip, .skip, .skip, .val (.bool true) [], .val (.bool true) [], .skip, .skip, .skip, .val (.bool true) [], .val (.bool true) [], .skip, .skip, .skip, .val (.bool true) []] W.heap.size W [] blkInt _ mixedOrders2 (Nat.le_refl _) (Below.refl _ _) (KeptV.refl _ _ _) rfl (by kernel_rfl) (by kernel_rfl) (by kernel_rfl) (by kernel_rfl) (by kernel_rfl) (by kernel_rfl) (by kernel_rfl) (by kernel_rfl) rfl (by simp [oldsF]) ?_ ?_ ?_ ?_
  · simp only [StableF, and_true]
    exact fun u V V' h k => h.kept k
  · simp only [OldsF]
  · simp (maxSteps := 4000000) [StepsF, DepF, freeAct, fill, pairs]
    repeat' (first | apply And.intro | (intro (u : Value)) | (intro (u : Nat)))
    all_goals first
    | (intro V hV hK; clear hV hK; go_simp; exact Below.refl _ _)
    | (intro V hV hK
       have r1 := RX.out.below hV
       have r2 := KX.out.below hV
       have r3 := RY.out.below hV
       have r4 := KY.out.below hV
       have r5 := RZ.out.below hV
       have r6 := KZ.out.below hV
       obtain ⟨-, a_x, b_x, c_x, d_x, -, -, -, -⟩ := (PX.out.below hV).facts
       obtain ⟨-, a_y, b_y, c_y, d_y, -, -, -, -⟩ := (PY.out.below hV).facts
       obtain ⟨-, a_z, b_z, c_z, d_z, -, -, -, -⟩ := (PZ.out.below hV).facts
       clear hV hK
       go_simp
       first
       | exact Below.refl _ _
       | ((with_reducible refine (H1.out V r1 r2).mono ?_); rintro e w' ⟨rfl, hb⟩; exact ⟨rfl, hb⟩)
       | ((with_reducible refine (H2.out V r3 r4).mono ?_); rintro e w' ⟨rfl, hb⟩; exact ⟨rfl, hb⟩)
       | ((with_reducible refine (H3.out V r5 r6).mono ?_); rintro e w' ⟨rfl, hb⟩; exact ⟨rfl, hb⟩)
       | exact ⟨SliceOf.new [s1, s2, s3] _ _ _ rfl, (Below.refl _ _).alloc (Nat.le_refl _) _⟩)
    | (intro V hV hK h1
       clear hV hK
       go_simp
       refine (H4.out _ V h1).mono ?_
       rintro e w' ⟨rfl, hb⟩
       exact ⟨rfl, hb⟩)
  · simp [EndF, FactsF, freeAct, fill, pairs]
    intro u1 V hV hK _ _ _ _
    have PX := Hd (PX.out.below hV)
    have PY := Hd (PY.out.below hV)
    have PZ := Hd (PZ.out.below hV)
    have RX := Hd (RX.out.below hV)
    have KX := Hd (KX.out.below hV)
    have RY := Hd (RY.out.below hV)
    have KY := Hd (KY.out.below hV)
    have RZ := Hd (RZ.out.below hV)
    have KZ := Hd (KZ.out.below hV)
    have HT := Hd (HT.out.below2 hV)
    have HB := Hd (belowTo HB.out hV)
    clear hV hK H1 H2 H3 H4
    go_wp2_with fail
    refine (lives_ours V HT.out).mono ?_
    rintro e w9 ⟨rfl, hb⟩
    have HF := Hd (belowTo HB.out hb)
    clear hb
    go_wp2_with fail
    go_ret
    exact ⟨rfl, HF.out⟩

theorem forder_bad_x (n1 n2 n3 n4 n5 n6 : Bool) (A B A2 B2 A3 B3 : Option Addr) (c e0 c2 e2 c3 e3 : Nat) (xs ys us vs ps qs : List Nat) (w : World) (hx : Raw w A c xs) (kx : Raw w B e0 ys) (hy : Raw w A2 c2 us) (ky : Raw w B2 e2 vs) (hz : Raw w A3 c3 ps) (kz : Raw w B3 e3 qs) (htab : powTab w) (hlx : xs.length ≤ 1152921504606846975) (hly : ys.length ≤ 1152921504606846975) (hlu : us.length ≤ 1152921504606846975) (hlv : vs.length ≤ 1152921504606846975) (hlp : ps.length ≤ 1152921504606846975) (hlq : qs.length ≤ 1152921504606846975) (hb : decide (1048576 < [fcost xs.length ys.length, fcost us.length vs.length, fcost ps.length qs.length].sum) = false) (kx : chkE n1 n2 xs ys = 1) :
    Calls Tryd.prog 3 #[.agg #[.bool n1, .slice A xs.length c, .bool n2, .slice B ys.length e0], .agg #[.bool n3, .slice A2 us.length c2, .bool n4, .slice B2 vs.length e2], .agg #[.bool n5, .slice A3 ps.length c3, .bool n6, .slice B3 qs.length e3]] w fun e w' => e = .returned (.bool true) ∧ Below w.heap.size w w' := by
  have Dx := fun (V : World) (a1 : Raw V A c xs) (a2 : Raw V B e0 ys) => frac_Check n1 n2 A B c e0 xs ys V a1 a2
  rw [kx] at Dx
  have Ex := Hd Dx
  clear Dx kx
  have C1 := fun (V : World) (a1 : Raw V A c xs) (a2 : Raw V B e0 ys) => frac_cost n1 n2 A B c e0 _ _ hlx hly V a1 a2
  have C2 := fun (V : World) (a1 : Raw V A2 c2 us) (a2 : Raw V B2 e2 vs) => frac_cost n3 n4 A2 B2 c2 e2 _ _ hlu hlv V a1 a2
  have C3 := fun (V : World) (a1 : Raw V A3 c3 ps) (a2 : Raw V B3 e3 qs) => frac_cost n5 n6 A3 B3 c3 e3 _ _ hlp hlq V a1 a2
  have h1 := fcost_le hlx hly
  have h2 := fcost_le hlu hlv
  have h3 := fcost_le hlp hlq
  obtain ⟨s1, q1⟩ : ∃ k : Nat, k = fcost xs.length ys.length := ⟨_, rfl⟩
  obtain ⟨s2, q2⟩ : ∃ k : Nat, k = fcost us.length vs.length := ⟨_, rfl⟩
  obtain ⟨s3, q3⟩ : ∃ k : Nat, k = fcost ps.length qs.length := ⟨_, rfl⟩
  rw [← q1] at C1 h1
  rw [← q2] at C2 h2
  rw [← q3] at C3 h3
  rw [← q1, ← q2, ← q3] at hb
  have H4 := Hd (fun (u : Value) (V : World) (h : SliceOf [s1, s2, s3] u V) => beyond_of2 [s1, s2, s3] false (by simp) (by simp; omega) hb.symm u V h)
  have H1 := Hd C1
  have H2 := Hd C2
  have H3 := Hd C3
  clear C1 C2 C3 h1 h2 h3 q1 q2 q3 hb hlx hly hlu hlv hlp hlq
  have b0 := (((Below.refl w.heap.size w).alloc (Nat.le_refl _) (.cells #[.bool n1, .slice A xs.length c, .bool n2, .slice B ys.length e0] 26)).alloc (by simp) (.cells #[.bool n3, .slice A2 us.length c2, .bool n4, .slice B2 vs.length e2] 26)).alloc (by simp; omega) (.cells #[.bool n5, .slice A3 ps.length c3, .bool n6, .slice B3 qs.length e3] 26)
  have p0 := ((Quad.new w (.bool n1) (.slice A xs.length c) (.bool n2) (.slice B ys.length e0)).alloc (.cells #[.bool n3, .slice A2 us.length c2, .bool n4, .slice B2 vs.length e2] 26)).alloc (.cells #[.bool n5, .slice A3 ps.length c3, .bool n6, .slice B3 qs.length e3] 26)
  have p1 := (Quad.new (w.alloc (.cells #[.bool n1, .slice A xs.length c, .bool n2, .slice B ys.length e0] 26)) (.bool n3) (.slice A2 us.length c2) (.bool n4) (.slice B2 vs.length e2)).alloc (.cells #[.bool n5, .slice A3 ps.length c3, .bool n6, .slice B3 qs.length e3] 26)
  have p2 := Quad.new ((w.alloc (.cells #[.bool n1, .slice A xs.length c, .bool n2, .slice B ys.length e0] 26)).alloc (.cells #[.bool n3, .slice A2 us.length c2, .bool n4, .slice B2 vs.length e2] 26)) (.bool n5) (.slice A3 ps.length c3) (.bool n6) (.slice B3 qs.length e3)
  simp only [World.size_alloc] at p1 p2
  have PX := Hd p0
  have PY := Hd p1
  have PZ := Hd p2
  have RX := Hd (hx.below b0)
  have KX := Hd (kx.below b0)
  have RY := Hd (hy.below b0)
  have KY := Hd (ky.below b0)
  have RZ := Hd (hz.below b0)
  have KZ := Hd (kz.below b0)
  have HT := Hd (htab.below2 b0)
  have HB := Hd b0
  clear b0 p0 p1 p2 hx kx hy ky hz kz htab
  go_enter Tryd.func3, Tryd.ntmps3
  go_wp2_with fail
  obtain ⟨W, E⟩ : ∃ W, W = ((w.alloc (.cells #[.bool n1, .slice A xs.length c, .bool n2, .slice B ys.length e0] 26)).alloc (.cells #[.bool n3, .slice A2 us.length c2, .bool n4, .slice B2 vs.length e2] 26)).alloc (.cells #[.bool n5, .slice A3 ps.length c3, .bool n6, .slice B3 qs.length e3] 26) := ⟨_, rfl⟩
  rw [← E] at PX PY PZ RX KX RY KY RZ KZ HT HB ⊢
  clear E
  refine wp_region_free [.val (.agg #[.bool n1, .slice A xs.length c, .bool n2, .slice B ys.length e0]) [], .val (.int .i64 s1) [], .val (.agg #[.bool n3, .slice A2 us.length c2, .bool n4, .slice B2 vs.length e2]) [], .val (.int .i64 s2) [], .val (.agg #[.bool n5, .slice A3 ps.length c3, .bool n6, .slice B3 qs.length e3]) [], .val (.int .i64 s3) [], .any false (SliceOf [s1, s2, s3]) [], .val (.bool false) [6], .val (.bool false) [], .val (.agg #[.bool n1, .slice A xs.length c, .bool n2, .slice B ys.length e0]) [], .val (.int .i64 1) [], .val (.bool true) [], .val (.bool true) [], .val (.bool true) [], .skip, .skip, .skip, .val (.bool true) [], .val (.bool true) [], .skip, .skip, .skip, .val (.bool true) []] W.heap.size W [] blkInt _ mixedOrders2 (Nat.le_refl _) (Below.refl _ _) (KeptV.refl _ _ _) rfl (by kernel_rfl) (by kernel_rfl) (by kernel_rfl) (by kernel_rfl) (by kernel_rfl) (by kernel_rfl) (by kernel_rfl) (by kernel_rfl) rfl (by simp [oldsF]) ?_ ?_ ?_ ?_
  · simp only [StableF, and_true]
    exact fun u V V' h k => h.kept k
  · simp only [OldsF]
  · simp (maxSteps := 4000000) [StepsF, DepF, freeAct, fill, pairs]
    repeat' (first | apply And.intro | (intro (u : Value)) | (intro (u : Nat)))
    all_goals first
    | (intro V hV hK; clear hV hK; go_simp; exact Below.refl _ _)
    | (intro V hV hK
       have r1 := RX.out.below hV
       have r2 := KX.out.below hV
       have r3 := RY.out.below hV
       have r4 := KY.out.below hV
       have r5 := RZ.out.below hV
       have r6 := KZ.out.below hV
       obtain ⟨-, a_x, b_x, c_x, d_x, -, -, -, -⟩ := (PX.out.below hV).facts
       obtain ⟨-, a_y, b_y, c_y, d_y, -, -, -, -⟩ := (PY.out.below hV).facts
       obtain ⟨-, a_z, b_z, c_z, d_z, -, -, -, -⟩ := (PZ.out.below hV).facts
       clear hV hK
       go_simp
       first
       | exact Below.refl _ _
       | ((with_reducible refine (H1.out V r1 r2).mono ?_); rintro e w' ⟨rfl, hb⟩; exact ⟨rfl, hb⟩)
       | ((with_reducible refine (H2.out V r3 r4).mono ?_); rintro e w' ⟨rfl, hb⟩; exact ⟨rfl, hb⟩)
       | ((with_reducible refine (H3.out V r5 r6).mono ?_); rintro e w' ⟨rfl, hb⟩; exact ⟨rfl, hb⟩)
       | ((with_reducible refine (Ex.out V r1 r2).mono ?_); rintro e w' ⟨rfl, hb⟩; exact ⟨rfl, hb⟩)
       | exact ⟨SliceOf.new [s1, s2, s3] _ _ _ rfl, (Below.refl _ _).alloc (Nat.le_refl _) _⟩)
    | (intro V hV hK h1
       clear hV hK
       go_simp
       refine (H4.out _ V h1).mono ?_
       rintro e w' ⟨rfl, hb⟩
       exact ⟨rfl, hb⟩)
  · simp [EndF, FactsF, freeAct, fill, pairs]
    intro u1 V hV hK _ _ _ _
    have PX := Hd (PX.out.below hV)
    have PY := Hd (PY.out.below hV)
    have PZ := Hd (PZ.out.below hV)
    have RX := Hd (RX.out.below hV)
    have KX := Hd (KX.out.below hV)
    have RY := Hd (RY.out.below hV)
    have KY := Hd (KY.out.below hV)
    have RZ := Hd (RZ.out.below hV)
    have KZ := Hd (KZ.out.below hV)
    have HT := Hd (HT.out.below2 hV)
    have HB := Hd (belowTo HB.out hV)
    clear hV hK H1 H2 H3 H4 Ex
    go_wp2_with fail
    refine (lives_ours V HT.out).mono ?_
    rintro e w9 ⟨rfl, hb⟩
    have HF := Hd (belowTo HB.out hb)
    clear hb
    go_wp2_with fail
    go_ret
    exact ⟨rfl, HF.out⟩

theorem forder_bad_y (n1 n2 n3 n4 n5 n6 : Bool) (A B A2 B2 A3 B3 : Option Addr) (c e0 c2 e2 c3 e3 : Nat) (xs ys us vs ps qs : List Nat) (w : World) (hx : Raw w A c xs) (kx : Raw w B e0 ys) (hy : Raw w A2 c2 us) (ky : Raw w B2 e2 vs) (hz : Raw w A3 c3 ps) (kz : Raw w B3 e3 qs) (htab : powTab w) (hlx : xs.length ≤ 1152921504606846975) (hly : ys.length ≤ 1152921504606846975) (hlu : us.length ≤ 1152921504606846975) (hlv : vs.length ≤ 1152921504606846975) (hlp : ps.length ≤ 1152921504606846975) (hlq : qs.length ≤ 1152921504606846975) (hb : decide (1048576 < [fcost xs.length ys.length, fcost us.length vs.length, fcost ps.length qs.length].sum) = false) (kx : chkE n1 n2 xs ys = 0) (ky : chkE n3 n4 us vs = 1) :
    Calls Tryd.prog 3 #[.agg #[.bool n1, .slice A xs.length c, .bool n2, .slice B ys.length e0], .agg #[.bool n3, .slice A2 us.length c2, .bool n4, .slice B2 vs.length e2], .agg #[.bool n5, .slice A3 ps.length c3, .bool n6, .slice B3 qs.length e3]] w fun e w' => e = .returned (.bool true) ∧ Below w.heap.size w w' := by
  have Dx := fun (V : World) (a1 : Raw V A c xs) (a2 : Raw V B e0 ys) => frac_Check n1 n2 A B c e0 xs ys V a1 a2
  rw [kx] at Dx
  have Ex := Hd Dx
  clear Dx kx
  have Dy := fun (V : World) (a1 : Raw V A2 c2 us) (a2 : Raw V B2 e2 vs) => frac_Check n3 n4 A2 B2 c2 e2 us vs V a1 a2
  rw [ky] at Dy
  have Ey := Hd Dy
  clear Dy ky
  have C1 := fun (V : World) (a1 : Raw V A c xs) (a2 : Raw V B e0 ys) => frac_cost n1 n2 A B c e0 _ _ hlx hly V a1 a2
  have C2 := fun (V : World) (a1 : Raw V A2 c2 us) (a2 : Raw V B2 e2 vs) => frac_cost n3 n4 A2 B2 c2 e2 _ _ hlu hlv V a1 a2
  have C3 := fun (V : World) (a1 : Raw V A3 c3 ps) (a2 : Raw V B3 e3 qs) => frac_cost n5 n6 A3 B3 c3 e3 _ _ hlp hlq V a1 a2
  have h1 := fcost_le hlx hly
  have h2 := fcost_le hlu hlv
  have h3 := fcost_le hlp hlq
  obtain ⟨s1, q1⟩ : ∃ k : Nat, k = fcost xs.length ys.length := ⟨_, rfl⟩
  obtain ⟨s2, q2⟩ : ∃ k : Nat, k = fcost us.length vs.length := ⟨_, rfl⟩
  obtain ⟨s3, q3⟩ : ∃ k : Nat, k = fcost ps.length qs.length := ⟨_, rfl⟩
  rw [← q1] at C1 h1
  rw [← q2] at C2 h2
  rw [← q3] at C3 h3
  rw [← q1, ← q2, ← q3] at hb
  have H4 := Hd (fun (u : Value) (V : World) (h : SliceOf [s1, s2, s3] u V) => beyond_of2 [s1, s2, s3] false (by simp) (by simp; omega) hb.symm u V h)
  have H1 := Hd C1
  have H2 := Hd C2
  have H3 := Hd C3
  clear C1 C2 C3 h1 h2 h3 q1 q2 q3 hb hlx hly hlu hlv hlp hlq
  have b0 := (((Below.refl w.heap.size w).alloc (Nat.le_refl _) (.cells #[.bool n1, .slice A xs.length c, .bool n2, .slice B ys.length e0] 26)).alloc (by simp) (.cells #[.bool n3, .slice A2 us.length c2, .bool n4, .slice B2 vs.length e2] 26)).alloc (by simp; omega) (.cells #[.bool n5, .slice A3 ps.length c3, .bool n6, .slice B3 qs.length e3] 26)
  have p0 := ((Quad.new w (.bool n1) (.slice A xs.length c) (.bool n2) (.slice B ys.length e0)).alloc (.cells #[.bool n3, .slice A2 us.length c2, .bool n4, .slice B2 vs.length e2] 26)).alloc (.cells #[.bool n5, .slice A3 ps.length c3, .bool n6, .slice B3 qs.length e3] 26)
  have p1 := (Quad.new (w.alloc (.cells #[.bool n1, .slice A xs.length c, .bool n2, .slice B ys.length e0] 26)) (.bool n3) (.slice A2 us.length c2) (.bool n4) (.slice B2 vs.length e2)).alloc (.cells #[.bool n5, .slice A3 ps.length c3, .bool n6, .slice B3 qs.length e3] 26)
  have p2 := Quad.new ((w.alloc (.cells #[.bool n1, .slice A xs.length c, .bool n2, .slice B ys.length e0] 26)).alloc (.cells #[.bool n3, .slice A2 us.length c2, .bool n4, .slice B2 vs.length e2] 26)) (.bool n5) (.slice A3 ps.length c3) (.bool n6) (.slice B3 qs.length e3)
  simp only [World.size_alloc] at p1 p2
  have PX := Hd p0
  have PY := Hd p1
  have PZ := Hd p2
  have RX := Hd (hx.below b0)
  have KX := Hd (kx.below b0)
  have RY := Hd (hy.below b0)
  have KY := Hd (ky.below b0)
  have RZ := Hd (hz.below b0)
  have KZ := Hd (kz.below b0)
  have HT := Hd (htab.below2 b0)
  have HB := Hd b0
  clear b0 p0 p1 p2 hx kx hy ky hz kz htab
  go_enter Tryd.func3, Tryd.ntmps3
  go_wp2_with fail
  obtain ⟨W, E⟩ : ∃ W, W = ((w.alloc (.cells #[.bool n1, .slice A xs.length c, .bool n2, .slice B ys.length e0] 26)).alloc (.cells #[.bool n3, .slice A2 us.length c2, .bool n4, .slice B2 vs.length e2] 26)).alloc (.cells #[.bool n5, .slice A3 ps.length c3, .bool n6, .slice B3 qs.length e3] 26) := ⟨_, rfl⟩
  rw [← E] at PX PY PZ RX KX RY KY RZ KZ HT HB ⊢
  clear E
  refine wp_region_free [.val (.agg #[.bool n1, .slice A xs.length c, .bool n2, .slice B ys.length e0]) [], .val (.int .i64 s1) [], .val (.agg #[.bool n3, .slice A2 us.length c2, .bool n4, .slice B2 vs.length e2]) [], .val (.int .i64 s2) [], .val (.agg #[.bool n5, .slice A3 ps.length c3, .bool n6, .slice B3 qs.length e3]) [], .val (.int .i64 s3) [], .any false (SliceOf [s1, s2, s3]) [], .val (.bool false) [6], .val (.bool false) [], .val (.agg #[.bool n1, .slice A xs.length c, .bool n2, .slice B ys.length e0]) [], .val (.int .i64 0) [], .val (.bool false) [], .val (.bool false) [], .val (.bool false) [], .val (.agg #[.bool n3, .slice A2 us.length c2, .bool n4, .slice B2 vs.length e2]) [], .val (.int .i64 1) [], .val (.bool true) [], .val (.bool true) [], .val (.bool true) [], .skip, .skip, .skip, .val (.bool true) []] W.heap.size W [] blkInt _ mixedOrders2 (Nat.le_refl _) (Below.refl _ _) (KeptV.refl _ _ _) rfl (by kernel_rfl) (by kernel_rfl) (by kernel_rfl) (by kernel_rfl) (by kernel_rfl) (by kernel_rfl) (by kernel_rfl) (by kernel_rfl) rfl (by simp [oldsF]) ?_ ?_ ?_ ?_
  · simp only [StableF, and_true]
    exact fun u V V' h k => h.kept k
  · simp only [OldsF]
  · simp (maxSteps := 4000000) [StepsF, DepF, freeAct, fill, pairs]
    repeat' (first | apply And.intro | (intro (u : Value)) | (intro (u : Nat)))
    all_goals first
    | (intro V hV hK; clear hV hK; go_simp; exact Below.refl _ _)
    | (intro V hV hK
       have r1 := RX.out.below hV
       have r2 := KX.out.below hV
       have r3 := RY.out.below hV
       have r4 := KY.out.below hV
       have r5 := RZ.out.below hV
       have r6 := KZ.out.below hV
       obtain ⟨-, a_x, b_x, c_x, d_x, -, -, -, -⟩ := (PX.out.below hV).facts
       obtain ⟨-, a_y, b_y, c_y, d_y, -, -, -, -⟩ := (PY.out.below hV).facts
       obtain ⟨-, a_z, b_z, c_z, d_z, -, -, -, -⟩ := (PZ.out.below hV).facts
       clear hV hK
       go_simp
       first
       | exact Below.refl _ _
       | ((with_reducible refine (H1.out V r1 r2).mono ?_); rintro e w' ⟨rfl, hb⟩; exact ⟨rfl, hb⟩)
       | ((with_reducible refine (H2.out V r3 r4).mono ?_); rintro e w' ⟨rfl, hb⟩; exact ⟨rfl, hb⟩)
       | ((with_reducible refine (H3.out V r5 r6).mono ?_); rintro e w' ⟨rfl, hb⟩; exact ⟨rfl, hb⟩)
       | ((with_reducible refine (Ex.out V r1 r2).mono ?_); rintro e w' ⟨rfl, hb⟩; exact ⟨rfl, hb⟩)
       | ((with_reducible refine (Ey.out V r3 r4).mono ?_); rintro e w' ⟨rfl, hb⟩; exact ⟨rfl, hb⟩)
       | exact ⟨SliceOf.new [s1, s2, s3] _ _ _ rfl, (Below.refl _ _).alloc (Nat.le_refl _) _⟩)
    | (intro V hV hK h1
       clear hV hK
       go_simp
       refine (H4.out _ V h1).mono ?_
       rintro e w' ⟨rfl, hb⟩
       exact ⟨rfl, hb⟩)
  · simp [EndF, FactsF, freeAct, fill, pairs]
    intro u1 V hV hK _ _ _ _
    have PX := Hd (PX.out.below hV)
    have PY := Hd (PY.out.below hV)
    have PZ := Hd (PZ.out.below hV)
    have RX := Hd (RX.out.below hV)
    have KX := Hd (KX.out.below hV)
    have RY := Hd (RY.out.below hV)
    have KY := Hd (KY.out.below hV)
    have RZ := Hd (RZ.out.below hV)
    have KZ := Hd (KZ.out.below hV)
    have HT := Hd (HT.out.below2 hV)
    have HB := Hd (belowTo HB.out hV)
    clear hV hK H1 H2 H3 H4 Ex Ey
    go_wp2_with fail
    refine (lives_ours V HT.out).mono ?_
    rintro e w9 ⟨rfl, hb⟩
    have HF := Hd (belowTo HB.out hb)
    clear hb
    go_wp2_with fail
    go_ret
    exact ⟨rfl, HF.out⟩

theorem forder_bad_z (n1 n2 n3 n4 n5 n6 : Bool) (A B A2 B2 A3 B3 : Option Addr) (c e0 c2 e2 c3 e3 : Nat) (xs ys us vs ps qs : List Nat) (w : World) (hx : Raw w A c xs) (kx : Raw w B e0 ys) (hy : Raw w A2 c2 us) (ky : Raw w B2 e2 vs) (hz : Raw w A3 c3 ps) (kz : Raw w B3 e3 qs) (htab : powTab w) (hlx : xs.length ≤ 1152921504606846975) (hly : ys.length ≤ 1152921504606846975) (hlu : us.length ≤ 1152921504606846975) (hlv : vs.length ≤ 1152921504606846975) (hlp : ps.length ≤ 1152921504606846975) (hlq : qs.length ≤ 1152921504606846975) (hb : decide (1048576 < [fcost xs.length ys.length, fcost us.length vs.length, fcost ps.length qs.length].sum) = false) (kx : chkE n1 n2 xs ys = 0) (ky : chkE n3 n4 us vs = 0) (kz : chkE n5 n6 ps qs = 1) :
    Calls Tryd.prog 3 #[.agg #[.bool n1, .slice A xs.length c, .bool n2, .slice B ys.length e0], .agg #[.bool n3, .slice A2 us.length c2, .bool n4, .slice B2 vs.length e2], .agg #[.bool n5, .slice A3 ps.length c3, .bool n6, .slice B3 qs.length e3]] w fun e w' => e = .returned (.bool true) ∧ Below w.heap.size w w' := by
  have Dx := fun (V : World) (a1 : Raw V A c xs) (a2 : Raw V B e0 ys) => frac_Check n1 n2 A B c e0 xs ys V a1 a2
  rw [kx] at Dx
  have Ex := Hd Dx
  clear Dx kx
  have Dy := fun (V : World) (a1 : Raw V A2 c2 us) (a2 : Raw V B2 e2 vs) => frac_Check n3 n4 A2 B2 c2 e2 us vs V a1 a2
  rw [ky] at Dy
  have Ey := Hd Dy
  clear Dy ky
  have Dz := fun (V : World) (a1 : Raw V A3 c3 ps) (a2 : Raw V B3 e3 qs) => frac_Check n5 n6 A3 B3 c3 e3 ps qs V a1 a2
  rw [kz] at Dz
  have Ez := Hd Dz
  clear Dz kz
  have C1 := fun (V : World) (a1 : Raw V A c xs) (a2 : Raw V B e0 ys) => frac_cost n1 n2 A B c e0 _ _ hlx hly V a1 a2
  have C2 := fun (V : World) (a1 : Raw V A2 c2 us) (a2 : Raw V B2 e2 vs) => frac_cost n3 n4 A2 B2 c2 e2 _ _ hlu hlv V a1 a2
  have C3 := fun (V : World) (a1 : Raw V A3 c3 ps) (a2 : Raw V B3 e3 qs) => frac_cost n5 n6 A3 B3 c3 e3 _ _ hlp hlq V a1 a2
  have h1 := fcost_le hlx hly
  have h2 := fcost_le hlu hlv
  have h3 := fcost_le hlp hlq
  obtain ⟨s1, q1⟩ : ∃ k : Nat, k = fcost xs.length ys.length := ⟨_, rfl⟩
  obtain ⟨s2, q2⟩ : ∃ k : Nat, k = fcost us.length vs.length := ⟨_, rfl⟩
  obtain ⟨s3, q3⟩ : ∃ k : Nat, k = fcost ps.length qs.length := ⟨_, rfl⟩
  rw [← q1] at C1 h1
  rw [← q2] at C2 h2
  rw [← q3] at C3 h3
  rw [← q1, ← q2, ← q3] at hb
  have H4 := Hd (fun (u : Value) (V : World) (h : SliceOf [s1, s2, s3] u V) => beyond_of2 [s1, s2, s3] false (by simp) (by simp; omega) hb.symm u V h)
  have H1 := Hd C1
  have H2 := Hd C2
  have H3 := Hd C3
  clear C1 C2 C3 h1 h2 h3 q1 q2 q3 hb hlx hly hlu hlv hlp hlq
  have b0 := (((Below.refl w.heap.size w).alloc (Nat.le_refl _) (.cells #[.bool n1, .slice A xs.length c, .bool n2, .slice B ys.length e0] 26)).alloc (by simp) (.cells #[.bool n3, .slice A2 us.length c2, .bool n4, .slice B2 vs.length e2] 26)).alloc (by simp; omega) (.cells #[.bool n5, .slice A3 ps.length c3, .bool n6, .slice B3 qs.length e3] 26)
  have p0 := ((Quad.new w (.bool n1) (.slice A xs.length c) (.bool n2) (.slice B ys.length e0)).alloc (.cells #[.bool n3, .slice A2 us.length c2, .bool n4, .slice B2 vs.length e2] 26)).alloc (.cells #[.bool n5, .slice A3 ps.length c3, .bool n6, .slice B3 qs.length e3] 26)
  have p1 := (Quad.new (w.alloc (.cells #[.bool n1, .slice A xs.length c, .bool n2, .slice B ys.length e0] 26)) (.bool n3) (.slice A2 us.length c2) (.bool n4) (.slice B2 vs.length e2)).alloc (.cells #[.bool n5, .slice A3 ps.length c3, .bool n6, .slice B3 qs.length e3] 26)
  have p2 := Quad.new ((w.alloc (.cells #[.bool n1, .slice A xs.length c, .bool n2, .slice B ys.length e0] 26)).alloc (.cells #[.bool n3, .slice A2 us.length c2, .bool n4, .slice B2 vs.length e2] 26)) (.bool n5) (.slice A3 ps.length c3) (.bool n6) (.slice B3 qs.length e3)
  simp only [World.size_alloc] at p1 p2
  have PX := Hd p0
  have PY := Hd p1
  have PZ := Hd p2
  have RX := Hd (hx.below b0)
  have KX := Hd (kx.below b0)
  have RY := Hd (hy.below b0)
  have KY := Hd (ky.below b0)
  have RZ := Hd (hz.below b0)
  have KZ := Hd (kz.below b0)
  have HT := Hd (htab.below2 b0)
  have HB := Hd b0
  clear b0 p0 p1 p2 hx kx hy ky hz kz htab
  go_enter Tryd.func3, Tryd.ntmps3
  go_wp2_with fail
  obtain ⟨W, E⟩ : ∃ W, W = ((w.alloc (.cells #[.bool n1, .slice A xs.length c, .bool n2, .slice B ys.length e0] 26)).alloc (.cells #[.bool n3, .slice A2 us.length c2, .bool n4, .slice B2 vs.length e2] 26)).alloc (.cells #[.bool n5, .slice A3 ps.length c3, .bool n6, .slice B3 qs.length e3] 26) := ⟨_, rfl⟩
  rw [← E] at PX PY PZ RX KX RY KY RZ KZ HT HB ⊢
  clear E
  refine wp_region_free [.val (.agg #[.bool n1, .slice A xs.length c, .bool n2, .slice B ys.length e0]) [], .val (.int .i64 s1) [], .val (.agg #[.bool n3, .slice A2 us.length c2, .bool n4, .slice B2 vs.length e2]) [], .val (.int .i64 s2) [], .val (.agg #[.bool n5, .slice A3 ps.length c3, .bool n6, .slice B3 qs.length e3]) [], .val (.int .i64 s3) [], .any false (SliceOf [s1, s2, s3]) [], .val (.bool false) [6], .val (.bool false) [], .val (.agg #[.bool n1, .slice A xs.length c, .bool n2, .slice B ys.length e0]) [], .val (.int .i64 0) [], .val (.bool false) [], .val (.bool false) [], .val (.bool false) [], .val (.agg #[.bool n3, .slice A2 us.length c2, .bool n4, .slice B2 vs.length e2]) [], .val (.int .i64 0) [], .val (.bool false) [], .val (.bool false) [], .val (.bool false) [], .val (.agg #[.bool n5, .slice A3 ps.length c3, .bool n6, .slice B3 qs.length e3]) [], .val (.int .i64 1) [], .val (.bool true) [], .val (.bool true) []] W.heap.size W [] blkInt _ mixedOrders2 (Nat.le_refl _) (Below.refl _ _) (KeptV.refl _ _ _) rfl (by kernel_rfl) (by kernel_rfl) (by kernel_rfl) (by kernel_rfl) (by kernel_rfl) (by kernel_rfl) (by kernel_rfl) (by kernel_rfl) rfl (by simp [oldsF]) ?_ ?_ ?_ ?_
  · simp only [StableF, and_true]
    exact fun u V V' h k => h.kept k
  · simp only [OldsF]
  · simp (maxSteps := 4000000) [StepsF, DepF, freeAct, fill, pairs]
    repeat' (first | apply And.intro | (intro (u : Value)) | (intro (u : Nat)))
    all_goals first
    | (intro V hV hK; clear hV hK; go_simp; exact Below.refl _ _)
    | (intro V hV hK
       have r1 := RX.out.below hV
       have r2 := KX.out.below hV
       have r3 := RY.out.below hV
       have r4 := KY.out.below hV
       have r5 := RZ.out.below hV
       have r6 := KZ.out.below hV
       obtain ⟨-, a_x, b_x, c_x, d_x, -, -, -, -⟩ := (PX.out.below hV).facts
       obtain ⟨-, a_y, b_y, c_y, d_y, -, -, -, -⟩ := (PY.out.below hV).facts
       obtain ⟨-, a_z, b_z, c_z, d_z, -, -, -, -⟩ := (PZ.out.below hV).facts
       clear hV hK
       go_simp
       first
       | exact Below.refl _ _
       | ((with_reducible refine (H1.out V r1 r2).mono ?_); rintro e w' ⟨rfl, hb⟩; exact ⟨rfl, hb⟩)
       | ((with_reducible refine (H2.out V r3 r4).mono ?_); rintro e w' ⟨rfl, hb⟩; exact ⟨rfl, hb⟩)
       | ((with_reducible refine (H3.out V r5 r6).mono ?_); rintro e w' ⟨rfl, hb⟩; exact ⟨rfl, hb⟩)
       | ((with_reducible refine (Ex.out V r1 r2).mono ?_); rintro e w' ⟨rfl, hb⟩; exact ⟨rfl, hb⟩)
       | ((with_reducible refine (Ey.out V r3 r4).mono ?_); rintro e w' ⟨rfl, hb⟩; exact ⟨rfl, hb⟩)
       | ((with_reducible refine (Ez.out V r5 r6).mono ?_); rintro e w' ⟨rfl, hb⟩; exact ⟨rfl, hb⟩)
       | exact ⟨SliceOf.new [s1, s2, s3] _ _ _ rfl, (Below.refl _ _).alloc (Nat.le_refl _) _⟩)
    | (intro V hV hK h1
       clear hV hK
       go_simp
       refine (H4.out _ V h1).mono ?_
       rintro e w' ⟨rfl, hb⟩
       exact ⟨rfl, hb⟩)
  · simp [EndF, FactsF, freeAct, fill, pairs]
    intro u1 V hV hK _ _ _ _
    have PX := Hd (PX.out.below hV)
    have PY := Hd (PY.out.below hV)
    have PZ := Hd (PZ.out.below hV)
    have RX := Hd (RX.out.below hV)
    have KX := Hd (KX.out.below hV)
    have RY := Hd (RY.out.below hV)
    have KY := Hd (KY.out.below hV)
    have RZ := Hd (RZ.out.below hV)
    have KZ := Hd (KZ.out.below hV)
    have HT := Hd (HT.out.below2 hV)
    have HB := Hd (belowTo HB.out hV)
    clear hV hK H1 H2 H3 H4 Ex Ey Ez
    go_wp2_with fail
    refine (lives_ours V HT.out).mono ?_
    rintro e w9 ⟨rfl, hb⟩
    have HF := Hd (belowTo HB.out hb)
    clear hb
    go_wp2_with fail
    go_ret
    exact ⟨rfl, HF.out⟩

theorem forder_m_fits_more (n d m f p g : Int) (A B A2 B2 A3 B3 : Option Addr) (c e0 c2 e2 c3 e3 : Nat) (w : World) (hx : Raw w A c (natL n.natAbs)) (kx : Raw w B e0 (natL d.natAbs)) (hy : Raw w A2 c2 (natL m.natAbs)) (ky : Raw w B2 e2 (natL f.natAbs)) (hz : Raw w A3 c3 (natL p.natAbs)) (kz : Raw w B3 e3 (natL g.natAbs)) (htab : powTab w) (hlx : (natL n.natAbs).length ≤ 1152921504606846975) (hly : (natL d.natAbs).length ≤ 1152921504606846975) (hlu : (natL m.natAbs).length ≤ 1152921504606846975) (hlv : (natL f.natAbs).length ≤ 1152921504606846975) (hlp : (natL p.natAbs).length ≤ 1152921504606846975) (hlq : (natL g.natAbs).length ≤ 1152921504606846975) (hb : decide (1048576 < [fcost (natL n.natAbs).length (natL d.natAbs).length, fcost (natL m.natAbs).length (natL f.natAbs).length, fcost (natL p.natAbs).length (natL g.natAbs).length].sum) = false) (f1 : Fine n d) (f2 : Fine m f) (f3 : Fine p g) (hk1 : cmpz (n * f) (m * d) = (-1)) (hl : lz (subN n d m f) ≤ 2048 ∧ lz (subD n d m f) ≤ 2048) (hk3 : 0 < cmpz (m * g) (p * f)) :
    Calls Tryd.prog 3 #[.agg #[.bool (decide (n < 0)), .slice A (natL n.natAbs).length c, .bool (decide (d < 0)), .slice B (natL d.natAbs).length e0], .agg #[.bool (decide (m < 0)), .slice A2 (natL m.natAbs).length c2, .bool (decide (f < 0)), .slice B2 (natL f.natAbs).length e2], .agg #[.bool (decide (p < 0)), .slice A3 (natL p.natAbs).length c3, .bool (decide (g < 0)), .slice B3 (natL g.natAbs).length e3]] w fun e w' => e = .returned (.bool true) ∧ Below w.heap.size w w' := by
  have Dx := fun (V : World) (a1 : Raw V A c (natL n.natAbs)) (a2 : Raw V B e0 (natL d.natAbs)) => frac_Check (decide (n < 0)) (decide (d < 0)) A B c e0 _ _ V a1 a2
  have Dy := fun (V : World) (a1 : Raw V A2 c2 (natL m.natAbs)) (a2 : Raw V B2 e2 (natL f.natAbs)) => frac_Check (decide (m < 0)) (decide (f < 0)) A2 B2 c2 e2 _ _ V a1 a2
  have Dz := fun (V : World) (a1 : Raw V A3 c3 (natL p.natAbs)) (a2 : Raw V B3 e3 (natL g.natAbs)) => frac_Check (decide (p < 0)) (decide (g < 0)) A3 B3 c3 e3 _ _ V a1 a2
  rw [f1.chk] at Dx
  rw [f2.chk] at Dy
  rw [f3.chk] at Dz
  have Ex := Hd Dx
  have Ey := Hd Dy
  have Ez := Hd Dz
  have M1 := Hd (fun (V : World) (a1 : Raw V A c (natL n.natAbs)) (a2 : Raw V B e0 (natL d.natAbs)) (a3 : Raw V A2 c2 (natL m.natAbs)) (a4 : Raw V B2 e2 (natL f.natAbs)) => frac_Cmp_good n d m f (-1) A B A2 B2 c e0 c2 e2 V a1 a2 a3 a4 f1 f2 hk1.symm)
  have M2 := Hd (fun (V : World) (a1 : Raw V A2 c2 (natL m.natAbs)) (a2 : Raw V B2 e2 (natL f.natAbs)) (a3 : Raw V A c (natL n.natAbs)) (a4 : Raw V B e0 (natL d.natAbs)) => frac_Cmp_good m f n d (1) A2 B2 A B c2 e2 c e0 V a1 a2 a3 a4 f2 f1 (by have := cmpz_turn (n * f) (m * d); rw [hk1] at this; omega))
  have S1 := fun (V : World) (a1 : Raw V A c (natL n.natAbs)) (a2 : Raw V B e0 (natL d.natAbs)) (a3 : Raw V A2 c2 (natL m.natAbs)) (a4 : Raw V B2 e2 (natL f.natAbs)) => frac_Sub_good n d m f A B A2 B2 c e0 c2 e2 V a1 a2 a3 a4 f1 f2
  have Q1 := fun (V : World) (a1 : Raw V A c (natL n.natAbs)) (a2 : Raw V B e0 (natL d.natAbs)) (a3 : Raw V A2 c2 (natL m.natAbs)) (a4 : Raw V B2 e2 (natL f.natAbs)) => sameFrac_any n d m f A B A2 B2 c e0 c2 e2 V a1 a2 a3 a4
  have hsame : decide (n = m ∧ d = f) = false := decide_eq_false (fun h => by have := (cmpz_nought _ _).2 ((frac_one_iff f1 f2).2 h); rw [hk1] at this; exact absurd this (by decide))
  rw [hsame] at Q1
  have HQ := Hd Q1
  have hss := sub_sign (n := n) (m := m) f1.pos f2.pos
  rw [hk1] at hss
  have ff : Fine (subN n d m f) (subD n d m f) := fine_low _ (Int.mul_pos f1.pos f2.pos) hl.1 hl.2
  unfold ansN ansD ansK at S1
  simp only [if_pos hl] at S1
  obtain ⟨N, hN⟩ : ∃ k : Int, k = subN n d m f := ⟨_, rfl⟩
  obtain ⟨D, hD⟩ : ∃ k : Int, k = subD n d m f := ⟨_, rfl⟩
  rw [← hN, ← hD] at S1 ff
  rw [← hN] at hss
  have HSG := Hd (fun (V : World) (A' B' : Option Addr) (c' e' : Nat) (h : Raw V A' c' (natL N.natAbs)) (g' : Raw V B' e' (natL D.natAbs)) => frac_Sign_good N D (-1) A' B' c' e' V h g' ff.chk hss.symm)
  have HS1 := Hd S1
  obtain ⟨k3, e3'⟩ : ∃ k : Int, k = cmpz (m * g) (p * f) := ⟨_, rfl⟩
  have M3 := Hd (fun (V : World) (a1 : Raw V A2 c2 (natL m.natAbs)) (a2 : Raw V B2 e2 (natL f.natAbs)) (a3 : Raw V A3 c3 (natL p.natAbs)) (a4 : Raw V B3 e3 (natL g.natAbs)) => frac_Cmp_good m f p g k3 A2 B2 A3 B3 c2 e2 c3 e3 V a1 a2 a3 a4 f2 f3 e3')
  rw [← e3'] at hk3
  have H9 := Hd hk3
  clear Dx Dy Dz S1 Q1 hsame hss f1 f2 f3 hk1 hl hN hD ff e3' hk3
  have C1 := fun (V : World) (a1 : Raw V A c (natL n.natAbs)) (a2 : Raw V B e0 (natL d.natAbs)) => frac_cost (decide (n < 0)) (decide (d < 0)) A B c e0 _ _ hlx hly V a1 a2
  have C2 := fun (V : World) (a1 : Raw V A2 c2 (natL m.natAbs)) (a2 : Raw V B2 e2 (natL f.natAbs)) => frac_cost (decide (m < 0)) (decide (f < 0)) A2 B2 c2 e2 _ _ hlu hlv V a1 a2
  have C3 := fun (V : World) (a1 : Raw V A3 c3 (natL p.natAbs)) (a2 : Raw V B3 e3 (natL g.natAbs)) => frac_cost (decide (p < 0)) (decide (g < 0)) A3 B3 c3 e3 _ _ hlp hlq V a1 a2
  have h1 := fcost_le hlx hly
  have h2 := fcost_le hlu hlv
  have h3 := fcost_le hlp hlq
  obtain ⟨s1, q1⟩ : ∃ k : Nat, k = fcost (natL n.natAbs).length (natL d.natAbs).length := ⟨_, rfl⟩
  obtain ⟨s2, q2⟩ : ∃ k : Nat, k = fcost (natL m.natAbs).length (natL f.natAbs).length := ⟨_, rfl⟩
  obtain ⟨s3, q3⟩ : ∃ k : Nat, k = fcost (natL p.natAbs).length (natL g.natAbs).length := ⟨_, rfl⟩
  rw [← q1] at C1 h1
  rw [← q2] at C2 h2
  rw [← q3] at C3 h3
  rw [← q1, ← q2, ← q3] at hb
  have H4 := Hd (fun (u : Value) (V : World) (h : SliceOf [s1, s2, s3] u V) => beyond_of2 [s1, s2, s3] false (by simp) (by simp; omega) hb.symm u V h)
  have H1 := Hd C1
  have H2 := Hd C2
  have H3 := Hd C3
  clear C1 C2 C3 h1 h2 h3 q1 q2 q3 hb hlx hly hlu hlv hlp hlq
  have b0 := (((Below.refl w.heap.size w).alloc (Nat.le_refl _) (.cells #[.bool (decide (n < 0)), .slice A (natL n.natAbs).length c, .bool (decide (d < 0)), .slice B (natL d.natAbs).length e0] 26)).alloc (by simp) (.cells #[.bool (decide (m < 0)), .slice A2 (natL m.natAbs).length c2, .bool (decide (f < 0)), .slice B2 (natL f.natAbs).length e2] 26)).alloc (by simp; omega) (.cells #[.bool (decide (p < 0)), .slice A3 (natL p.natAbs).length c3, .bool (decide (g < 0)), .slice B3 (natL g.natAbs).length e3] 26)
  have p0 := ((Quad.new w (.bool (decide (n < 0))) (.slice A (natL n.natAbs).length c) (.bool (decide (d < 0))) (.slice B (natL d.natAbs).length e0)).alloc (.cells #[.bool (decide (m < 0)), .slice A2 (natL m.natAbs).length c2, .bool (decide (f < 0)), .slice B2 (natL f.natAbs).length e2] 26)).alloc (.cells #[.bool (decide (p < 0)), .slice A3 (natL p.natAbs).length c3, .bool (decide (g < 0)), .slice B3 (natL g.natAbs).length e3] 26)
  have p1 := (Quad.new (w.alloc (.cells #[.bool (decide (n < 0)), .slice A (natL n.natAbs).length c, .bool (decide (d < 0)), .slice B (natL d.natAbs).length e0] 26)) (.bool (decide (m < 0))) (.slice A2 (natL m.natAbs).length c2) (.bool (decide (f < 0))) (.slice B2 (natL f.natAbs).length e2)).alloc (.cells #[.bool (decide (p < 0)), .slice A3 (natL p.natAbs).length c3, .bool (decide (g < 0)), .slice B3 (natL g.natAbs).length e3] 26)
  have p2 := Quad.new ((w.alloc (.cells #[.bool (decide (n < 0)), .slice A (natL n.natAbs).length c, .bool (decide (d < 0)), .slice B (natL d.natAbs).length e0] 26)).alloc (.cells #[.bool (decide (m < 0)), .slice A2 (natL m.natAbs).length c2, .bool (decide (f < 0)), .slice B2 (natL f.natAbs).length e2] 26)) (.bool (decide (p < 0))) (.slice A3 (natL p.natAbs).length c3) (.bool (decide (g < 0))) (.slice B3 (natL g.natAbs).length e3)
  simp only [World.size_alloc] at p1 p2
  have PX := Hd p0
  have PY := Hd p1
  have PZ := Hd p2
  have RX := Hd (hx.below b0)
  have KX := Hd (kx.below b0)
  have RY := Hd (hy.below b0)
  have KY := Hd (ky.below b0)
  have RZ := Hd (hz.below b0)
  have KZ := Hd (kz.below b0)
  have HT := Hd (htab.below2 b0)
  have HB := Hd b0
  clear b0 p0 p1 p2 hx kx hy ky hz kz htab
  go_enter Tryd.func3, Tryd.ntmps3
  go_wp2_with fail
  obtain ⟨W, E⟩ : ∃ W, W = ((w.alloc (.cells #[.bool (decide (n < 0)), .slice A (natL n.natAbs).length c, .bool (decide (d < 0)), .slice B (natL d.natAbs).length e0] 26)).alloc (.cells #[.bool (decide (m < 0)), .slice A2 (natL m.natAbs).length c2, .bool (decide (f < 0)), .slice B2 (natL f.natAbs).length e2] 26)).alloc (.cells #[.bool (decide (p < 0)), .slice A3 (natL p.natAbs).length c3, .bool (decide (g < 0)), .slice B3 (natL g.natAbs).length e3] 26) := ⟨_, rfl⟩
  rw [← E] at PX PY PZ RX KX RY KY RZ KZ HT HB ⊢
  clear E
  refine wp_region_free [.val (.agg #[.bool (decide (n < 0)), .slice A (natL n.natAbs).length c, .bool (decide (d < 0)), .slice B (natL d.natAbs).length e0]) [], .val (.int .i64 s1) [], .val (.agg #[.bool (decide (m < 0)), .slice A2 (natL m.natAbs).length c2, .bool (decide (f < 0)), .slice B2 (natL f.natAbs).length e2]) [], .val (.int .i64 s2) [], .val (.agg #[.bool (decide (p < 0)), .slice A3 (natL p.natAbs).length c3, .bool (decide (g < 0)), .slice B3 (natL g.natAbs).length e3]) [], .val (.int .i64 s3) [], .any false (SliceOf [s1, s2, s3]) [], .val (.bool false) [6], .val (.bool false) [], .val (.agg #[.bool (decide (n < 0)), .slice A (natL n.natAbs).length c, .bool (decide (d < 0)), .slice B (natL d.natAbs).length e0]) [], .val (.int .i64 0) [], .val (.bool false) [], .val (.bool false) [], .val (.bool false) [], .val (.agg #[.bool (decide (m < 0)), .slice A2 (natL m.natAbs).length c2, .bool (decide (f < 0)), .slice B2 (natL f.natAbs).length e2]) [], .val (.int .i64 0) [], .val (.bool false) [], .val (.bool false) [], .val (.bool false) [], .val (.agg #[.bool (decide (p < 0)), .slice A3 (natL p.natAbs).length c3, .bool (decide (g < 0)), .slice B3 (natL g.natAbs).length e3]) [], .val (.int .i64 0) [], .val (.bool false) [], .val (.bool false) []] W.heap.size W [] blkInt _ mixedOrders2 (Nat.le_refl _) (Below.refl _ _) (KeptV.refl _ _ _) rfl (by kernel_rfl) (by kernel_rfl) (by kernel_rfl) (by kernel_rfl) (by kernel_rfl) (by kernel_rfl) (by kernel_rfl) (by kernel_rfl) rfl (by simp [oldsF]) ?_ ?_ ?_ ?_
  · simp only [StableF, and_true]
    exact fun u V V' h k => h.kept k
  · simp only [OldsF]
  · simp (maxSteps := 4000000) [StepsF, DepF, freeAct, fill, pairs]
    repeat' (first | apply And.intro | (intro (u : Value)) | (intro (u : Nat)))
    all_goals first
    | (intro V hV hK; clear hV hK; go_simp; exact Below.refl _ _)
    | (intro V hV hK
       have r1 := RX.out.below hV
       have r2 := KX.out.below hV
       have r3 := RY.out.below hV
       have r4 := KY.out.below hV
       have r5 := RZ.out.below hV
       have r6 := KZ.out.below hV
       obtain ⟨-, a_x, b_x, c_x, d_x, -, -, -, -⟩ := (PX.out.below hV).facts
       obtain ⟨-, a_y, b_y, c_y, d_y, -, -, -, -⟩ := (PY.out.below hV).facts
       obtain ⟨-, a_z, b_z, c_z, d_z, -, -, -, -⟩ := (PZ.out.below hV).facts
       clear hV hK
       go_simp
       first
       | exact Below.refl _ _
       | ((with_reducible refine (H1.out V r1 r2).mono ?_); rintro e w' ⟨rfl, hb⟩; exact ⟨rfl, hb⟩)
       | ((with_reducible refine (H2.out V r3 r4).mono ?_); rintro e w' ⟨rfl, hb⟩; exact ⟨rfl, hb⟩)
       | ((with_reducible refine (H3.out V r5 r6).mono ?_); rintro e w' ⟨rfl, hb⟩; exact ⟨rfl, hb⟩)
       | ((with_reducible refine (Ex.out V r1 r2).mono ?_); rintro e w' ⟨rfl, hb⟩; exact ⟨rfl, hb⟩)
       | ((with_reducible refine (Ey.out V r3 r4).mono ?_); rintro e w' ⟨rfl, hb⟩; exact ⟨rfl, hb⟩)
       | ((with_reducible refine (Ez.out V r5 r6).mono ?_); rintro e w' ⟨rfl, hb⟩; exact ⟨rfl, hb⟩)
       | exact ⟨SliceOf.new [s1, s2, s3] _ _ _ rfl, (Below.refl _ _).alloc (Nat.le_refl _) _⟩)
    | (intro V hV hK h1
       clear hV hK
       go_simp
       refine (H4.out _ V h1).mono ?_
       rintro e w' ⟨rfl, hb⟩
       exact ⟨rfl, hb⟩)
  · simp [EndF, FactsF, freeAct, fill, pairs]
    intro u1 V hV hK _ _ _ _
    have PX := Hd (PX.out.below hV)
    have PY := Hd (PY.out.below hV)
    have PZ := Hd (PZ.out.below hV)
    have RX := Hd (RX.out.below hV)
    have KX := Hd (KX.out.below hV)
    have RY := Hd (RY.out.below hV)
    have KY := Hd (KY.out.below hV)
    have RZ := Hd (RZ.out.below hV)
    have KZ := Hd (KZ.out.below hV)
    have HT := Hd (HT.out.below2 hV)
    have HB := Hd (belowTo HB.out hV)
    clear hV hK H1 H2 H3 H4 Ex Ey Ez
    obtain ⟨l_x, x0, x1, x2, x3, -, -, -, -⟩ := PX.out.facts
    obtain ⟨l_y, y0, y1, y2, y3, -, -, -, -⟩ := PY.out.facts
    go_wp2_with fail
    refine (M1.out V RX.out KX.out RY.out KY.out).mono ?_
    rintro e wx1 ⟨rfl, hb⟩
    clear l_x x0 x1 x2 x3
    clear l_y y0 y1 y2 y3
    have HS_wx1 := Hd (show V.heap.size ≤ wx1.heap.size from hb.size)
    have PX := Hd (PX.out.below hb)
    have PY := Hd (PY.out.below hb)
    have PZ := Hd (PZ.out.below hb)
    have RX := Hd (RX.out.below hb)
    have KX := Hd (KX.out.below hb)
    have RY := Hd (RY.out.below hb)
    have KY := Hd (KY.out.below hb)
    have RZ := Hd (RZ.out.below hb)
    have KZ := Hd (KZ.out.below hb)
    have HT := Hd (HT.out.below2 hb)
    have HB := Hd (belowTo HB.out hb)
    obtain ⟨l_x, x0, x1, x2, x3, -, -, -, -⟩ := PX.out.facts
    obtain ⟨l_y, y0, y1, y2, y3, -, -, -, -⟩ := PY.out.facts
    go_wp2_with fail
    refine (HS1.out wx1 RX.out KX.out RY.out KY.out).mono ?_
    rintro e wx2 ⟨v, rfl, hI, hb⟩
    clear l_x x0 x1 x2 x3
    clear l_y y0 y1 y2 y3
    obtain ⟨A8, c8, B8, e8, rfl, i1, i2, -⟩ := hI.form
    have R8 := Hd i1.rawAt
    have K8 := Hd i2.rawAt
    clear hI i1 i2
    have HS_wx2 := Hd (show wx1.heap.size ≤ wx2.heap.size from hb.size)
    have PX := Hd (PX.out.below hb)
    have PY := Hd (PY.out.below hb)
    have PZ := Hd (PZ.out.below hb)
    have RX := Hd (RX.out.below hb)
    have KX := Hd (KX.out.below hb)
    have RY := Hd (RY.out.below hb)
    have KY := Hd (KY.out.below hb)
    have RZ := Hd (RZ.out.below hb)
    have KZ := Hd (KZ.out.below hb)
    have HT := Hd (HT.out.below2 hb)
    have HB := Hd (belowTo HB.out hb)
    have ha := (Below.refl wx2.heap.size wx2).alloc (Nat.le_refl _) (.cells #[.bool (decide (N < 0)), .slice A8 (natL N.natAbs).length c8, .bool (decide (D < 0)), .slice B8 (natL D.natAbs).length e8] 26)
    have hn := Quad.new wx2 (.bool (decide (N < 0))) (.slice A8 (natL N.natAbs).length c8) (.bool (decide (D < 0))) (.slice B8 (natL D.natAbs).length e8)
    have hz : (wx2.alloc (.cells #[.bool (decide (N < 0)), .slice A8 (natL N.natAbs).length c8, .bool (decide (D < 0)), .slice B8 (natL D.natAbs).length e8] 26)).heap.size = wx2.heap.size + 1 := by simp
    go_upto_region 5 with fail
    obtain ⟨wy3, E⟩ : ∃ W, W = wx2.alloc (.cells #[.bool (decide (N < 0)), .slice A8 (natL N.natAbs).length c8, .bool (decide (D < 0)), .slice B8 (natL D.natAbs).length e8] 26) := ⟨_, rfl⟩
    obtain ⟨q3, hq⟩ : ∃ q, q = wx2.heap.size := ⟨_, rfl⟩
    rw [← E] at ha
    rw [← E, ← hq] at hn hz ⊢
    have HZ_wy3 := Hd (And.intro hq hz)
    have P8 := Hd hn
    have PX := Hd (PX.out.below ha)
    have PY := Hd (PY.out.below ha)
    have PZ := Hd (PZ.out.below ha)
    have RX := Hd (RX.out.below ha)
    have KX := Hd (KX.out.below ha)
    have RY := Hd (RY.out.below ha)
    have KY := Hd (KY.out.below ha)
    have RZ := Hd (RZ.out.below ha)
    have KZ := Hd (KZ.out.below ha)
    have HT := Hd (HT.out.below2 ha)
    have R8 := Hd (R8.out.below ha)
    have K8 := Hd (K8.out.below ha)
    have HB := Hd (belowTo HB.out ha)
    clear ha hn hz hq E
    obtain ⟨l_y, y0, y1, y2, y3, -, -, -, -⟩ := PY.out.facts
    obtain ⟨l_x, x0, x1, x2, x3, -, -, -, -⟩ := PX.out.facts
    go_wp2_with fail
    refine (M2.out wy3 RY.out KY.out RX.out KX.out).mono ?_
    rintro e wx4 ⟨rfl, hb⟩
    clear l_y y0 y1 y2 y3
    clear l_x x0 x1 x2 x3
    have HS_wx4 := Hd (show wy3.heap.size ≤ wx4.heap.size from hb.size)
    have PX := Hd (PX.out.below hb)
    have PY := Hd (PY.out.below hb)
    have PZ := Hd (PZ.out.below hb)
    have RX := Hd (RX.out.below hb)
    have KX := Hd (KX.out.below hb)
    have RY := Hd (RY.out.below hb)
    have KY := Hd (KY.out.below hb)
    have RZ := Hd (RZ.out.below hb)
    have KZ := Hd (KZ.out.below hb)
    have HT := Hd (HT.out.below2 hb)
    have R8 := Hd (R8.out.below hb)
    have K8 := Hd (K8.out.below hb)
    have P8 := Hd (P8.out.below hb)
    have HB := Hd (belowTo HB.out hb)
    obtain ⟨l_d, d0, d1, d2, d3, -, -, -, -⟩ := P8.out.facts
    go_wp2_with fail
    refine (HSG.out wx4 A8 B8 c8 e8 R8.out K8.out).mono ?_
    rintro e wx5 ⟨rfl, hb⟩
    clear l_d d0 d1 d2 d3
    have HS_wx5 := Hd (show wx4.heap.size ≤ wx5.heap.size from hb.size)
    have PX := Hd (PX.out.below hb)
    have PY := Hd (PY.out.below hb)
    have PZ := Hd (PZ.out.below hb)
    have RX := Hd (RX.out.below hb)
    have KX := Hd (KX.out.below hb)
    have RY := Hd (RY.out.below hb)
    have KY := Hd (KY.out.below hb)
    have RZ := Hd (RZ.out.below hb)
    have KZ := Hd (KZ.out.below hb)
    have HT := Hd (HT.out.below2 hb)
    have R8 := Hd (R8.out.below hb)
    have K8 := Hd (K8.out.below hb)
    have P8 := Hd (P8.out.below hb)
    have HB := Hd (belowTo HB.out hb)
    obtain ⟨l_x, x0, x1, x2, x3, -, -, -, -⟩ := PX.out.facts
    obtain ⟨l_y, y0, y1, y2, y3, -, -, -, -⟩ := PY.out.facts
    go_wp2_with fail
    refine (HQ.out wx5 RX.out KX.out RY.out KY.out).mono ?_
    rintro e wx6 ⟨rfl, hb⟩
    clear l_x x0 x1 x2 x3
    clear l_y y0 y1 y2 y3
    have HS_wx6 := Hd (show wx5.heap.size ≤ wx6.heap.size from hb.size)
    have PX := Hd (PX.out.below hb)
    have PY := Hd (PY.out.below hb)
    have PZ := Hd (PZ.out.below hb)
    have RX := Hd (RX.out.below hb)
    have KX := Hd (KX.out.below hb)
    have RY := Hd (RY.out.below hb)
    have KY := Hd (KY.out.below hb)
    have RZ := Hd (RZ.out.below hb)
    have KZ := Hd (KZ.out.below hb)
    have HT := Hd (HT.out.below2 hb)
    have R8 := Hd (R8.out.below hb)
    have K8 := Hd (K8.out.below hb)
    have P8 := Hd (P8.out.below hb)
    have HB := Hd (belowTo HB.out hb)
    obtain ⟨l_y, y0, y1, y2, y3, -, -, -, -⟩ := PY.out.facts
    obtain ⟨l_z, z0, z1, z2, z3, -, -, -, -⟩ := PZ.out.facts
    go_wp2_with fail
    refine (M3.out wx6 RY.out KY.out RZ.out KZ.out).mono ?_
    rintro e wx7 ⟨rfl, hb⟩
    clear l_y y0 y1 y2 y3
    clear l_z z0 z1 z2 z3
    have HS_wx7 := Hd (show wx6.heap.size ≤ wx7.heap.size from hb.size)
    have PX := Hd (PX.out.below hb)
    have PY := Hd (PY.out.below hb)
    have PZ := Hd (PZ.out.below hb)
    have RX := Hd (RX.out.below hb)
    have KX := Hd (KX.out.below hb)
    have RY := Hd (RY.out.below hb)
    have KY := Hd (KY.out.below hb)
    have RZ := Hd (RZ.out.below hb)
    have KZ := Hd (KZ.out.below hb)
    have HT := Hd (HT.out.below2 hb)
    have R8 := Hd (R8.out.below hb)
    have K8 := Hd (K8.out.below hb)
    have P8 := Hd (P8.out.below hb)
    have HB := Hd (belowTo HB.out hb)
    have h9 := H9.out
    go_wp2_with fail
    refine (lives_ours wx7 HT.out).mono ?_
    rintro e wx8 ⟨rfl, hb⟩
    have HS_wx8 := Hd (show wx7.heap.size ≤ wx8.heap.size from hb.size)
    have PX := Hd (PX.out.below hb)
    have PY := Hd (PY.out.below hb)
    have PZ := Hd (PZ.out.below hb)
    have RX := Hd (RX.out.below hb)
    have KX := Hd (KX.out.below hb)
    have RY := Hd (RY.out.below hb)
    have KY := Hd (KY.out.below hb)
    have RZ := Hd (RZ.out.below hb)
    have KZ := Hd (KZ.out.below hb)
    have HT := Hd (HT.out.below2 hb)
    have R8 := Hd (R8.out.below hb)
    have K8 := Hd (K8.out.below hb)
    have P8 := Hd (P8.out.below hb)
    have HB := Hd (belowTo HB.out hb)
    go_wp2_with fail
    go_ret
    exact ⟨rfl, HB.out⟩

theorem forder_m_fits_less (n d m f p g : Int) (A B A2 B2 A3 B3 : Option Addr) (c e0 c2 e2 c3 e3 : Nat) (w : World) (hx : Raw w A c (natL n.natAbs)) (kx : Raw w B e0 (natL d.natAbs)) (hy : Raw w A2 c2 (natL m.natAbs)) (ky : Raw w B2 e2 (natL f.natAbs)) (hz : Raw w A3 c3 (natL p.natAbs)) (kz : Raw w B3 e3 (natL g.natAbs)) (htab : powTab w) (hlx : (natL n.natAbs).length ≤ 1152921504606846975) (hly : (natL d.natAbs).length ≤ 1152921504606846975) (hlu : (natL m.natAbs).length ≤ 1152921504606846975) (hlv : (natL f.natAbs).length ≤ 1152921504606846975) (hlp : (natL p.natAbs).length ≤ 1152921504606846975) (hlq : (natL g.natAbs).length ≤ 1152921504606846975) (hb : decide (1048576 < [fcost (natL n.natAbs).length (natL d.natAbs).length, fcost (natL m.natAbs).length (natL f.natAbs).length, fcost (natL p.natAbs).length (natL g.natAbs).length].sum) = false) (f1 : Fine n d) (f2 : Fine m f) (f3 : Fine p g) (hk1 : cmpz (n * f) (m * d) = (-1)) (hl : lz (subN n d m f) ≤ 2048 ∧ lz (subD n d m f) ≤ 2048) (hk3 : cmpz (m * g) (p * f) ≤ 0) :
    Calls Tryd.prog 3 #[.agg #[.bool (decide (n < 0)), .slice A (natL n.natAbs).length c, .bool (decide (d < 0)), .slice B (natL d.natAbs).length e0], .agg #[.bool (decide (m < 0)), .slice A2 (natL m.natAbs).length c2, .bool (decide (f < 0)), .slice B2 (natL f.natAbs).length e2], .agg #[.bool (decide (p < 0)), .slice A3 (natL p.natAbs).length c3, .bool (decide (g < 0)), .slice B3 (natL g.natAbs).length e3]] w fun e w' => e = .returned (.bool true) ∧ Below w.heap.size w w' := by
  have Dx := fun (V : World) (a1 : Raw V A c (natL n.natAbs)) (a2 : Raw V B e0 (natL d.natAbs)) => frac_Check (decide (n < 0)) (decide (d < 0)) A B c e0 _ _ V a1 a2
  have Dy := fun (V : World) (a1 : Raw V A2 c2 (natL m.natAbs)) (a2 : Raw V B2 e2 (natL f.natAbs)) => frac_Check (decide (m < 0)) (decide (f < 0)) A2 B2 c2 e2 _ _ V a1 a2
  have Dz := fun (V : World) (a1 : Raw V A3 c3 (natL p.natAbs)) (a2 : Raw V B3 e3 (natL g.natAbs)) => frac_Check (decide (p < 0)) (decide (g < 0)) A3 B3 c3 e3 _ _ V a1 a2
  rw [f1.chk] at Dx
  rw [f2.chk] at Dy
  rw [f3.chk] at Dz
  have Ex := Hd Dx
  have Ey := Hd Dy
  have Ez := Hd Dz
  have M1 := Hd (fun (V : World) (a1 : Raw V A c (natL n.natAbs)) (a2 : Raw V B e0 (natL d.natAbs)) (a3 : Raw V A2 c2 (natL m.natAbs)) (a4 : Raw V B2 e2 (natL f.natAbs)) => frac_Cmp_good n d m f (-1) A B A2 B2 c e0 c2 e2 V a1 a2 a3 a4 f1 f2 hk1.symm)
  have M2 := Hd (fun (V : World) (a1 : Raw V A2 c2 (natL m.natAbs)) (a2 : Raw V B2 e2 (natL f.natAbs)) (a3 : Raw V A c (natL n.natAbs)) (a4 : Raw V B e0 (natL d.natAbs)) => frac_Cmp_good m f n d (1) A2 B2 A B c2 e2 c e0 V a1 a2 a3 a4 f2 f1 (by have := cmpz_turn (n * f) (m * d); rw [hk1] at this; omega))
  have S1 := fun (V : World) (a1 : Raw V A c (natL n.natAbs)) (a2 : Raw V B e0 (natL d.natAbs)) (a3 : Raw V A2 c2 (natL m.natAbs)) (a4 : Raw V B2 e2 (natL f.natAbs)) => frac_Sub_good n d m f A B A2 B2 c e0 c2 e2 V a1 a2 a3 a4 f1 f2
  have Q1 := fun (V : World) (a1 : Raw V A c (natL n.natAbs)) (a2 : Raw V B e0 (natL d.natAbs)) (a3 : Raw V A2 c2 (natL m.natAbs)) (a4 : Raw V B2 e2 (natL f.natAbs)) => sameFrac_any n d m f A B A2 B2 c e0 c2 e2 V a1 a2 a3 a4
  have hsame : decide (n = m ∧ d = f) = false := decide_eq_false (fun h => by have := (cmpz_nought _ _).2 ((frac_one_iff f1 f2).2 h); rw [hk1] at this; exact absurd this (by decide))
  rw [hsame] at Q1
  have HQ := Hd Q1
  have hss := sub_sign (n := n) (m := m) f1.pos f2.pos
  rw [hk1] at hss
  have ff : Fine (subN n d m f) (subD n d m f) := fine_low _ (Int.mul_pos f1.pos f2.pos) hl.1 hl.2
  unfold ansN ansD ansK at S1
  simp only [if_pos hl] at S1
  obtain ⟨N, hN⟩ : ∃ k : Int, k = subN n d m f := ⟨_, rfl⟩
  obtain ⟨D, hD⟩ : ∃ k : Int, k = subD n d m f := ⟨_, rfl⟩
  rw [← hN, ← hD] at S1 ff
  rw [← hN] at hss
  have HSG := Hd (fun (V : World) (A' B' : Option Addr) (c' e' : Nat) (h : Raw V A' c' (natL N.natAbs)) (g' : Raw V B' e' (natL D.natAbs)) => frac_Sign_good N D (-1) A' B' c' e' V h g' ff.chk hss.symm)
  have HS1 := Hd S1
  obtain ⟨k3, e3'⟩ : ∃ k : Int, k = cmpz (m * g) (p * f) := ⟨_, rfl⟩
  have M3 := Hd (fun (V : World) (a1 : Raw V A2 c2 (natL m.natAbs)) (a2 : Raw V B2 e2 (natL f.natAbs)) (a3 : Raw V A3 c3 (natL p.natAbs)) (a4 : Raw V B3 e3 (natL g.natAbs)) => frac_Cmp_good m f p g k3 A2 B2 A3 B3 c2 e2 c3 e3 V a1 a2 a3 a4 f2 f3 e3')
  obtain ⟨k4, e4'⟩ : ∃ k : Int, k = cmpz (n * g) (p * d) := ⟨_, rfl⟩
  have M4 := Hd (fun (V : World) (a1 : Raw V A c (natL n.natAbs)) (a2 : Raw V B e0 (natL d.natAbs)) (a3 : Raw V A3 c3 (natL p.natAbs)) (a4 : Raw V B3 e3 (natL g.natAbs)) => frac_Cmp_good n d p g k4 A B A3 B3 c e0 c3 e3 V a1 a2 a3 a4 f1 f3 e4')
  have H0 := Hd (show k4 ≤ 0 from by
    rw [e4']
    exact (cmpz_le0 _ _).2 (cmp_three f1.pos f2.pos f3.pos ((cmpz_le0 _ _).1 (by rw [hk1]; decide)) ((cmpz_le0 _ _).1 hk3)))
  rw [← e3'] at hk3
  have H9 := Hd hk3
  clear Dx Dy Dz S1 Q1 hsame hss f1 f2 f3 hk1 hl hN hD ff e3' hk3 e4'
  have C1 := fun (V : World) (a1 : Raw V A c (natL n.natAbs)) (a2 : Raw V B e0 (natL d.natAbs)) => frac_cost (decide (n < 0)) (decide (d < 0)) A B c e0 _ _ hlx hly V a1 a2
  have C2 := fun (V : World) (a1 : Raw V A2 c2 (natL m.natAbs)) (a2 : Raw V B2 e2 (natL f.natAbs)) => frac_cost (decide (m < 0)) (decide (f < 0)) A2 B2 c2 e2 _ _ hlu hlv V a1 a2
  have C3 := fun (V : World) (a1 : Raw V A3 c3 (natL p.natAbs)) (a2 : Raw V B3 e3 (natL g.natAbs)) => frac_cost (decide (p < 0)) (decide (g < 0)) A3 B3 c3 e3 _ _ hlp hlq V a1 a2
  have h1 := fcost_le hlx hly
  have h2 := fcost_le hlu hlv
  have h3 := fcost_le hlp hlq
  obtain ⟨s1, q1⟩ : ∃ k : Nat, k = fcost (natL n.natAbs).length (natL d.natAbs).length := ⟨_, rfl⟩
  obtain ⟨s2, q2⟩ : ∃ k : Nat, k = fcost (natL m.natAbs).length (natL f.natAbs).length := ⟨_, rfl⟩
  obtain ⟨s3, q3⟩ : ∃ k : Nat, k = fcost (natL p.natAbs).length (natL g.natAbs).length := ⟨_, rfl⟩
  rw [← q1] at C1 h1
  rw [← q2] at C2 h2
  rw [← q3] at C3 h3
  rw [← q1, ← q2, ← q3] at hb
  have H4 := Hd (fun (u : Value) (V : World) (h : SliceOf [s1, s2, s3] u V) => beyond_of2 [s1, s2, s3] false (by simp) (by simp; omega) hb.symm u V h)
  have H1 := Hd C1
  have H2 := Hd C2
  have H3 := Hd C3
  clear C1 C2 C3 h1 h2 h3 q1 q2 q3 hb hlx hly hlu hlv hlp hlq
  have b0 := (((Below.refl w.heap.size w).alloc (Nat.le_refl _) (.cells #[.bool (decide (n < 0)), .slice A (natL n.natAbs).length c, .bool (decide (d < 0)), .slice B (natL d.natAbs).length e0] 26)).alloc (by simp) (.cells #[.bool (decide (m < 0)), .slice A2 (natL m.natAbs).length c2, .bool (decide (f < 0)), .slice B2 (natL f.natAbs).length e2] 26)).alloc (by simp; omega) (.cells #[.bool (decide (p < 0)), .slice A3 (natL p.natAbs).length c3, .bool (decide (g < 0)), .slice B3 (natL g.natAbs).length e3] 26)
  have p0 := ((Quad.new w (.bool (decide (n < 0))) (.slice A (natL n.natAbs).length c) (.bool (decide (d < 0))) (.slice B (natL d.natAbs).length e0)).alloc (.cells #[.bool (decide (m < 0)), .slice A2 (natL m.natAbs).length c2, .bool (decide (f < 0)), .slice B2 (natL f.natAbs).length e2] 26)).alloc (.cells #[.bool (decide (p < 0)), .slice A3 (natL p.natAbs).length c3, .bool (decide (g < 0)), .slice B3 (natL g.natAbs).length e3] 26)
  have p1 := (Quad.new (w.alloc (.cells #[.bool (decide (n < 0)), .slice A (natL n.natAbs).length c, .bool (decide (d < 0)), .slice B (natL d.natAbs).length e0] 26)) (.bool (decide (m < 0))) (.slice A2 (natL m.natAbs).length c2) (.bool (decide (f < 0))) (.slice B2 (natL f.natAbs).length e2)).alloc (.cells #[.bool (decide (p < 0)), .slice A3 (natL p.natAbs).length c3, .bool (decide (g < 0)), .slice B3 (natL g.natAbs).length e3] 26)
  have p2 := Quad.new ((w.alloc (.cells #[.bool (decide (n < 0)), .slice A (natL n.natAbs).length c, .bool (decide (d < 0)), .slice B (natL d.natAbs).length e0] 26)).alloc (.cells #[.bool (decide (m < 0)), .slice A2 (natL m.natAbs).length c2, .bool (decide (f < 0)), .slice B2 (natL f.natAbs).length e2] 26)) (.bool (decide (p < 0))) (.slice A3 (natL p.natAbs).length c3) (.bool (decide (g < 0))) (.slice B3 (natL g.natAbs).length e3)
  simp only [World.size_alloc] at p1 p2
  have PX := Hd p0
  have PY := Hd p1
  have PZ := Hd p2
  have RX := Hd (hx.below b0)
  have KX := Hd (kx.below b0)
  have RY := Hd (hy.below b0)
  have KY := Hd (ky.below b0)
  have RZ := Hd (hz.below b0)
  have KZ := Hd (kz.below b0)
  have HT := Hd (htab.below2 b0)
  have HB := Hd b0
  clear b0 p0 p1 p2 hx kx hy ky hz kz htab
  go_enter Tryd.func3, Tryd.ntmps3
  go_wp2_with fail
  obtain ⟨W, E⟩ : ∃ W, W = ((w.alloc (.cells #[.bool (decide (n < 0)), .slice A (natL n.natAbs).length c, .bool (decide (d < 0)), .slice B (natL d.natAbs).length e0] 26)).alloc (.cells #[.bool (decide (m < 0)), .slice A2 (natL m.natAbs).length c2, .bool (decide (f < 0)), .slice B2 (natL f.natAbs).length e2] 26)).alloc (.cells #[.bool (decide (p < 0)), .slice A3 (natL p.natAbs).length c3, .bool (decide (g < 0)), .slice B3 (natL g.natAbs).length e3] 26) := ⟨_, rfl⟩
  rw [← E] at PX PY PZ RX KX RY KY RZ KZ HT HB ⊢
  clear E
  refine wp_region_free [.val (.agg #[.bool (decide (n < 0)), .slice A (natL n.natAbs).length c, .bool (decide (d < 0)), .slice B (natL d.natAbs).length e0]) [], .val (.int .i64 s1) [], .val (.agg #[.bool (decide (m < 0)), .slice A2 (natL m.natAbs).length c2, .bool (decide (f < 0)), .slice B2 (natL f.natAbs).length e2]) [], .val (.int .i64 s2) [], .val (.agg #[.bool (decide (p < 0)), .slice A3 (natL p.natAbs).length c3, .bool (decide (g < 0)), .slice B3 (natL g.natAbs).length e3]) [], .val (.int .i64 s3) [], .any false (SliceOf [s1, s2, s3]) [], .val (.bool false) [6], .val (.bool false) [], .val (.agg #[.bool (decide (n < 0)), .slice A (natL n.natAbs).length c, .bool (decide (d < 0)), .slice B (natL d.natAbs).length e0]) [], .val (.int .i64 0) [], .val (.bool false) [], .val (.bool false) [], .val (.bool false) [], .val (.agg #[.bool (decide (m < 0)), .slice A2 (natL m.natAbs).length c2, .bool (decide (f < 0)), .slice B2 (natL f.natAbs).length e2]) [], .val (.int .i64 0) [], .val (.bool false) [], .val (.bool false) [], .val (.bool false) [], .val (.agg #[.bool (decide (p < 0)), .slice A3 (natL p.natAbs).length c3, .bool (decide (g < 0)), .slice B3 (natL g.natAbs).length e3]) [], .val (.int .i64 0) [], .val (.bool false) [], .val (.bool false) []] W.heap.size W [] blkInt _ mixedOrders2 (Nat.le_refl _) (Below.refl _ _) (KeptV.refl _ _ _) rfl (by kernel_rfl) (by kernel_rfl) (by kernel_rfl) (by kernel_rfl) (by kernel_rfl) (by kernel_rfl) (by kernel_rfl) (by kernel_rfl) rfl (by simp [oldsF]) ?_ ?_ ?_ ?_
  · simp only [StableF, and_true]
    exact fun u V V' h k => h.kept k
  · simp only [OldsF]
  · simp (maxSteps := 4000000) [StepsF, DepF, freeAct, fill, pairs]
    repeat' (first | apply And.intro | (intro (u : Value)) | (intro (u : Nat)))
    all_goals first
    | (intro V hV hK; clear hV hK; go_simp; exact Below.refl _ _)
    | (intro V hV hK
       have r1 := RX.out.below hV
       have r2 := KX.out.below hV
       have r3 := RY.out.below hV
       have r4 := KY.out.below hV
       have r5 := RZ.out.below hV
       have r6 := KZ.out.below hV
       obtain ⟨-, a_x, b_x, c_x, d_x, -, -, -, -⟩ := (PX.out.below hV).facts
       obtain ⟨-, a_y, b_y, c_y, d_y, -, -, -, -⟩ := (PY.out.below hV).facts
       obtain ⟨-, a_z, b_z, c_z, d_z, -, -, -, -⟩ := (PZ.out.below hV).facts
       clear hV hK
       go_simp
       first
       | exact Below.refl _ _
       | ((with_reducible refine (H1.out V r1 r2).mono ?_); rintro e w' ⟨rfl, hb⟩; exact ⟨rfl, hb⟩)
       | ((with_reducible refine (H2.out V r3 r4).mono ?_); rintro e w' ⟨rfl, hb⟩; exact ⟨rfl, hb⟩)
       | ((with_reducible refine (H3.out V r5 r6).mono ?_); rintro e w' ⟨rfl, hb⟩; exact ⟨rfl, hb⟩)
       | ((with_reducible refine (Ex.out V r1 r2).mono ?_); rintro e w' ⟨rfl, hb⟩; exact ⟨rfl, hb⟩)
       | ((with_reducible refine (Ey.out V r3 r4).mono ?_); rintro e w' ⟨rfl, hb⟩; exact ⟨rfl, hb⟩)
       | ((with_reducible refine (Ez.out V r5 r6).mono ?_); rintro e w' ⟨rfl, hb⟩; exact ⟨rfl, hb⟩)
       | exact ⟨SliceOf.new [s1, s2, s3] _ _ _ rfl, (Below.refl _ _).alloc (Nat.le_refl _) _⟩)
    | (intro V hV hK h1
       clear hV hK
       go_simp
       refine (H4.out _ V h1).mono ?_
       rintro e w' ⟨rfl, hb⟩
       exact ⟨rfl, hb⟩)
  · simp [EndF, FactsF, freeAct, fill, pairs]
    intro u1 V hV hK _ _ _ _
    have PX := Hd (PX.out.below hV)
    have PY := Hd (PY.out.below hV)
    have PZ := Hd (PZ.out.below hV)
    have RX := Hd (RX.out.below hV)
    have KX := Hd (KX.out.below hV)
    have RY := Hd (RY.out.below hV)
    have KY := Hd (KY.out.below hV)
    have RZ := Hd (RZ.out.below hV)
    have KZ := Hd (KZ.out.below hV)
    have HT := Hd (HT.out.below2 hV)
    have HB := Hd (belowTo HB.out hV)
    clear hV hK H1 H2 H3 H4 Ex Ey Ez
    obtain ⟨l_x, x0, x1, x2, x3, -, -, -, -⟩ := PX.out.facts
    obtain ⟨l_y, y0, y1, y2, y3, -, -, -, -⟩ := PY.out.facts
    go_wp2_with fail
    refine (M1.out V RX.out KX.out RY.out KY.out).mono ?_
    rintro e wx1 ⟨rfl, hb⟩
    clear l_x x0 x1 x2 x3
    clear l_y y0 y1 y2 y3
    have HS_wx1 := Hd (show V.heap.size ≤ wx1.heap.size from hb.size)
    have PX := Hd (PX.out.below hb)
    have PY := Hd (PY.out.below hb)
    have PZ := Hd (PZ.out.below hb)
    have RX := Hd (RX.out.below hb)
    have KX := Hd (KX.out.below hb)
    have RY := Hd (RY.out.below hb)
    have KY := Hd (KY.out.below hb)
    have RZ := Hd (RZ.out.below hb)
    have KZ := Hd (KZ.out.below hb)
    have HT := Hd (HT.out.below2 hb)
    have HB := Hd (belowTo HB.out hb)
    obtain ⟨l_x, x0, x1, x2, x3, -, -, -, -⟩ := PX.out.facts
    obtain ⟨l_y, y0, y1, y2, y3, -, -, -, -⟩ := PY.out.facts
    go_wp2_with fail
    refine (HS1.out wx1 RX.out KX.out RY.out KY.out).mono ?_
    rintro e wx2 ⟨v, rfl, hI, hb⟩
    clear l_x x0 x1 x2 x3
    clear l_y y0 y1 y2 y3
    obtain ⟨A8, c8, B8, e8, rfl, i1, i2, -⟩ := hI.form
    have R8 := Hd i1.rawAt
    have K8 := Hd i2.rawAt
    clear hI i1 i2
    have HS_wx2 := Hd (show wx1.heap.size ≤ wx2.heap.size from hb.size)
    have PX := Hd (PX.out.below hb)
    have PY := Hd (PY.out.below hb)
    have PZ := Hd (PZ.out.below hb)
    have RX := Hd (RX.out.below hb)
    have KX := Hd (KX.out.below hb)
    have RY := Hd (RY.out.below hb)
    have KY := Hd (KY.out.below hb)
    have RZ := Hd (RZ.out.below hb)
    have KZ := Hd (KZ.out.below hb)
    have HT := Hd (HT.out.below2 hb)
    have HB := Hd (belowTo HB.out hb)
    have ha := (Below.refl wx2.heap.size wx2).alloc (Nat.le_refl _) (.cells #[.bool (decide (N < 0)), .slice A8 (natL N.natAbs).length c8, .bool (decide (D < 0)), .slice B8 (natL D.natAbs).length e8] 26)
    have hn := Quad.new wx2 (.bool (decide (N < 0))) (.slice A8 (natL N.natAbs).length c8) (.bool (decide (D < 0))) (.slice B8 (natL D.natAbs).length e8)
    have hz : (wx2.alloc (.cells #[.bool (decide (N < 0)), .slice A8 (natL N.natAbs).length c8, .bool (decide (D < 0)), .slice B8 (natL D.natAbs).length e8] 26)).heap.size = wx2.heap.size + 1 := by simp
    go_upto_region 5 with fail
    obtain ⟨wy3, E⟩ : ∃ W, W = wx2.alloc (.cells #[.bool (decide (N < 0)), .slice A8 (natL N.natAbs).length c8, .bool (decide (D < 0)), .slice B8 (natL D.natAbs).length e8] 26) := ⟨_, rfl⟩
    obtain ⟨q3, hq⟩ : ∃ q, q = wx2.heap.size := ⟨_, rfl⟩
    rw [← E] at ha
    rw [← E, ← hq] at hn hz ⊢
    have HZ_wy3 := Hd (And.intro hq hz)
    have P8 := Hd hn
    have PX := Hd (PX.out.below ha)
    have PY := Hd (PY.out.below ha)
    have PZ := Hd (PZ.out.below ha)
    have RX := Hd (RX.out.below ha)
    have KX := Hd (KX.out.below ha)
    have RY := Hd (RY.out.below ha)
    have KY := Hd (KY.out.below ha)
    have RZ := Hd (RZ.out.below ha)
    have KZ := Hd (KZ.out.below ha)
    have HT := Hd (HT.out.below2 ha)
    have R8 := Hd (R8.out.below ha)
    have K8 := Hd (K8.out.below ha)
    have HB := Hd (belowTo HB.out ha)
    clear ha hn hz hq E
    obtain ⟨l_y, y0, y1, y2, y3, -, -, -, -⟩ := PY.out.facts
    obtain ⟨l_x, x0, x1, x2, x3, -, -, -, -⟩ := PX.out.facts
    go_wp2_with fail
    refine (M2.out wy3 RY.out KY.out RX.out KX.out).mono ?_
    rintro e wx4 ⟨rfl, hb⟩
    clear l_y y0 y1 y2 y3
    clear l_x x0 x1 x2 x3
    have HS_wx4 := Hd (show wy3.heap.size ≤ wx4.heap.size from hb.size)
    have PX := Hd (PX.out.below hb)
    have PY := Hd (PY.out.below hb)
    have PZ := Hd (PZ.out.below hb)
    have RX := Hd (RX.out.below hb)
    have KX := Hd (KX.out.below hb)
    have RY := Hd (RY.out.below hb)
    have KY := Hd (KY.out.below hb)
    have RZ := Hd (RZ.out.below hb)
    have KZ := Hd (KZ.out.below hb)
    have HT := Hd (HT.out.below2 hb)
    have R8 := Hd (R8.out.below hb)
    have K8 := Hd (K8.out.below hb)
    have P8 := Hd (P8.out.below hb)
    have HB := Hd (belowTo HB.out hb)
    obtain ⟨l_d, d0, d1, d2, d3, -, -, -, -⟩ := P8.out.facts
    go_wp2_with fail
    refine (HSG.out wx4 A8 B8 c8 e8 R8.out K8.out).mono ?_
    rintro e wx5 ⟨rfl, hb⟩
    clear l_d d0 d1 d2 d3
    have HS_wx5 := Hd (show wx4.heap.size ≤ wx5.heap.size from hb.size)
    have PX := Hd (PX.out.below hb)
    have PY := Hd (PY.out.below hb)
    have PZ := Hd (PZ.out.below hb)
    have RX := Hd (RX.out.below hb)
    have KX := Hd (KX.out.below hb)
    have RY := Hd (RY.out.below hb)
    have KY := Hd (KY.out.below hb)
    have RZ := Hd (RZ.out.below hb)
    have KZ := Hd (KZ.out.below hb)
    have HT := Hd (HT.out.below2 hb)
    have R8 := Hd (R8.out.below hb)
    have K8 := Hd (K8.out.below hb)
    have P8 := Hd (P8.out.below hb)
    have HB := Hd (belowTo HB.out hb)
    obtain ⟨l_x, x0, x1, x2, x3, -, -, -, -⟩ := PX.out.facts
    obtain ⟨l_y, y0, y1, y2, y3, -, -, -, -⟩ := PY.out.facts
    go_wp2_with fail
    refine (HQ.out wx5 RX.out KX.out RY.out KY.out).mono ?_
    rintro e wx6 ⟨rfl, hb⟩
    clear l_x x0 x1 x2 x3
    clear l_y y0 y1 y2 y3
    have HS_wx6 := Hd (show wx5.heap.size ≤ wx6.heap.size from hb.size)
    have PX := Hd (PX.out.below hb)
    have PY := Hd (PY.out.below hb)
    have PZ := Hd (PZ.out.below hb)
    have RX := Hd (RX.out.below hb)
    have KX := Hd (KX.out.below hb)
    have RY := Hd (RY.out.below hb)
    have KY := Hd (KY.out.below hb)
    have RZ := Hd (RZ.out.below hb)
    have KZ := Hd (KZ.out.below hb)
    have HT := Hd (HT.out.below2 hb)
    have R8 := Hd (R8.out.below hb)
    have K8 := Hd (K8.out.below hb)
    have P8 := Hd (P8.out.below hb)
    have HB := Hd (belowTo HB.out hb)
    obtain ⟨l_y, y0, y1, y2, y3, -, -, -, -⟩ := PY.out.facts
    obtain ⟨l_z, z0, z1, z2, z3, -, -, -, -⟩ := PZ.out.facts
    go_wp2_with fail
    refine (M3.out wx6 RY.out KY.out RZ.out KZ.out).mono ?_
    rintro e wx7 ⟨rfl, hb⟩
    clear l_y y0 y1 y2 y3
    clear l_z z0 z1 z2 z3
    have HS_wx7 := Hd (show wx6.heap.size ≤ wx7.heap.size from hb.size)
    have PX := Hd (PX.out.below hb)
    have PY := Hd (PY.out.below hb)
    have PZ := Hd (PZ.out.below hb)
    have RX := Hd (RX.out.below hb)
    have KX := Hd (KX.out.below hb)
    have RY := Hd (RY.out.below hb)
    have KY := Hd (KY.out.below hb)
    have RZ := Hd (RZ.out.below hb)
    have KZ := Hd (KZ.out.below hb)
    have HT := Hd (HT.out.below2 hb)
    have R8 := Hd (R8.out.below hb)
    have K8 := Hd (K8.out.below hb)
    have P8 := Hd (P8.out.below hb)
    have HB := Hd (belowTo HB.out hb)
    have h9 := H9.out
    obtain ⟨l_x, x0, x1, x2, x3, -, -, -, -⟩ := PX.out.facts
    obtain ⟨l_z, z0, z1, z2, z3, -, -, -, -⟩ := PZ.out.facts
    go_wp2_with fail
    refine (M4.out wx7 RX.out KX.out RZ.out KZ.out).mono ?_
    rintro e wx8 ⟨rfl, hb⟩
    clear l_x x0 x1 x2 x3
    clear l_z z0 z1 z2 z3
    have HS_wx8 := Hd (show wx7.heap.size ≤ wx8.heap.size from hb.size)
    have PX := Hd (PX.out.below hb)
    have PY := Hd (PY.out.below hb)
    have PZ := Hd (PZ.out.below hb)
    have RX := Hd (RX.out.below hb)
    have KX := Hd (KX.out.below hb)
    have RY := Hd (RY.out.below hb)
    have KY := Hd (KY.out.below hb)
    have RZ := Hd (RZ.out.below hb)
    have KZ := Hd (KZ.out.below hb)
    have HT := Hd (HT.out.below2 hb)
    have R8 := Hd (R8.out.below hb)
    have K8 := Hd (K8.out.below hb)
    have P8 := Hd (P8.out.below hb)
    have HB := Hd (belowTo HB.out hb)
    have h0 := H0.out
    go_wp2_with fail
    refine (lives_ours wx8 HT.out).mono ?_
    rintro e wx9 ⟨rfl, hb⟩
    have HS_wx9 := Hd (show wx8.heap.size ≤ wx9.heap.size from hb.size)
    have PX := Hd (PX.out.below hb)
    have PY := Hd (PY.out.below hb)
    have PZ := Hd (PZ.out.below hb)
    have RX := Hd (RX.out.below hb)
    have KX := Hd (KX.out.below hb)
    have RY := Hd (RY.out.below hb)
    have KY := Hd (KY.out.below hb)
    have RZ := Hd (RZ.out.below hb)
    have KZ := Hd (KZ.out.below hb)
    have HT := Hd (HT.out.below2 hb)
    have R8 := Hd (R8.out.below hb)
    have K8 := Hd (K8.out.below hb)
    have P8 := Hd (P8.out.below hb)
    have HB := Hd (belowTo HB.out hb)
    go_wp2_with fail
    go_ret
    exact ⟨rfl, HB.out⟩

theorem forder_m_long_more (n d m f p g : Int) (A B A2 B2 A3 B3 : Option Addr) (c e0 c2 e2 c3 e3 : Nat) (w : World) (hx : Raw w A c (natL n.natAbs)) (kx : Raw w B e0 (natL d.natAbs)) (hy : Raw w A2 c2 (natL m.natAbs)) (ky : Raw w B2 e2 (natL f.natAbs)) (hz : Raw w A3 c3 (natL p.natAbs)) (kz : Raw w B3 e3 (natL g.natAbs)) (htab : powTab w) (hlx : (natL n.natAbs).length ≤ 1152921504606846975) (hly : (natL d.natAbs).length ≤ 1152921504606846975) (hlu : (natL m.natAbs).length ≤ 1152921504606846975) (hlv : (natL f.natAbs).length ≤ 1152921504606846975) (hlp : (natL p.natAbs).length ≤ 1152921504606846975) (hlq : (natL g.natAbs).length ≤ 1152921504606846975) (hb : decide (1048576 < [fcost (natL n.natAbs).length (natL d.natAbs).length, fcost (natL m.natAbs).length (natL f.natAbs).length, fcost (natL p.natAbs).length (natL g.natAbs).length].sum) = false) (f1 : Fine n d) (f2 : Fine m f) (f3 : Fine p g) (hk1 : cmpz (n * f) (m * d) = (-1)) (hl : ¬ (lz (subN n d m f) ≤ 2048 ∧ lz (subD n d m f) ≤ 2048)) (hk3 : 0 < cmpz (m * g) (p * f)) :
    Calls Tryd.prog 3 #[.agg #[.bool (decide (n < 0)), .slice A (natL n.natAbs).length c, .bool (decide (d < 0)), .slice B (natL d.natAbs).length e0], .agg #[.bool (decide (m < 0)), .slice A2 (natL m.natAbs).length c2, .bool (decide (f < 0)), .slice B2 (natL f.natAbs).length e2], .agg #[.bool (decide (p < 0)), .slice A3 (natL p.natAbs).length c3, .bool (decide (g < 0)), .slice B3 (natL g.natAbs).length e3]] w fun e w' => e = .returned (.bool true) ∧ Below w.heap.size w w' := by
  have Dx := fun (V : World) (a1 : Raw V A c (natL n.natAbs)) (a2 : Raw V B e0 (natL d.natAbs)) => frac_Check (decide (n < 0)) (decide (d < 0)) A B c e0 _ _ V a1 a2
  have Dy := fun (V : World) (a1 : Raw V A2 c2 (natL m.natAbs)) (a2 : Raw V B2 e2 (natL f.natAbs)) => frac_Check (decide (m < 0)) (decide (f < 0)) A2 B2 c2 e2 _ _ V a1 a2
  have Dz := fun (V : World) (a1 : Raw V A3 c3 (natL p.natAbs)) (a2 : Raw V B3 e3 (natL g.natAbs)) => frac_Check (decide (p < 0)) (decide (g < 0)) A3 B3 c3 e3 _ _ V a1 a2
  rw [f1.chk] at Dx
  rw [f2.chk] at Dy
  rw [f3.chk] at Dz
  have Ex := Hd Dx
  have Ey := Hd Dy
  have Ez := Hd Dz
  have M1 := Hd (fun (V : World) (a1 : Raw V A c (natL n.natAbs)) (a2 : Raw V B e0 (natL d.natAbs)) (a3 : Raw V A2 c2 (natL m.natAbs)) (a4 : Raw V B2 e2 (natL f.natAbs)) => frac_Cmp_good n d m f (-1) A B A2 B2 c e0 c2 e2 V a1 a2 a3 a4 f1 f2 hk1.symm)
  have M2 := Hd (fun (V : World) (a1 : Raw V A2 c2 (natL m.natAbs)) (a2 : Raw V B2 e2 (natL f.natAbs)) (a3 : Raw V A c (natL n.natAbs)) (a4 : Raw V B e0 (natL d.natAbs)) => frac_Cmp_good m f n d (1) A2 B2 A B c2 e2 c e0 V a1 a2 a3 a4 f2 f1 (by have := cmpz_turn (n * f) (m * d); rw [hk1] at this; omega))
  have S1 := fun (V : World) (a1 : Raw V A c (natL n.natAbs)) (a2 : Raw V B e0 (natL d.natAbs)) (a3 : Raw V A2 c2 (natL m.natAbs)) (a4 : Raw V B2 e2 (natL f.natAbs)) => frac_Sub_good n d m f A B A2 B2 c e0 c2 e2 V a1 a2 a3 a4 f1 f2
  have Q1 := fun (V : World) (a1 : Raw V A c (natL n.natAbs)) (a2 : Raw V B e0 (natL d.natAbs)) (a3 : Raw V A2 c2 (natL m.natAbs)) (a4 : Raw V B2 e2 (natL f.natAbs)) => sameFrac_any n d m f A B A2 B2 c e0 c2 e2 V a1 a2 a3 a4
  have hsame : decide (n = m ∧ d = f) = false := decide_eq_false (fun h => by have := (cmpz_nought _ _).2 ((frac_one_iff f1 f2).2 h); rw [hk1] at this; exact absurd this (by decide))
  rw [hsame] at Q1
  have HQ := Hd Q1
  have hss := sub_sign (n := n) (m := m) f1.pos f2.pos
  rw [hk1] at hss
  unfold ansN ansD ansK at S1
  simp only [if_neg hl] at S1
  obtain ⟨N, hN⟩ : ∃ k : Int, k = 0 := ⟨_, rfl⟩
  obtain ⟨D, hD⟩ : ∃ k : Int, k = 0 := ⟨_, rfl⟩
  have S1 : ∀ (V : World) (a1 : Raw V A c (natL n.natAbs)) (a2 : Raw V B e0 (natL d.natAbs)) (a3 : Raw V A2 c2 (natL m.natAbs)) (a4 : Raw V B2 e2 (natL f.natAbs)), Calls Tryd.prog 10 #[.agg #[.bool (decide (n < 0)), .slice A (natL n.natAbs).length c, .bool (decide (d < 0)), .slice B (natL d.natAbs).length e0], .agg #[.bool (decide (m < 0)), .slice A2 (natL m.natAbs).length c2, .bool (decide (f < 0)), .slice B2 (natL f.natAbs).length e2]] V (RetFracOwn2 V.heap.size V N D 4) := by rw [hN, hD]; exact S1
  have HS1 := Hd S1
  obtain ⟨k3, e3'⟩ : ∃ k : Int, k = cmpz (m * g) (p * f) := ⟨_, rfl⟩
  have M3 := Hd (fun (V : World) (a1 : Raw V A2 c2 (natL m.natAbs)) (a2 : Raw V B2 e2 (natL f.natAbs)) (a3 : Raw V A3 c3 (natL p.natAbs)) (a4 : Raw V B3 e3 (natL g.natAbs)) => frac_Cmp_good m f p g k3 A2 B2 A3 B3 c2 e2 c3 e3 V a1 a2 a3 a4 f2 f3 e3')
  rw [← e3'] at hk3
  have H9 := Hd hk3
  clear Dx Dy Dz S1 Q1 hsame hss f1 f2 f3 hk1 hl hN hD e3' hk3
  have C1 := fun (V : World) (a1 : Raw V A c (natL n.natAbs)) (a2 : Raw V B e0 (natL d.natAbs)) => frac_cost (decide (n < 0)) (decide (d < 0)) A B c e0 _ _ hlx hly V a1 a2
  have C2 := fun (V : World) (a1 : Raw V A2 c2 (natL m.natAbs)) (a2 : Raw V B2 e2 (natL f.natAbs)) => frac_cost (decide (m < 0)) (decide (f < 0)) A2 B2 c2 e2 _ _ hlu hlv V a1 a2
  have C3 := fun (V : World) (a1 : Raw V A3 c3 (natL p.natAbs)) (a2 : Raw V B3 e3 (natL g.natAbs)) => frac_cost (decide (p < 0)) (decide (g < 0)) A3 B3 c3 e3 _ _ hlp hlq V a1 a2
  have h1 := fcost_le hlx hly
  have h2 := fcost_le hlu hlv
  have h3 := fcost_le hlp hlq
  obtain ⟨s1, q1⟩ : ∃ k : Nat, k = fcost (natL n.natAbs).length (natL d.natAbs).length := ⟨_, rfl⟩
  obtain ⟨s2, q2⟩ : ∃ k : Nat, k = fcost (natL m.natAbs).length (natL f.natAbs).length := ⟨_, rfl⟩
  obtain ⟨s3, q3⟩ : ∃ k : Nat, k = fcost (natL p.natAbs).length (natL g.natAbs).length := ⟨_, rfl⟩
  rw [← q1] at C1 h1
  rw [← q2] at C2 h2
  rw [← q3] at C3 h3
  rw [← q1, ← q2, ← q3] at hb
  have H4 := Hd (fun (u : Value) (V : World) (h : SliceOf [s1, s2, s3] u V) => beyond_of2 [s1, s2, s3] false (by simp) (by simp; omega) hb.symm u V h)
  have H1 := Hd C1
  have H2 := Hd C2
  have H3 := Hd C3
  clear C1 C2 C3 h1 h2 h3 q1 q2 q3 hb hlx hly hlu hlv hlp hlq
  have b0 := (((Below.refl w.heap.size w).alloc (Nat.le_refl _) (.cells #[.bool (decide (n < 0)), .slice A (natL n.natAbs).length c, .bool (decide (d < 0)), .slice B (natL d.natAbs).length e0] 26)).alloc (by simp) (.cells #[.bool (decide (m < 0)), .slice A2 (natL m.natAbs).length c2, .bool (decide (f < 0)), .slice B2 (natL f.natAbs).length e2] 26)).alloc (by simp; omega) (.cells #[.bool (decide (p < 0)), .slice A3 (natL p.natAbs).length c3, .bool (decide (g < 0)), .slice B3 (natL g.natAbs).length e3] 26)
  have p0 := ((Quad.new w (.bool (decide (n < 0))) (.slice A (natL n.natAbs).length c) (.bool (decide (d < 0))) (.slice B (natL d.natAbs).length e0)).alloc (.cells #[.bool (decide (m < 0)), .slice A2 (natL m.natAbs).length c2, .bool (decide (f < 0)), .slice B2 (natL f.natAbs).length e2] 26)).alloc (.cells #[.bool (decide (p < 0)), .slice A3 (natL p.natAbs).length c3, .bool (decide (g < 0)), .slice B3 (natL g.natAbs).length e3] 26)
  have p1 := (Quad.new (w.alloc (.cells #[.bool (decide (n < 0)), .slice A (natL n.natAbs).length c, .bool (decide (d < 0)), .slice B (natL d.natAbs).length e0] 26)) (.bool (decide (m < 0))) (.slice A2 (natL m.natAbs).length c2) (.bool (decide (f < 0))) (.slice B2 (natL f.natAbs).length e2)).alloc (.cells #[.bool (decide (p < 0)), .slice A3 (natL p.natAbs).length c3, .bool (decide (g < 0)), .slice B3 (natL g.natAbs).length e3] 26)
  have p2 := Quad.new ((w.alloc (.cells #[.bool (decide (n < 0)), .slice A (natL n.natAbs).length c, .bool (decide (d < 0)), .slice B (natL d.natAbs).length e0] 26)).alloc (.cells #[.bool (decide (m < 0)), .slice A2 (natL m.natAbs).length c2, .bool (decide (f < 0)), .slice B2 (natL f.natAbs).length e2] 26)) (.bool (decide (p < 0))) (.slice A3 (natL p.natAbs).length c3) (.bool (decide (g < 0))) (.slice B3 (natL g.natAbs).length e3)
  simp only [World.size_alloc] at p1 p2
  have PX := Hd p0
  have PY := Hd p1
  have PZ := Hd p2
  have RX := Hd (hx.below b0)
  have KX := Hd (kx.below b0)
  have RY := Hd (hy.below b0)
  have KY := Hd (ky.below b0)
  have RZ := Hd (hz.below b0)
  have KZ := Hd (kz.below b0)
  have HT := Hd (htab.below2 b0)
  have HB := Hd b0
  clear b0 p0 p1 p2 hx kx hy ky hz kz htab
  go_enter Tryd.func3, Tryd.ntmps3
  go_wp2_with fail
  obtain ⟨W, E⟩ : ∃ W, W = ((w.alloc (.cells #[.bool (decide (n < 0)), .slice A (natL n.natAbs).length c, .bool (decide (d < 0)), .slice B (natL d.natAbs).length e0] 26)).alloc (.cells #[.bool (decide (m < 0)), .slice A2 (natL m.natAbs).length c2, .bool (decide (f < 0)), .slice B2 (natL f.natAbs).length e2] 26)).alloc (.cells #[.bool (decide (p < 0)), .slice A3 (natL p.natAbs).length c3, .bool (decide (g < 0)), .slice B3 (natL g.natAbs).length e3] 26) := ⟨_, rfl⟩
  rw [← E] at PX PY PZ RX KX RY KY RZ KZ HT HB ⊢
  clear E
  refine wp_region_free [.val (.agg #[.bool (decide (n < 0)), .slice A (natL n.natAbs).length c, .bool (decide (d < 0)), .slice B (natL d.natAbs).length e0]) [], .val (.int .i64 s1) [], .val (.agg #[.bool (decide (m < 0)), .slice A2 (natL m.natAbs).length c2, .bool (decide (f < 0)), .slice B2 (natL f.natAbs).length e2]) [], .val (.int .i64 s2) [], .val (.agg #[.bool (decide (p < 0)), .slice A3 (natL p.natAbs).length c3, .bool (decide (g < 0)), .slice B3 (natL g.natAbs).length e3]) [], .val (.int .i64 s3) [], .any false (SliceOf [s1, s2, s3]) [], .val (.bool false) [6], .val (.bool false) [], .val (.agg #[.bool (decide (n < 0)), .slice A (natL n.natAbs).length c, .bool (decide (d < 0)), .slice B (natL d.natAbs).length e0]) [], .val (.int .i64 0) [], .val (.bool false) [], .val (.bool false) [], .val (.bool false) [], .val (.agg #[.bool (decide (m < 0)), .slice A2 (natL m.natAbs).length c2, .bool (decide (f < 0)), .slice B2 (natL f.natAbs).length e2]) [], .val (.int .i64 0) [], .val (.bool false) [], .val (.bool false) [], .val (.bool false) [], .val (.agg #[.bool (decide (p < 0)), .slice A3 (natL p.natAbs).length c3, .bool (decide (g < 0)), .slice B3 (natL g.natAbs).length e3]) [], .val (.int .i64 0) [], .val (.bool false) [], .val (.bool false) []] W.heap.size W [] blkInt _ mixedOrders2 (Nat.le_refl _) (Below.refl _ _) (KeptV.refl _ _ _) rfl (by kernel_rfl) (by kernel_rfl) (by kernel_rfl) (by kernel_rfl) (by kernel_rfl) (by kernel_rfl) (by kernel_rfl) (by kernel_rfl) rfl (by simp [oldsF]) ?_ ?_ ?_ ?_
  · simp only [StableF, and_true]
    exact fun u V V' h k => h.kept k
  · simp only [OldsF]
  · simp (maxSteps := 4000000) [StepsF, DepF, freeAct, fill, pairs]
    repeat' (first | apply And.intro | (intro (u : Value)) | (intro (u : Nat)))
    all_goals first
    | (intro V hV hK; clear hV hK; go_simp; exact Below.refl _ _)
    | (intro V hV hK
       have r1 := RX.out.below hV
       have r2 := KX.out.below hV
       have r3 := RY.out.below hV
       have r4 := KY.out.below hV
       have r5 := RZ.out.below hV
       have r6 := KZ.out.below hV
       obtain ⟨-, a_x, b_x, c_x, d_x, -, -, -, -⟩ := (PX.out.below hV).facts
       obtain ⟨-, a_y, b_y, c_y, d_y, -, -, -, -⟩ := (PY.out.below hV).facts
       obtain ⟨-, a_z, b_z, c_z, d_z, -, -, -, -⟩ := (PZ.out.below hV).facts
       clear hV hK
       go_simp
       first
       | exact Below.refl _ _
       | ((with_reducible refine (H1.out V r1 r2).mono ?_); rintro e w' ⟨rfl, hb⟩; exact ⟨rfl, hb⟩)
       | ((with_reducible refine (H2.out V r3 r4).mono ?_); rintro e w' ⟨rfl, hb⟩; exact ⟨rfl, hb⟩)
       | ((with_reducible refine (H3.out V r5 r6).mono ?_); rintro e w' ⟨rfl, hb⟩; exact ⟨rfl, hb⟩)
       | ((with_reducible refine (Ex.out V r1 r2).mono ?_); rintro e w' ⟨rfl, hb⟩; exact ⟨rfl, hb⟩)
       | ((with_reducible refine (Ey.out V r3 r4).mono ?_); rintro e w' ⟨rfl, hb⟩; exact ⟨rfl, hb⟩)
       | ((with_reducible refine (Ez.out V r5 r6).mono ?_); rintro e w' ⟨rfl, hb⟩; exact ⟨rfl, hb⟩)
       | exact ⟨SliceOf.new [s1, s2, s3] _ _ _ rfl, (Below.refl _ _).alloc (Nat.le_refl _) _⟩)
    | (intro V hV hK h1
       clear hV hK
       go_simp
       refine (H4.out _ V h1).mono ?_
       rintro e w' ⟨rfl, hb⟩
       exact ⟨rfl, hb⟩)
  · simp [EndF, FactsF, freeAct, fill, pairs]
    intro u1 V hV hK _ _ _ _
    have PX := Hd (PX.out.below hV)
    have PY := Hd (PY.out.below hV)
    have PZ := Hd (PZ.out.below hV)
    have RX := Hd (RX.out.below hV)
    have KX := Hd (KX.out.below hV)
    have RY := Hd (RY.out.below hV)
    have KY := Hd (KY.out.below hV)
    have RZ := Hd (RZ.out.below hV)
    have KZ := Hd (KZ.out.below hV)
    have HT := Hd (HT.out.below2 hV)
    have HB := Hd (belowTo HB.out hV)
    clear hV hK H1 H2 H3 H4 Ex Ey Ez
    obtain ⟨l_x, x0, x1, x2, x3, -, -, -, -⟩ := PX.out.facts
    obtain ⟨l_y, y0, y1, y2, y3, -, -, -, -⟩ := PY.out.facts
    go_wp2_with fail
    refine (M1.out V RX.out KX.out RY.out KY.out).mono ?_
    rintro e wx1 ⟨rfl, hb⟩
    clear l_x x0 x1 x2 x3
    clear l_y y0 y1 y2 y3
    have HS_wx1 := Hd (show V.heap.size ≤ wx1.heap.size from hb.size)
    have PX := Hd (PX.out.below hb)
    have PY := Hd (PY.out.below hb)
    have PZ := Hd (PZ.out.below hb)
    have RX := Hd (RX.out.below hb)
    have KX := Hd (KX.out.below hb)
    have RY := Hd (RY.out.below hb)
    have KY := Hd (KY.out.below hb)
    have RZ := Hd (RZ.out.below hb)
    have KZ := Hd (KZ.out.below hb)
    have HT := Hd (HT.out.below2 hb)
    have HB := Hd (belowTo HB.out hb)
    obtain ⟨l_x, x0, x1, x2, x3, -, -, -, -⟩ := PX.out.facts
    obtain ⟨l_y, y0, y1, y2, y3, -, -, -, -⟩ := PY.out.facts
    go_wp2_with fail
    refine (HS1.out wx1 RX.out KX.out RY.out KY.out).mono ?_
    rintro e wx2 ⟨v, rfl, hI, hb⟩
    clear l_x x0 x1 x2 x3
    clear l_y y0 y1 y2 y3
    obtain ⟨A8, c8, B8, e8, rfl, i1, i2, -⟩ := hI.form
    have R8 := Hd i1.rawAt
    have K8 := Hd i2.rawAt
    clear hI i1 i2
    have HS_wx2 := Hd (show wx1.heap.size ≤ wx2.heap.size from hb.size)
    have PX := Hd (PX.out.below hb)
    have PY := Hd (PY.out.below hb)
    have PZ := Hd (PZ.out.below hb)
    have RX := Hd (RX.out.below hb)
    have KX := Hd (KX.out.below hb)
    have RY := Hd (RY.out.below hb)
    have KY := Hd (KY.out.below hb)
    have RZ := Hd (RZ.out.below hb)
    have KZ := Hd (KZ.out.below hb)
    have HT := Hd (HT.out.below2 hb)
    have HB := Hd (belowTo HB.out hb)
    clear R8 K8
    have ha := (Below.refl wx2.heap.size wx2).alloc (Nat.le_refl _) (.cells #[.bool (decide (N < 0)), .slice A8 (natL N.natAbs).length c8, .bool (decide (D < 0)), .slice B8 (natL D.natAbs).length e8] 26)
    have hn := Quad.new wx2 (.bool (decide (N < 0))) (.slice A8 (natL N.natAbs).length c8) (.bool (decide (D < 0))) (.slice B8 (natL D.natAbs).length e8)
    have hz : (wx2.alloc (.cells #[.bool (decide (N < 0)), .slice A8 (natL N.natAbs).length c8, .bool (decide (D < 0)), .slice B8 (natL D.natAbs).length e8] 26)).heap.size = wx2.heap.size + 1 := by simp
    go_upto_region 5 with fail
    obtain ⟨wy3, E⟩ : ∃ W, W = wx2.alloc (.cells #[.bool (decide (N < 0)), .slice A8 (natL N.natAbs).length c8, .bool (decide (D < 0)), .slice B8 (natL D.natAbs).length e8] 26) := ⟨_, rfl⟩
    obtain ⟨q3, hq⟩ : ∃ q, q = wx2.heap.size := ⟨_, rfl⟩
    rw [← E] at ha
    rw [← E, ← hq] at hn hz ⊢
    have HZ_wy3 := Hd (And.intro hq hz)
    have P8 := Hd hn
    have PX := Hd (PX.out.below ha)
    have PY := Hd (PY.out.below ha)
    have PZ := Hd (PZ.out.below ha)
    have RX := Hd (RX.out.below ha)
    have KX := Hd (KX.out.below ha)
    have RY := Hd (RY.out.below ha)
    have KY := Hd (KY.out.below ha)
    have RZ := Hd (RZ.out.below ha)
    have KZ := Hd (KZ.out.below ha)
    have HT := Hd (HT.out.below2 ha)
    have HB := Hd (belowTo HB.out ha)
    clear ha hn hz hq E
    obtain ⟨l_y, y0, y1, y2, y3, -, -, -, -⟩ := PY.out.facts
    obtain ⟨l_x, x0, x1, x2, x3, -, -, -, -⟩ := PX.out.facts
    go_wp2_with fail
    refine (M2.out wy3 RY.out KY.out RX.out KX.out).mono ?_
    rintro e wx4 ⟨rfl, hb⟩
    clear l_y y0 y1 y2 y3
    clear l_x x0 x1 x2 x3
    have HS_wx4 := Hd (show wy3.heap.size ≤ wx4.heap.size from hb.size)
    have PX := Hd (PX.out.below hb)
    have PY := Hd (PY.out.below hb)
    have PZ := Hd (PZ.out.below hb)
    have RX := Hd (RX.out.below hb)
    have KX := Hd (KX.out.below hb)
    have RY := Hd (RY.out.below hb)
    have KY := Hd (KY.out.below hb)
    have RZ := Hd (RZ.out.below hb)
    have KZ := Hd (KZ.out.below hb)
    have HT := Hd (HT.out.below2 hb)
    have P8 := Hd (P8.out.below hb)
    have HB := Hd (belowTo HB.out hb)
    obtain ⟨l_x, x0, x1, x2, x3, -, -, -, -⟩ := PX.out.facts
    obtain ⟨l_y, y0, y1, y2, y3, -, -, -, -⟩ := PY.out.facts
    go_wp2_with fail
    refine (HQ.out wx4 RX.out KX.out RY.out KY.out).mono ?_
    rintro e wx5 ⟨rfl, hb⟩
    clear l_x x0 x1 x2 x3
    clear l_y y0 y1 y2 y3
    have HS_wx5 := Hd (show wx4.heap.size ≤ wx5.heap.size from hb.size)
    have PX := Hd (PX.out.below hb)
    have PY := Hd (PY.out.below hb)
    have PZ := Hd (PZ.out.below hb)
    have RX := Hd (RX.out.below hb)
    have KX := Hd (KX.out.below hb)
    have RY := Hd (RY.out.below hb)
    have KY := Hd (KY.out.below hb)
    have RZ := Hd (RZ.out.below hb)
    have KZ := Hd (KZ.out.below hb)
    have HT := Hd (HT.out.below2 hb)
    have P8 := Hd (P8.out.below hb)
    have HB := Hd (belowTo HB.out hb)
    obtain ⟨l_y, y0, y1, y2, y3, -, -, -, -⟩ := PY.out.facts
    obtain ⟨l_z, z0, z1, z2, z3, -, -, -, -⟩ := PZ.out.facts
    go_wp2_with fail
    refine (M3.out wx5 RY.out KY.out RZ.out KZ.out).mono ?_
    rintro e wx6 ⟨rfl, hb⟩
    clear l_y y0 y1 y2 y3
    clear l_z z0 z1 z2 z3
    have HS_wx6 := Hd (show wx5.heap.size ≤ wx6.heap.size from hb.size)
    have PX := Hd (PX.out.below hb)
    have PY := Hd (PY.out.below hb)
    have PZ := Hd (PZ.out.below hb)
    have RX := Hd (RX.out.below hb)
    have KX := Hd (KX.out.below hb)
    have RY := Hd (RY.out.below hb)
    have KY := Hd (KY.out.below hb)
    have RZ := Hd (RZ.out.below hb)
    have KZ := Hd (KZ.out.below hb)
    have HT := Hd (HT.out.below2 hb)
    have P8 := Hd (P8.out.below hb)
    have HB := Hd (belowTo HB.out hb)
    have h9 := H9.out
    go_wp2_with fail
    refine (lives_ours wx6 HT.out).mono ?_
    rintro e wx7 ⟨rfl, hb⟩
    have HS_wx7 := Hd (show wx6.heap.size ≤ wx7.heap.size from hb.size)
    have PX := Hd (PX.out.below hb)
    have PY := Hd (PY.out.below hb)
    have PZ := Hd (PZ.out.below hb)
    have RX := Hd (RX.out.below hb)
    have KX := Hd (KX.out.below hb)
    have RY := Hd (RY.out.below hb)
    have KY := Hd (KY.out.below hb)
    have RZ := Hd (RZ.out.below hb)
    have KZ := Hd (KZ.out.below hb)
    have HT := Hd (HT.out.below2 hb)
    have P8 := Hd (P8.out.below hb)
    have HB := Hd (belowTo HB.out hb)
    go_wp2_with fail
    go_ret
    exact ⟨rfl, HB.out⟩

theorem forder_m_long_less (n d m f p g : Int) (A B A2 B2 A3 B3 : Option Addr) (c e0 c2 e2 c3 e3 : Nat) (w : World) (hx : Raw w A c (natL n.natAbs)) (kx : Raw w B e0 (natL d.natAbs)) (hy : Raw w A2 c2 (natL m.natAbs)) (ky : Raw w B2 e2 (natL f.natAbs)) (hz : Raw w A3 c3 (natL p.natAbs)) (kz : Raw w B3 e3 (natL g.natAbs)) (htab : powTab w) (hlx : (natL n.natAbs).length ≤ 1152921504606846975) (hly : (natL d.natAbs).length ≤ 1152921504606846975) (hlu : (natL m.natAbs).length ≤ 1152921504606846975) (hlv : (natL f.natAbs).length ≤ 1152921504606846975) (hlp : (natL p.natAbs).length ≤ 1152921504606846975) (hlq : (natL g.natAbs).length ≤ 1152921504606846975) (hb : decide (1048576 < [fcost (natL n.natAbs).length (natL d.natAbs).length, fcost (natL m.natAbs).length (natL f.natAbs).length, fcost (natL p.natAbs).length (natL g.natAbs).length].sum) = false) (f1 : Fine n d) (f2 : Fine m f) (f3 : Fine p g) (hk1 : cmpz (n * f) (m * d) = (-1)) (hl : ¬ (lz (subN n d m f) ≤ 2048 ∧ lz (subD n d m f) ≤ 2048)) (hk3 : cmpz (m * g) (p * f) ≤ 0) :
    Calls Tryd.prog 3 #[.agg #[.bool (decide (n < 0)), .slice A (natL n.natAbs).length c, .bool (decide (d < 0)), .slice B (natL d.natAbs).length e0], .agg #[.bool (decide (m < 0)), .slice A2 (natL m.natAbs).length c2, .bool (decide (f < 0)), .slice B2 (natL f.natAbs).length e2], .agg #[.bool (decide (p < 0)), .slice A3 (natL p.natAbs).length c3, .bool (decide (g < 0)), .slice B3 (natL g.natAbs).length e3]] w fun e w' => e = .returned (.bool true) ∧ Below w.heap.size w w' := by
  have Dx := fun (V : World) (a1 : Raw V A c (natL n.natAbs)) (a2 : Raw V B e0 (natL d.natAbs)) => frac_Check (decide (n < 0)) (decide (d < 0)) A B c e0 _ _ V a1 a2
  have Dy := fun (V : World) (a1 : Raw V A2 c2 (natL m.natAbs)) (a2 : Raw V B2 e2 (natL f.natAbs)) => frac_Check (decide (m < 0)) (decide (f < 0)) A2 B2 c2 e2 _ _ V a1 a2
  have Dz := fun (V : World) (a1 : Raw V A3 c3 (natL p.natAbs)) (a2 : Raw V B3 e3 (natL g.natAbs)) => frac_Check (decide (p < 0)) (decide (g < 0)) A3 B3 c3 e3 _ _ V a1 a2
  rw [f1.chk] at Dx
  rw [f2.chk] at Dy
  rw [f3.chk] at Dz
  have Ex := Hd Dx
  have Ey := Hd Dy
  have Ez := Hd Dz
  have M1 := Hd (fun (V : World) (a1 : Raw V A c (natL n.natAbs)) (a2 : Raw V B e0 (natL d.natAbs)) (a3 : Raw V A2 c2 (natL m.natAbs)) (a4 : Raw V B2 e2 (natL f.natAbs)) => frac_Cmp_good n d m f (-1) A B A2 B2 c e0 c2 e2 V a1 a2 a3 a4 f1 f2 hk1.symm)
  have M2 := Hd (fun (V : World) (a1 : Raw V A2 c2 (natL m.natAbs)) (a2 : Raw V B2 e2 (natL f.natAbs)) (a3 : Raw V A c (natL n.natAbs)) (a4 : Raw V B e0 (natL d.natAbs)) => frac_Cmp_good m f n d (1) A2 B2 A B c2 e2 c e0 V a1 a2 a3 a4 f2 f1 (by have := cmpz_turn (n * f) (m * d); rw [hk1] at this; omega))
  have S1 := fun (V : World) (a1 : Raw V A c (natL n.natAbs)) (a2 : Raw V B e0 (natL d.natAbs)) (a3 : Raw V A2 c2 (natL m.natAbs)) (a4 : Raw V B2 e2 (natL f.natAbs)) => frac_Sub_good n d m f A B A2 B2 c e0 c2 e2 V a1 a2 a3 a4 f1 f2
  have Q1 := fun (V : World) (a1 : Raw V A c (natL n.natAbs)) (a2 : Raw V B e0 (natL d.natAbs)) (a3 : Raw V A2 c2 (natL m.natAbs)) (a4 : Raw V B2 e2 (natL f.natAbs)) => sameFrac_any n d m f A B A2 B2 c e0 c2 e2 V a1 a2 a3 a4
  have hsame : decide (n = m ∧ d = f) = false := decide_eq_false (fun h => by have := (cmpz_nought _ _).2 ((frac_one_iff f1 f2).2 h); rw [hk1] at this; exact absurd this (by decide))
  rw [hsame] at Q1
  have HQ := Hd Q1
  have hss := sub_sign (n := n) (m := m) f1.pos f2.pos
  rw [hk1] at hss
  unfold ansN ansD ansK at S1
  simp only [if_neg hl] at S1
  obtain ⟨N, hN⟩ : ∃ k : Int, k = 0 := ⟨_, rfl⟩
  obtain ⟨D, hD⟩ : ∃ k : Int, k = 0 := ⟨_, rfl⟩
  have S1 : ∀ (V : World) (a1 : Raw V A c (natL n.natAbs)) (a2 : Raw V B e0 (natL d.natAbs)) (a3 : Raw V A2 c2 (natL m.natAbs)) (a4 : Raw V B2 e2 (natL f.natAbs)), Calls Tryd.prog 10 #[.agg #[.bool (decide (n < 0)), .slice A (natL n.natAbs).length c, .bool (decide (d < 0)), .slice B (natL d.natAbs).length e0], .agg #[.bool (decide (m < 0)), .slice A2 (natL m.natAbs).length c2, .bool (decide (f < 0)), .slice B2 (natL f.natAbs).length e2]] V (RetFracOwn2 V.heap.size V N D 4) := by rw [hN, hD]; exact S1
  have HS1 := Hd S1
  obtain ⟨k3, e3'⟩ : ∃ k : Int, k = cmpz (m * g) (p * f) := ⟨_, rfl⟩
  have M3 := Hd (fun (V : World) (a1 : Raw V A2 c2 (natL m.natAbs)) (a2 : Raw V B2 e2 (natL f.natAbs)) (a3 : Raw V A3 c3 (natL p.natAbs)) (a4 : Raw V B3 e3 (natL g.natAbs)) => frac_Cmp_good m f p g k3 A2 B2 A3 B3 c2 e2 c3 e3 V a1 a2 a3 a4 f2 f3 e3')
  obtain ⟨k4, e4'⟩ : ∃ k : Int, k = cmpz (n * g) (p * d) := ⟨_, rfl⟩
  have M4 := Hd (fun (V : World) (a1 : Raw V A c (natL n.natAbs)) (a2 : Raw V B e0 (natL d.natAbs)) (a3 : Raw V A3 c3 (natL p.natAbs)) (a4 : Raw V B3 e3 (natL g.natAbs)) => frac_Cmp_good n d p g k4 A B A3 B3 c e0 c3 e3 V a1 a2 a3 a4 f1 f3 e4')
  have H0 := Hd (show k4 ≤ 0 from by
    rw [e4']
    exact (cmpz_le0 _ _).2 (cmp_three f1.pos f2.pos f3.pos ((cmpz_le0 _ _).1 (by rw [hk1]; decide)) ((cmpz_le0 _ _).1 hk3)))
  rw [← e3'] at hk3
  have H9 := Hd hk3
  clear Dx Dy Dz S1 Q1 hsame hss f1 f2 f3 hk1 hl hN hD e3' hk3 e4'
  have C1 := fun (V : World) (a1 : Raw V A c (natL n.natAbs)) (a2 : Raw V B e0 (natL d.natAbs)) => frac_cost (decide (n < 0)) (decide (d < 0)) A B c e0 _ _ hlx hly V a1 a2
  have C2 := fun (V : World) (a1 : Raw V A2 c2 (natL m.natAbs)) (a2 : Raw V B2 e2 (natL f.natAbs)) => frac_cost (decide (m < 0)) (decide (f < 0)) A2 B2 c2 e2 _ _ hlu hlv V a1 a2
  have C3 := fun (V : World) (a1 : Raw V A3 c3 (natL p.natAbs)) (a2 : Raw V B3 e3 (natL g.natAbs)) => frac_cost (decide (p < 0)) (decide (g < 0)) A3 B3 c3 e3 _ _ hlp hlq V a1 a2
  have h1 := fcost_le hlx hly
  have h2 := fcost_le hlu hlv
  have h3 := fcost_le hlp hlq
  obtain ⟨s1, q1⟩ : ∃ k : Nat, k = fcost (natL n.natAbs).length (natL d.natAbs).length := ⟨_, rfl⟩
  obtain ⟨s2, q2⟩ : ∃ k : Nat, k = fcost (natL m.natAbs).length (natL f.natAbs).length := ⟨_, rfl⟩
  obtain ⟨s3, q3⟩ : ∃ k : Nat, k = fcost (natL p.natAbs).length (natL g.natAbs).length := ⟨_, rfl⟩
  rw [← q1] at C1 h1
  rw [← q2] at C2 h2
  rw [← q3] at C3 h3
  rw [← q1, ← q2, ← q3] at hb
  have H4 := Hd (fun (u : Value) (V : World) (h : SliceOf [s1, s2, s3] u V) => beyond_of2 [s1, s2, s3] false (by simp) (by simp; omega) hb.symm u V h)
  have H1 := Hd C1
  have H2 := Hd C2
  have H3 := Hd C3
  clear C1 C2 C3 h1 h2 h3 q1 q2 q3 hb hlx hly hlu hlv hlp hlq
  have b0 := (((Below.refl w.heap.size w).alloc (Nat.le_refl _) (.cells #[.bool (decide (n < 0)), .slice A (natL n.natAbs).length c, .bool (decide (d < 0)), .slice B (natL d.natAbs).length e0] 26)).alloc (by simp) (.cells #[.bool (decide (m < 0)), .slice A2 (natL m.natAbs).length c2, .bool (decide (f < 0)), .slice B2 (natL f.natAbs).length e2] 26)).alloc (by simp; omega) (.cells #[.bool (decide (p < 0)), .slice A3 (natL p.natAbs).length c3, .bool (decide (g < 0)), .slice B3 (natL g.natAbs).length e3] 26)
  have p0 := ((Quad.new w (.bool (decide (n < 0))) (.slice A (natL n.natAbs).length c) (.bool (decide (d < 0))) (.slice B (natL d.natAbs).length e0)).alloc (.cells #[.bool (decide (m < 0)), .slice A2 (natL m.natAbs).length c2, .bool (decide (f < 0)), .slice B2 (natL f.natAbs).length e2] 26)).alloc (.cells #[.bool (decide (p < 0)), .slice A3 (natL p.natAbs).length c3, .bool (decide (g < 0)), .slice B3 (natL g.natAbs).length e3] 26)
  have p1 := (Quad.new (w.alloc (.cells #[.bool (decide (n < 0)), .slice A (natL n.natAbs).length c, .bool (decide (d < 0)), .slice B (natL d.natAbs).length e0] 26)) (.bool (decide (m < 0))) (.slice A2 (natL m.natAbs).length c2) (.bool (decide (f < 0))) (.slice B2 (natL f.natAbs).length e2)).alloc (.cells #[.bool (decide (p < 0)), .slice A3 (natL p.natAbs).length c3, .bool (decide (g < 0)), .slice B3 (natL g.natAbs).length e3] 26)
  have p2 := Quad.new ((w.alloc (.cells #[.bool (decide (n < 0)), .slice A (natL n.natAbs).length c, .bool (decide (d < 0)), .slice B (natL d.natAbs).length e0] 26)).alloc (.cells #[.bool (decide (m < 0)), .slice A2 (natL m.natAbs).length c2, .bool (decide (f < 0)), .slice B2 (natL f.natAbs).length e2] 26)) (.bool (decide (p < 0))) (.slice A3 (natL p.natAbs).length c3) (.bool (decide (g < 0))) (.slice B3 (natL g.natAbs).length e3)
  simp only [World.size_alloc] at p1 p2
  have PX := Hd p0
  have PY := Hd p1
  have PZ := Hd p2
  have RX := Hd (hx.below b0)
  have KX := Hd (kx.below b0)
  have RY := Hd (hy.below b0)
  have KY := Hd (ky.below b0)
  have RZ := Hd (hz.below b0)
  have KZ := Hd (kz.below b0)
  have HT := Hd (htab.below2 b0)
  have HB := Hd b0
  clear b0 p0 p1 p2 hx kx hy ky hz kz htab
  go_enter Tryd.func3, Tryd.ntmps3
  go_wp2_with fail
  obtain ⟨W, E⟩ : ∃ W, W = ((w.alloc (.cells #[.bool (decide (n < 0)), .slice A (natL n.natAbs).length c, .bool (decide (d < 0)), .slice B (natL d.natAbs).length e0] 26)).alloc (.cells #[.bool (decide (m < 0)), .slice A2 (natL m.natAbs).length c2, .bool (decide (f < 0)), .slice B2 (natL f.natAbs).length e2] 26)).alloc (.cells #[.bool (decide (p < 0)), .slice A3 (natL p.natAbs).length c3, .bool (decide (g < 0)), .slice B3 (natL g.natAbs).length e3] 26) := ⟨_, rfl⟩
  rw [← E] at PX PY PZ RX KX RY KY RZ KZ HT HB ⊢
  clear E
  refine wp_region_free [.val (.agg #[.bool (decide (n < 0)), .slice A (natL n.natAbs).length c, .bool (decide (d < 0)), .slice B (natL d.natAbs).length e0]) [], .val (.int .i64 s1) [], .val (.agg #[.bool (decide (m < 0)), .slice A2 (natL m.natAbs).length c2, .bool (decide (f < 0)), .slice B2 (natL f.natAbs).length e2]) [], .val (.int .i64 s2) [], .val (.agg #[.bool (decide (p < 0)), .slice A3 (natL p.natAbs).length c3, .bool (decide (g < 0)), .slice B3 (natL g.natAbs).length e3]) [], .val (.int .i64 s3) [], .any false (SliceOf [s1, s2, s3]) [], .val (.bool false) [6], .val (.bool false) [], .val (.agg #[.bool (decide (n < 0)), .slice A (natL n.natAbs).length c, .bool (decide (d < 0)), .slice B (natL d.natAbs).length e0]) [], .val (.int .i64 0) [], .val (.bool false) [], .val (.bool false) [], .val (.bool false) [], .val (.agg #[.bool (decide (m < 0)), .slice A2 (natL m.natAbs).length c2, .bool (decide (f < 0)), .slice B2 (natL f.natAbs).length e2]) [], .val (.int .i64 0) [], .val (.bool false) [], .val (.bool false) [], .val (.bool false) [], .val (.agg #[.bool (decide (p < 0)), .slice A3 (natL p.natAbs).length c3, .bool (decide (g < 0)), .slice B3 (natL g.natAbs).length e3]) [], .val (.int .i64 0) [], .val (.bool false) [], .val (.bool false) []] W.heap.size W [] blkInt _ mixedOrders2 (Nat.le_refl _) (Below.refl _ _) (KeptV.refl _ _ _) rfl (by kernel_rfl) (by kernel_rfl) (by kernel_rfl) (by kernel_rfl) (by kernel_rfl) (by kernel_rfl) (by kernel_rfl) (by kernel_rfl) rfl (by simp [oldsF]) ?_ ?_ ?_ ?_
  · simp only [StableF, and_true]
    exact fun u V V' h k => h.kept k
  · simp only [OldsF]
  · simp (maxSteps := 4000000) [StepsF, DepF, freeAct, fill, pairs]
    repeat' (first | apply And.intro | (intro (u : Value)) | (intro (u : Nat)))
    all_goals first
    | (intro V hV hK; clear hV hK; go_simp; exact Below.refl _ _)
    | (intro V hV hK
       have r1 := RX.out.below hV
       have r2 := KX.out.below hV
       have r3 := RY.out.below hV
       have r4 := KY.out.below hV
       have r5 := RZ.out.below hV
       have r6 := KZ.out.below hV
       obtain ⟨-, a_x, b_x, c_x, d_x, -, -, -, -⟩ := (PX.out.below hV).facts
       obtain ⟨-, a_y, b_y, c_y, d_y, -, -, -, -⟩ := (PY.out.below hV).facts
       obtain ⟨-, a_z, b_z, c_z, d_z, -, -, -, -⟩ := (PZ.out.below hV).facts
       clear hV hK
       go_simp
       first
       | exact Below.refl _ _
       | ((with_reducible refine (H1.out V r1 r2).mono ?_); rintro e w' ⟨rfl, hb⟩; exact ⟨rfl, hb⟩)
       | ((with_reducible refine (H2.out V r3 r4).mono ?_); rintro e w' ⟨rfl, hb⟩; exact ⟨rfl, hb⟩)
       | ((with_reducible refine (H3.out V r5 r6).mono ?_); rintro e w' ⟨rfl, hb⟩; exact ⟨rfl, hb⟩)
       | ((with_reducible refine (Ex.out V r1 r2).mono ?_); rintro e w' ⟨rfl, hb⟩; exact ⟨rfl, hb⟩)
       | ((with_reducible refine (Ey.out V r3 r4).mono ?_); rintro e w' ⟨rfl, hb⟩; exact ⟨rfl, hb⟩)
       | ((with_reducible refine (Ez.out V r5 r6).mono ?_); rintro e w' ⟨rfl, hb⟩; exact ⟨rfl, hb⟩)
       | exact ⟨SliceOf.new [s1, s2, s3] _ _ _ rfl, (Below.refl _ _).alloc (Nat.le_refl _) _⟩)
    | (intro V hV hK h1
       clear hV hK
       go_simp
       refine (H4.out _ V h1).mono ?_
       rintro e w' ⟨rfl, hb⟩
       exact ⟨rfl, hb⟩)
  · simp [EndF, FactsF, freeAct, fill, pairs]
    intro u1 V hV hK _ _ _ _
    have PX := Hd (PX.out.below hV)
    have PY := Hd (PY.out.below hV)
    have PZ := Hd (PZ.out.below hV)
    have RX := Hd (RX.out.below hV)
    have KX := Hd (KX.out.below hV)
    have RY := Hd (RY.out.below hV)
    have KY := Hd (KY.out.below hV)
    have RZ := Hd (RZ.out.below hV)
    have KZ := Hd (KZ.out.below hV)
    have HT := Hd (HT.out.below2 hV)
    have HB := Hd (belowTo HB.out hV)
    clear hV hK H1 H2 H3 H4 Ex Ey Ez
    obtain ⟨l_x, x0, x1, x2, x3, -, -, -, -⟩ := PX.out.facts
    obtain ⟨l_y, y0, y1, y2, y3, -, -, -, -⟩ := PY.out.facts
    go_wp2_with fail
    refine (M1.out V RX.out KX.out RY.out KY.out).mono ?_
    rintro e wx1 ⟨rfl, hb⟩
    clear l_x x0 x1 x2 x3
    clear l_y y0 y1 y2 y3
    have HS_wx1 := Hd (show V.heap.size ≤ wx1.heap.size from hb.size)
    have PX := Hd (PX.out.below hb)
    have PY := Hd (PY.out.below hb)
    have PZ := Hd (PZ.out.below hb)
    have RX := Hd (RX.out.below hb)
    have KX := Hd (KX.out.below hb)
    have RY := Hd (RY.out.below hb)
    have KY := Hd (KY.out.below hb)
    have RZ := Hd (RZ.out.below hb)
    have KZ := Hd (KZ.out.below hb)
    have HT := Hd (HT.out.below2 hb)
    have HB := Hd (belowTo HB.out hb)
    obtain ⟨l_x, x0, x1, x2, x3, -, -, -, -⟩ := PX.out.facts
    obtain ⟨l_y, y0, y1, y2, y3, -, -, -, -⟩ := PY.out.facts
    go_wp2_with fail
    refine (HS1.out wx1 RX.out KX.out RY.out KY.out).mono ?_
    rintro e wx2 ⟨v, rfl, hI, hb⟩
    clear l_x x0 x1 x2 x3
    clear l_y y0 y1 y2 y3
    obtain ⟨A8, c8, B8, e8, rfl, i1, i2, -⟩ := hI.form
    have R8 := Hd i1.rawAt
    have K8 := Hd i2.rawAt
    clear hI i1 i2
    have HS_wx2 := Hd (show wx1.heap.size ≤ wx2.heap.size from hb.size)
    have PX := Hd (PX.out.below hb)
    have PY := Hd (PY.out.below hb)
    have PZ := Hd (PZ.out.below hb)
    have RX := Hd (RX.out.below hb)
    have KX := Hd (KX.out.below hb)
    have RY := Hd (RY.out.below hb)
    have KY := Hd (KY.out.below hb)
    have RZ := Hd (RZ.out.below hb)
    have KZ := Hd (KZ.out.below hb)
    have HT := Hd (HT.out.below2 hb)
    have HB := Hd (belowTo HB.out hb)
    clear R8 K8
    have ha := (Below.refl wx2.heap.size wx2).alloc (Nat.le_refl _) (.cells #[.bool (decide (N < 0)), .slice A8 (natL N.natAbs).length c8, .bool (decide (D < 0)), .slice B8 (natL D.natAbs).length e8] 26)
    have hn := Quad.new wx2 (.bool (decide (N < 0))) (.slice A8 (natL N.natAbs).length c8) (.bool (decide (D < 0))) (.slice B8 (natL D.natAbs).length e8)
    have hz : (wx2.alloc (.cells #[.bool (decide (N < 0)), .slice A8 (natL N.natAbs).length c8, .bool (decide (D < 0)), .slice B8 (natL D.natAbs).length e8] 26)).heap.size = wx2.heap.size + 1 := by simp
    go_upto_region 5 with fail
    obtain ⟨wy3, E⟩ : ∃ W, W = wx2.alloc (.cells #[.bool (decide (N < 0)), .slice A8 (natL N.natAbs).length c8, .bool (decide (D < 0)), .slice B8 (natL D.natAbs).length e8] 26) := ⟨_, rfl⟩
    obtain ⟨q3, hq⟩ : ∃ q, q = wx2.heap.size := ⟨_, rfl⟩
    rw [← E] at ha
    rw [← E, ← hq] at hn hz ⊢
    have HZ_wy3 := Hd (And.intro hq hz)
    have P8 := Hd hn
    have PX := Hd (PX.out.below ha)
    have PY := Hd (PY.out.below ha)
    have PZ := Hd (PZ.out.below ha)
    have RX := Hd (RX.out.below ha)
    have KX := Hd (KX.out.below ha)
    have RY := Hd (RY.out.below ha)
    have KY := Hd (KY.out.below ha)
    have RZ := Hd (RZ.out.below ha)
    have KZ := Hd (KZ.out.below ha)
    have HT := Hd (HT.out.below2 ha)
    have HB := Hd (belowTo HB.out ha)
    clear ha hn hz hq E
    obtain ⟨l_y, y0, y1, y2, y3, -, -, -, -⟩ := PY.out.facts
    obtain ⟨l_x, x0, x1, x2, x3, -, -, -, -⟩ := PX.out.facts
    go_wp2_with fail
    refine (M2.out wy3 RY.out KY.out RX.out KX.out).mono ?_
    rintro e wx4 ⟨rfl, hb⟩
    clear l_y y0 y1 y2 y3
    clear l_x x0 x1 x2 x3
    have HS_wx4 := Hd (show wy3.heap.size ≤ wx4.heap.size from hb.size)
    have PX := Hd (PX.out.below hb)
    have PY := Hd (PY.out.below hb)
    have PZ := Hd (PZ.out.below hb)
    have RX := Hd (RX.out.below hb)
    have KX := Hd (KX.out.below hb)
    have RY := Hd (RY.out.below hb)
    have KY := Hd (KY.out.below hb)
    have RZ := Hd (RZ.out.below hb)
    have KZ := Hd (KZ.out.below hb)
    have HT := Hd (HT.out.below2 hb)
    have P8 := Hd (P8.out.below hb)
    have HB := Hd (belowTo HB.out hb)
    obtain ⟨l_x, x0, x1, x2, x3, -, -, -, -⟩ := PX.out.facts
    obtain ⟨l_y, y0, y1, y2, y3, -, -, -, -⟩ := PY.out.facts
    go_wp2_with fail
    refine (HQ.out wx4 RX.out KX.out RY.out KY.out).mono ?_
    rintro e wx5 ⟨rfl, hb⟩
    clear l_x x0 x1 x2 x3
    clear l_y y0 y1 y2 y3
    have HS_wx5 := Hd (show wx4.heap.size ≤ wx5.heap.size from hb.size)
    have PX := Hd (PX.out.below hb)
    have PY := Hd (PY.out.below hb)
    have PZ := Hd (PZ.out.below hb)
    have RX := Hd (RX.out.below hb)
    have KX := Hd (KX.out.below hb)
    have RY := Hd (RY.out.below hb)
    have KY := Hd (KY.out.below hb)
    have RZ := Hd (RZ.out.below hb)
    have KZ := Hd (KZ.out.below hb)
    have HT := Hd (HT.out.below2 hb)
    have P8 := Hd (P8.out.below hb)
    have HB := Hd (belowTo HB.out hb)
    obtain ⟨l_y, y0, y1, y2, y3, -, -, -, -⟩ := PY.out.facts
    obtain ⟨l_z, z0, z1, z2, z3, -, -, -, -⟩ := PZ.out.facts
    go_wp2_with fail
    refine (M3.out wx5 RY.out KY.out RZ.out KZ.out).mono ?_
    rintro e wx6 ⟨rfl, hb⟩
    clear l_y y0 y1 y2 y3
    clear l_z z0 z1 z2 z3
    have HS_wx6 := Hd (show wx5.heap.size ≤ wx6.heap.size from hb.size)
    have PX := Hd (PX.out.below hb)
    have PY := Hd (PY.out.below hb)
    have PZ := Hd (PZ.out.below hb)
    have RX := Hd (RX.out.below hb)
    have KX := Hd (KX.out.below hb)
    have RY := Hd (RY.out.below hb)
    have KY := Hd (KY.out.below hb)
    have RZ := Hd (RZ.out.below hb)
    have KZ := Hd (KZ.out.below hb)
    have HT := Hd (HT.out.below2 hb)
    have P8 := Hd (P8.out.below hb)
    have HB := Hd (belowTo HB.out hb)
    have h9 := H9.out
    obtain ⟨l_x, x0, x1, x2, x3, -, -, -, -⟩ := PX.out.facts
    obtain ⟨l_z, z0, z1, z2, z3, -, -, -, -⟩ := PZ.out.facts
    go_wp2_with fail
    refine (M4.out wx6 RX.out KX.out RZ.out KZ.out).mono ?_
    rintro e wx7 ⟨rfl, hb⟩
    clear l_x x0 x1 x2 x3
    clear l_z z0 z1 z2 z3
    have HS_wx7 := Hd (show wx6.heap.size ≤ wx7.heap.size from hb.size)
    have PX := Hd (PX.out.below hb)
    have PY := Hd (PY.out.below hb)
    have PZ := Hd (PZ.out.below hb)
    have RX := Hd (RX.out.below hb)
    have KX := Hd (KX.out.below hb)
    have RY := Hd (RY.out.below hb)
    have KY := Hd (KY.out.below hb)
    have RZ := Hd (RZ.out.below hb)
    have KZ := Hd (KZ.out.below hb)
    have HT := Hd (HT.out.below2 hb)
    have P8 := Hd (P8.out.below hb)
    have HB := Hd (belowTo HB.out hb)
    have h0 := H0.out
    go_wp2_with fail
    refine (lives_ours wx7 HT.out).mono ?_
    rintro e wx8 ⟨rfl, hb⟩
    have HS_wx8 := Hd (show wx7.heap.size ≤ wx8.heap.size from hb.size)
    have PX := Hd (PX.out.below hb)
    have PY := Hd (PY.out.below hb)
    have PZ := Hd (PZ.out.below hb)
    have RX := Hd (RX.out.below hb)
    have KX := Hd (KX.out.below hb)
    have RY := Hd (RY.out.below hb)
    have KY := Hd (KY.out.below hb)
    have RZ := Hd (RZ.out.below hb)
    have KZ := Hd (KZ.out.below hb)
    have HT := Hd (HT.out.below2 hb)
    have P8 := Hd (P8.out.below hb)
    have HB := Hd (belowTo HB.out hb)
    go_wp2_with fail
    go_ret
    exact ⟨rfl, HB.out⟩

theorem forder_n_fits_more (n d m f p g : Int) (A B A2 B2 A3 B3 : Option Addr) (c e0 c2 e2 c3 e3 : Nat) (w : World) (hx : Raw w A c (natL n.natAbs)) (kx : Raw w B e0 (natL d.natAbs)) (hy : Raw w A2 c2 (natL m.natAbs)) (ky : Raw w B2 e2 (natL f.natAbs)) (hz : Raw w A3 c3 (natL p.natAbs)) (kz : Raw w B3 e3 (natL g.natAbs)) (htab : powTab w) (hlx : (natL n.natAbs).length ≤ 1152921504606846975) (hly : (natL d.natAbs).length ≤ 1152921504606846975) (hlu : (natL m.natAbs).length ≤ 1152921504606846975) (hlv : (natL f.natAbs).length ≤ 1152921504606846975) (hlp : (natL p.natAbs).length ≤ 1152921504606846975) (hlq : (natL g.natAbs).length ≤ 1152921504606846975) (hb : decide (1048576 < [fcost (natL n.natAbs).length (natL d.natAbs).length, fcost (natL m.natAbs).length (natL f.natAbs).length, fcost (natL p.natAbs).length (natL g.natAbs).length].sum) = false) (f1 : Fine n d) (f2 : Fine m f) (f3 : Fine p g) (hk1 : cmpz (n * f) (m * d) = 0) (hl : lz (subN n d m f) ≤ 2048 ∧ lz (subD n d m f) ≤ 2048) (hk3 : 0 < cmpz (m * g) (p * f)) :
    Calls Tryd.prog 3 #[.agg #[.bool (decide (n < 0)), .slice A (natL n.natAbs).length c, .bool (decide (d < 0)), .slice B (natL d.natAbs).length e0], .agg #[.bool (decide (m < 0)), .slice A2 (natL m.natAbs).length c2, .bool (decide (f < 0)), .slice B2 (natL f.natAbs).length e2], .agg #[.bool (decide (p < 0)), .slice A3 (natL p.natAbs).length c3, .bool (decide (g < 0)), .slice B3 (natL g.natAbs).length e3]] w fun e w' => e = .returned (.bool true) ∧ Below w.heap.size w w' := by
  have Dx := fun (V : World) (a1 : Raw V A c (natL n.natAbs)) (a2 : Raw V B e0 (natL d.natAbs)) => frac_Check (decide (n < 0)) (decide (d < 0)) A B c e0 _ _ V a1 a2
  have Dy := fun (V : World) (a1 : Raw V A2 c2 (natL m.natAbs)) (a2 : Raw V B2 e2 (natL f.natAbs)) => frac_Check (decide (m < 0)) (decide (f < 0)) A2 B2 c2 e2 _ _ V a1 a2
  have Dz := fun (V : World) (a1 : Raw V A3 c3 (natL p.natAbs)) (a2 : Raw V B3 e3 (natL g.natAbs)) => frac_Check (decide (p < 0)) (decide (g < 0)) A3 B3 c3 e3 _ _ V a1 a2
  rw [f1.chk] at Dx
  rw [f2.chk] at Dy
  rw [f3.chk] at Dz
  have Ex := Hd Dx
  have Ey := Hd Dy
  have Ez := Hd Dz
  have M1 := Hd (fun (V : World) (a1 : Raw V A c (natL n.natAbs)) (a2 : Raw V B e0 (natL d.natAbs)) (a3 : Raw V A2 c2 (natL m.natAbs)) (a4 : Raw V B2 e2 (natL f.natAbs)) => frac_Cmp_good n d m f (0) A B A2 B2 c e0 c2 e2 V a1 a2 a3 a4 f1 f2 hk1.symm)
  have M2 := Hd (fun (V : World) (a1 : Raw V A2 c2 (natL m.natAbs)) (a2 : Raw V B2 e2 (natL f.natAbs)) (a3 : Raw V A c (natL n.natAbs)) (a4 : Raw V B e0 (natL d.natAbs)) => frac_Cmp_good m f n d (0) A2 B2 A B c2 e2 c e0 V a1 a2 a3 a4 f2 f1 (by have := cmpz_turn (n * f) (m * d); rw [hk1] at this; omega))
  have S1 := fun (V : World) (a1 : Raw V A c (natL n.natAbs)) (a2 : Raw V B e0 (natL d.natAbs)) (a3 : Raw V A2 c2 (natL m.natAbs)) (a4 : Raw V B2 e2 (natL f.natAbs)) => frac_Sub_good n d m f A B A2 B2 c e0 c2 e2 V a1 a2 a3 a4 f1 f2
  have Q1 := fun (V : World) (a1 : Raw V A c (natL n.natAbs)) (a2 : Raw V B e0 (natL d.natAbs)) (a3 : Raw V A2 c2 (natL m.natAbs)) (a4 : Raw V B2 e2 (natL f.natAbs)) => sameFrac_any n d m f A B A2 B2 c e0 c2 e2 V a1 a2 a3 a4
  have hsame : decide (n = m ∧ d = f) = true := decide_eq_true ((frac_one_iff f1 f2).1 ((cmpz_nought _ _).1 hk1))
  rw [hsame] at Q1
  have HQ := Hd Q1
  have hss := sub_sign (n := n) (m := m) f1.pos f2.pos
  rw [hk1] at hss
  have ff : Fine (subN n d m f) (subD n d m f) := fine_low _ (Int.mul_pos f1.pos f2.pos) hl.1 hl.2
  unfold ansN ansD ansK at S1
  simp only [if_pos hl] at S1
  obtain ⟨N, hN⟩ : ∃ k : Int, k = subN n d m f := ⟨_, rfl⟩
  obtain ⟨D, hD⟩ : ∃ k : Int, k = subD n d m f := ⟨_, rfl⟩
  rw [← hN, ← hD] at S1 ff
  rw [← hN] at hss
  have HSG := Hd (fun (V : World) (A' B' : Option Addr) (c' e' : Nat) (h : Raw V A' c' (natL N.natAbs)) (g' : Raw V B' e' (natL D.natAbs)) => frac_Sign_good N D (0) A' B' c' e' V h g' ff.chk hss.symm)
  have HS1 := Hd S1
  obtain ⟨k3, e3'⟩ : ∃ k : Int, k = cmpz (m * g) (p * f) := ⟨_, rfl⟩
  have M3 := Hd (fun (V : World) (a1 : Raw V A2 c2 (natL m.natAbs)) (a2 : Raw V B2 e2 (natL f.natAbs)) (a3 : Raw V A3 c3 (natL p.natAbs)) (a4 : Raw V B3 e3 (natL g.natAbs)) => frac_Cmp_good m f p g k3 A2 B2 A3 B3 c2 e2 c3 e3 V a1 a2 a3 a4 f2 f3 e3')
  rw [← e3'] at hk3
  have H9 := Hd hk3
  clear Dx Dy Dz S1 Q1 hsame hss f1 f2 f3 hk1 hl hN hD ff e3' hk3
  have C1 := fun (V : World) (a1 : Raw V A c (natL n.natAbs)) (a2 : Raw V B e0 (natL d.natAbs)) => frac_cost (decide (n < 0)) (decide (d < 0)) A B c e0 _ _ hlx hly V a1 a2
  have C2 := fun (V : World) (a1 : Raw V A2 c2 (natL m.natAbs)) (a2 : Raw V B2 e2 (natL f.natAbs)) => frac_cost (decide (m < 0)) (decide (f < 0)) A2 B2 c2 e2 _ _ hlu hlv V a1 a2
  have C3 := fun (V : World) (a1 : Raw V A3 c3 (natL p.natAbs)) (a2 : Raw V B3 e3 (natL g.natAbs)) => frac_cost (decide (p < 0)) (decide (g < 0)) A3 B3 c3 e3 _ _ hlp hlq V a1 a2
  have h1 := fcost_le hlx hly
  have h2 := fcost_le hlu hlv
  have h3 := fcost_le hlp hlq
  obtain ⟨s1, q1⟩ : ∃ k : Nat, k = fcost (natL n.natAbs).length (natL d.natAbs).length := ⟨_, rfl⟩
  obtain ⟨s2, q2⟩ : ∃ k : Nat, k = fcost (natL m.natAbs).length (natL f.natAbs).length := ⟨_, rfl⟩
  obtain ⟨s3, q3⟩ : ∃ k : Nat, k = fcost (natL p.natAbs).length (natL g.natAbs).length := ⟨_, rfl⟩
  rw [← q1] at C1 h1
  rw [← q2] at C2 h2
  rw [← q3] at C3 h3
  rw [← q1, ← q2, ← q3] at hb
  have H4 := Hd (fun (u : Value) (V : World) (h : SliceOf [s1, s2, s3] u V) => beyond_of2 [s1, s2, s3] false (by simp) (by simp; omega) hb.symm u V h)
  have H1 := Hd C1
  have H2 := Hd C2
  have H3 := Hd C3
  clear C1 C2 C3 h1 h2 h3 q1 q2 q3 hb hlx hly hlu hlv hlp hlq
  have b0 := (((Below.refl w.heap.size w).alloc (Nat.le_refl _) (.cells #[.bool (decide (n < 0)), .slice A (natL n.natAbs).length c, .bool (decide (d < 0)), .slice B (natL d.natAbs).length e0] 26)).alloc (by simp) (.cells #[.bool (decide (m < 0)), .slice A2 (natL m.natAbs).length c2, .bool (decide (f < 0)), .slice B2 (natL f.natAbs).length e2] 26)).alloc (by simp; omega) (.cells #[.bool (decide (p < 0)), .slice A3 (natL p.natAbs).length c3, .bool (decide (g < 0)), .slice B3 (natL g.natAbs).length e3] 26)
  have p0 := ((Quad.new w (.bool (decide (n < 0))) (.slice A (natL n.natAbs).length c) (.bool (decide (d < 0))) (.slice B (natL d.natAbs).length e0)).alloc (.cells #[.bool (decide (m < 0)), .slice A2 (natL m.natAbs).length c2, .bool (decide (f < 0)), .slice B2 (natL f.natAbs).length e2] 26)).alloc (.cells #[.bool (decide (p < 0)), .slice A3 (natL p.natAbs).length c3, .bool (decide (g < 0)), .slice B3 (natL g.natAbs).length e3] 26)
  have p1 := (Quad.new (w.alloc (.cells #[.bool (decide (n < 0)), .slice A (natL n.natAbs).length c, .bool (decide (d < 0)), .slice B (natL d.natAbs).length e0] 26)) (.bool (decide (m < 0))) (.slice A2 (natL m.natAbs).length c2) (.bool (decide (f < 0))) (.slice B2 (natL f.natAbs).length e2)).alloc (.cells #[.bool (decide (p < 0)), .slice A3 (natL p.natAbs).length c3, .bool (decide (g < 0)), .slice B3 (natL g.natAbs).length e3] 26)
  have p2 := Quad.new ((w.alloc (.cells #[.bool (decide (n < 0)), .slice A (natL n.natAbs).length c, .bool (decide (d < 0)), .slice B (natL d.natAbs).length e0] 26)).alloc (.cells #[.bool (decide (m < 0)), .slice A2 (natL m.natAbs).length c2, .bool (decide (f < 0)), .slice B2 (natL f.natAbs).length e2] 26)) (.bool (decide (p < 0))) (.slice A3 (natL p.natAbs).length c3) (.bool (decide (g < 0))) (.slice B3 (natL g.natAbs).length e3)
  simp only [World.size_alloc] at p1 p2
  have PX := Hd p0
  have PY := Hd p1
  have PZ := Hd p2
  have RX := Hd (hx.below b0)
  have KX := Hd (kx.below b0)
  have RY := Hd (hy.below b0)
  have KY := Hd (ky.below b0)
  have RZ := Hd (hz.below b0)
  have KZ := Hd (kz.below b0)
  have HT := Hd (htab.below2 b0)
  have HB := Hd b0
  clear b0 p0 p1 p2 hx kx hy ky hz kz htab
  go_enter Tryd.func3, Tryd.ntmps3
  go_wp2_with fail
  obtain ⟨W, E⟩ : ∃ W, W = ((w.alloc (.cells #[.bool (decide (n < 0)), .slice A (natL n.natAbs).length c, .bool (decide (d < 0)), .slice B (natL d.natAbs).length e0] 26)).alloc (.cells #[.bool (decide (m < 0)), .slice A2 (natL m.natAbs).length c2, .bool (decide (f < 0)), .slice B2 (natL f.natAbs).length e2] 26)).alloc (.cells #[.bool (decide (p < 0)), .slice A3 (natL p.natAbs).length c3, .bool (decide (g < 0)), .slice B3 (natL g.natAbs).length e3] 26) := ⟨_, rfl⟩
  rw [← E] at PX PY PZ RX KX RY KY RZ KZ HT HB ⊢
  clear E
  refine wp_region_free [.val (.agg #[.bool (decide (n < 0)), .slice A (natL n.natAbs).length c, .bool (decide (d < 0)), .slice B (natL d.natAbs).length e0]) [], .val (.int .i64 s1) [], .val (.agg #[.bool (decide (m < 0)), .slice A2 (natL m.natAbs).length c2, .bool (decide (f < 0)), .slice B2 (natL f.natAbs).length e2]) [], .val (.int .i64 s2) [], .val (.agg #[.bool (decide (p < 0)), .slice A3 (natL p.natAbs).length c3, .bool (decide (g < 0)), .slice B3 (natL g.natAbs).length e3]) [], .val (.int .i64 s3) [], .any false (SliceOf [s1, s2, s3]) [], .val (.bool false) [6], .val (.bool false) [], .val (.agg #[.bool (decide (n < 0)), .slice A (natL n.natAbs).length c, .bool (decide (d < 0)), .slice B (natL d.natAbs).length e0]) [], .val (.int .i64 0) [], .val (.bool false) [], .val (.bool false) [], .val (.bool false) [], .val (.agg #[.bool (decide (m < 0)), .slice A2 (natL m.natAbs).length c2, .bool (decide (f < 0)), .slice B2 (natL f.natAbs).length e2]) [], .val (.int .i64 0) [], .val (.bool false) [], .val (.bool false) [], .val (.bool false) [], .val (.agg #[.bool (decide (p < 0)), .slice A3 (natL p.natAbs).length c3, .bool (decide (g < 0)), .slice B3 (natL g.natAbs).length e3]) [], .val (.int .i64 0) [], .val (.bool false) [], .val (.bool false) []] W.heap.size W [] blkInt _ mixedOrders2 (Nat.le_refl _) (Below.refl _ _) (KeptV.refl _ _ _) rfl (by kernel_rfl) (by kernel_rfl) (by kernel_rfl) (by kernel_rfl) (by kernel_rfl) (by kernel_rfl) (by kernel_rfl) (by kernel_rfl) rfl (by simp [oldsF]) ?_ ?_ ?_ ?_
  · simp only [StableF, and_true]
    exact fun u V V' h k => h.kept k
  · simp only [OldsF]
  · simp (maxSteps := 4000000) [StepsF, DepF, freeAct, fill, pairs]
    repeat' (first | apply And.intro | (intro (u : Value)) | (intro (u : Nat)))
    all_goals first
    | (intro V hV hK; clear hV hK; go_simp; exact Below.refl _ _)
    | (intro V hV hK
       have r1 := RX.out.below hV
       have r2 := KX.out.below hV
       have r3 := RY.out.below hV
       have r4 := KY.out.below hV
       have r5 := RZ.out.below hV
       have r6 := KZ.out.below hV
       obtain ⟨-, a_x, b_x, c_x, d_x, -, -, -, -⟩ := (PX.out.below hV).facts
       obtain ⟨-, a_y, b_y, c_y, d_y, -, -, -, -⟩ := (PY.out.below hV).facts
       obtain ⟨-, a_z, b_z, c_z, d_z, -, -, -, -⟩ := (PZ.out.below hV).facts
       clear hV hK
       go_simp
       first
       | exact Below.refl _ _
       | ((with_reducible refine (H1.out V r1 r2).mono ?_); rintro e w' ⟨rfl, hb⟩; exact ⟨rfl, hb⟩)
       | ((with_reducible refine (H2.out V r3 r4).mono ?_); rintro e w' ⟨rfl, hb⟩; exact ⟨rfl, hb⟩)
       | ((with_reducible refine (H3.out V r5 r6).mono ?_); rintro e w' ⟨rfl, hb⟩; exact ⟨rfl, hb⟩)
       | ((with_reducible refine (Ex.out V r1 r2).mono ?_); rintro e w' ⟨rfl, hb⟩; exact ⟨rfl, hb⟩)
       | ((with_reducible refine (Ey.out V r3 r4).mono ?_); rintro e w' ⟨rfl, hb⟩; exact ⟨rfl, hb⟩)
       | ((with_reducible refine (Ez.out V r5 r6).mono ?_); rintro e w' ⟨rfl, hb⟩; exact ⟨rfl, hb⟩)
       | exact ⟨SliceOf.new [s1, s2, s3] _ _ _ rfl, (Below.refl _ _).alloc (Nat.le_refl _) _⟩)
    | (intro V hV hK h1
       clear hV hK
       go_simp
       refine (H4.out _ V h1).mono ?_
       rintro e w' ⟨rfl, hb⟩
       exact ⟨rfl, hb⟩)
  · simp [EndF, FactsF, freeAct, fill, pairs]
    intro u1 V hV hK _ _ _ _
    have PX := Hd (PX.out.below hV)
    have PY := Hd (PY.out.below hV)
    have PZ := Hd (PZ.out.below hV)
    have RX := Hd (RX.out.below hV)
    have KX := Hd (KX.out.below hV)
    have RY := Hd (RY.out.below hV)
    have KY := Hd (KY.out.below hV)
    have RZ := Hd (RZ.out.below hV)
    have KZ := Hd (KZ.out.below hV)
    have HT := Hd (HT.out.below2 hV)
    have HB := Hd (belowTo HB.out hV)
    clear hV hK H1 H2 H3 H4 Ex Ey Ez
    obtain ⟨l_x, x0, x1, x2, x3, -, -, -, -⟩ := PX.out.facts
    obtain ⟨l_y, y0, y1, y2, y3, -, -, -, -⟩ := PY.out.facts
    go_wp2_with fail
    refine (M1.out V RX.out KX.out RY.out KY.out).mono ?_
    rintro e wx1 ⟨rfl, hb⟩
    clear l_x x0 x1 x2 x3
    clear l_y y0 y1 y2 y3
    have HS_wx1 := Hd (show V.heap.size ≤ wx1.heap.size from hb.size)
    have PX := Hd (PX.out.below hb)
    have PY := Hd (PY.out.below hb)
    have PZ := Hd (PZ.out.below hb)
    have RX := Hd (RX.out.below hb)
    have KX := Hd (KX.out.below hb)
    have RY := Hd (RY.out.below hb)
    have KY := Hd (KY.out.below hb)
    have RZ := Hd (RZ.out.below hb)
    have KZ := Hd (KZ.out.below hb)
    have HT := Hd (HT.out.below2 hb)
    have HB := Hd (belowTo HB.out hb)
    obtain ⟨l_x, x0, x1, x2, x3, -, -, -, -⟩ := PX.out.facts
    obtain ⟨l_y, y0, y1, y2, y3, -, -, -, -⟩ := PY.out.facts
    go_wp2_with fail
    refine (HS1.out wx1 RX.out KX.out RY.out KY.out).mono ?_
    rintro e wx2 ⟨v, rfl, hI, hb⟩
    clear l_x x0 x1 x2 x3
    clear l_y y0 y1 y2 y3
    obtain ⟨A8, c8, B8, e8, rfl, i1, i2, -⟩ := hI.form
    have R8 := Hd i1.rawAt
    have K8 := Hd i2.rawAt
    clear hI i1 i2
    have HS_wx2 := Hd (show wx1.heap.size ≤ wx2.heap.size from hb.size)
    have PX := Hd (PX.out.below hb)
    have PY := Hd (PY.out.below hb)
    have PZ := Hd (PZ.out.below hb)
    have RX := Hd (RX.out.below hb)
    have KX := Hd (KX.out.below hb)
    have RY := Hd (RY.out.below hb)
    have KY := Hd (KY.out.below hb)
    have RZ := Hd (RZ.out.below hb)
    have KZ := Hd (KZ.out.below hb)
    have HT := Hd (HT.out.below2 hb)
    have HB := Hd (belowTo HB.out hb)
    have ha := (Below.refl wx2.heap.size wx2).alloc (Nat.le_refl _) (.cells #[.bool (decide (N < 0)), .slice A8 (natL N.natAbs).length c8, .bool (decide (D < 0)), .slice B8 (natL D.natAbs).length e8] 26)
    have hn := Quad.new wx2 (.bool (decide (N < 0))) (.slice A8 (natL N.natAbs).length c8) (.bool (decide (D < 0))) (.slice B8 (natL D.natAbs).length e8)
    have hz : (wx2.alloc (.cells #[.bool (decide (N < 0)), .slice A8 (natL N.natAbs).length c8, .bool (decide (D < 0)), .slice B8 (natL D.natAbs).length e8] 26)).heap.size = wx2.heap.size + 1 := by simp
    go_upto_region 5 with fail
    obtain ⟨wy3, E⟩ : ∃ W, W = wx2.alloc (.cells #[.bool (decide (N < 0)), .slice A8 (natL N.natAbs).length c8, .bool (decide (D < 0)), .slice B8 (natL D.natAbs).length e8] 26) := ⟨_, rfl⟩
    obtain ⟨q3, hq⟩ : ∃ q, q = wx2.heap.size := ⟨_, rfl⟩
    rw [← E] at ha
    rw [← E, ← hq] at hn hz ⊢
    have HZ_wy3 := Hd (And.intro hq hz)
    have P8 := Hd hn
    have PX := Hd (PX.out.below ha)
    have PY := Hd (PY.out.below ha)
    have PZ := Hd (PZ.out.below ha)
    have RX := Hd (RX.out.below ha)
    have KX := Hd (KX.out.below ha)
    have RY := Hd (RY.out.below ha)
    have KY := Hd (KY.out.below ha)
    have RZ := Hd (RZ.out.below ha)
    have KZ := Hd (KZ.out.below ha)
    have HT := Hd (HT.out.below2 ha)
    have R8 := Hd (R8.out.below ha)
    have K8 := Hd (K8.out.below ha)
    have HB := Hd (belowTo HB.out ha)
    clear ha hn hz hq E
    obtain ⟨l_y, y0, y1, y2, y3, -, -, -, -⟩ := PY.out.facts
    obtain ⟨l_x, x0, x1, x2, x3, -, -, -, -⟩ := PX.out.facts
    go_wp2_with fail
    refine (M2.out wy3 RY.out KY.out RX.out KX.out).mono ?_
    rintro e wx4 ⟨rfl, hb⟩
    clear l_y y0 y1 y2 y3
    clear l_x x0 x1 x2 x3
    have HS_wx4 := Hd (show wy3.heap.size ≤ wx4.heap.size from hb.size)
    have PX := Hd (PX.out.below hb)
    have PY := Hd (PY.out.below hb)
    have PZ := Hd (PZ.out.below hb)
    have RX := Hd (RX.out.below hb)
    have KX := Hd (KX.out.below hb)
    have RY := Hd (RY.out.below hb)
    have KY := Hd (KY.out.below hb)
    have RZ := Hd (RZ.out.below hb)
    have KZ := Hd (KZ.out.below hb)
    have HT := Hd (HT.out.below2 hb)
    have R8 := Hd (R8.out.below hb)
    have K8 := Hd (K8.out.below hb)
    have P8 := Hd (P8.out.below hb)
    have HB := Hd (belowTo HB.out hb)
    obtain ⟨l_d, d0, d1, d2, d3, -, -, -, -⟩ := P8.out.facts
    go_wp2_with fail
    refine (HSG.out wx4 A8 B8 c8 e8 R8.out K8.out).mono ?_
    rintro e wx5 ⟨rfl, hb⟩
    clear l_d d0 d1 d2 d3
    have HS_wx5 := Hd (show wx4.heap.size ≤ wx5.heap.size from hb.size)
    have PX := Hd (PX.out.below hb)
    have PY := Hd (PY.out.below hb)
    have PZ := Hd (PZ.out.below hb)
    have RX := Hd (RX.out.below hb)
    have KX := Hd (KX.out.below hb)
    have RY := Hd (RY.out.below hb)
    have KY := Hd (KY.out.below hb)
    have RZ := Hd (RZ.out.below hb)
    have KZ := Hd (KZ.out.below hb)
    have HT := Hd (HT.out.below2 hb)
    have R8 := Hd (R8.out.below hb)
    have K8 := Hd (K8.out.below hb)
    have P8 := Hd (P8.out.below hb)
    have HB := Hd (belowTo HB.out hb)
    obtain ⟨l_x, x0, x1, x2, x3, -, -, -, -⟩ := PX.out.facts
    obtain ⟨l_y, y0, y1, y2, y3, -, -, -, -⟩ := PY.out.facts
    go_wp2_with fail
    refine (HQ.out wx5 RX.out KX.out RY.out KY.out).mono ?_
    rintro e wx6 ⟨rfl, hb⟩
    clear l_x x0 x1 x2 x3
    clear l_y y0 y1 y2 y3
    have HS_wx6 := Hd (show wx5.heap.size ≤ wx6.heap.size from hb.size)
    have PX := Hd (PX.out.below hb)
    have PY := Hd (PY.out.below hb)
    have PZ := Hd (PZ.out.below hb)
    have RX := Hd (RX.out.below hb)
    have KX := Hd (KX.out.below hb)
    have RY := Hd (RY.out.below hb)
    have KY := Hd (KY.out.below hb)
    have RZ := Hd (RZ.out.below hb)
    have KZ := Hd (KZ.out.below hb)
    have HT := Hd (HT.out.below2 hb)
    have R8 := Hd (R8.out.below hb)
    have K8 := Hd (K8.out.below hb)
    have P8 := Hd (P8.out.below hb)
    have HB := Hd (belowTo HB.out hb)
    obtain ⟨l_y, y0, y1, y2, y3, -, -, -, -⟩ := PY.out.facts
    obtain ⟨l_z, z0, z1, z2, z3, -, -, -, -⟩ := PZ.out.facts
    go_wp2_with fail
    refine (M3.out wx6 RY.out KY.out RZ.out KZ.out).mono ?_
    rintro e wx7 ⟨rfl, hb⟩
    clear l_y y0 y1 y2 y3
    clear l_z z0 z1 z2 z3
    have HS_wx7 := Hd (show wx6.heap.size ≤ wx7.heap.size from hb.size)
    have PX := Hd (PX.out.below hb)
    have PY := Hd (PY.out.below hb)
    have PZ := Hd (PZ.out.below hb)
    have RX := Hd (RX.out.below hb)
    have KX := Hd (KX.out.below hb)
    have RY := Hd (RY.out.below hb)
    have KY := Hd (KY.out.below hb)
    have RZ := Hd (RZ.out.below hb)
    have KZ := Hd (KZ.out.below hb)
    have HT := Hd (HT.out.below2 hb)
    have R8 := Hd (R8.out.below hb)
    have K8 := Hd (K8.out.below hb)
    have P8 := Hd (P8.out.below hb)
    have HB := Hd (belowTo HB.out hb)
    have h9 := H9.out
    go_wp2_with fail
    refine (lives_ours wx7 HT.out).mono ?_
    rintro e wx8 ⟨rfl, hb⟩
    have HS_wx8 := Hd (show wx7.heap.size ≤ wx8.heap.size from hb.size)
    have PX := Hd (PX.out.below hb)
    have PY := Hd (PY.out.below hb)
    have PZ := Hd (PZ.out.below hb)
    have RX := Hd (RX.out.below hb)
    have KX := Hd (KX.out.below hb)
    have RY := Hd (RY.out.below hb)
    have KY := Hd (KY.out.below hb)
    have RZ := Hd (RZ.out.below hb)
    have KZ := Hd (KZ.out.below hb)
    have HT := Hd (HT.out.below2 hb)
    have R8 := Hd (R8.out.below hb)
    have K8 := Hd (K8.out.below hb)
    have P8 := Hd (P8.out.below hb)
    have HB := Hd (belowTo HB.out hb)
    go_wp2_with fail
    go_ret
    exact ⟨rfl, HB.out⟩

theorem forder_n_fits_less (n d m f p g : Int) (A B A2 B2 A3 B3 : Option Addr) (c e0 c2 e2 c3 e3 : Nat) (w : World) (hx : Raw w A c (natL n.natAbs)) (kx : Raw w B e0 (natL d.natAbs)) (hy : Raw w A2 c2 (natL m.natAbs)) (ky : Raw w B2 e2 (natL f.natAbs)) (hz : Raw w A3 c3 (natL p.natAbs)) (kz : Raw w B3 e3 (natL g.natAbs)) (htab : powTab w) (hlx : (natL n.natAbs).length ≤ 1152921504606846975) (hly : (natL d.natAbs).length ≤ 1152921504606846975) (hlu : (natL m.natAbs).length ≤ 1152921504606846975) (hlv : (natL f.natAbs).length ≤ 1152921504606846975) (hlp : (natL p.natAbs).length ≤ 1152921504606846975) (hlq : (natL g.natAbs).length ≤ 1152921504606846975) (hb : decide (1048576 < [fcost (natL n.natAbs).length (natL d.natAbs).length, fcost (natL m.natAbs).length (natL f.natAbs).length, fcost (natL p.natAbs).length (natL g.natAbs).length].sum) = false) (f1 : Fine n d) (f2 : Fine m f) (f3 : Fine p g) (hk1 : cmpz (n * f) (m * d) = 0) (hl : lz (subN n d m f) ≤ 2048 ∧ lz (subD n d m f) ≤ 2048) (hk3 : cmpz (m * g) (p * f) ≤ 0) :
    Calls Tryd.prog 3 #[.agg #[.bool (decide (n < 0)), .slice A (natL n.natAbs).length c, .bool (decide (d < 0)), .slice B (natL d.natAbs).length e0], .agg #[.bool (decide (m < 0)), .slice A2 (natL m.natAbs).length c2, .bool (decide (f < 0)), .slice B2 (natL f.natAbs).length e2], .agg #[.bool (decide (p < 0)), .slice A3 (natL p.natAbs).length c3, .bool (decide (g < 0)), .slice B3 (natL g.natAbs).length e3]] w fun e w' => e = .returned (.bool true) ∧ Below w.heap.size w w' := by
  have Dx := fun (V : World) (a1 : Raw V A c (natL n.natAbs)) (a2 : Raw V B e0 (natL d.natAbs)) => frac_Check (decide (n < 0)) (decide (d < 0)) A B c e0 _ _ V a1 a2
  have Dy := fun (V : World) (a1 : Raw V A2 c2 (natL m.natAbs)) (a2 : Raw V B2 e2 (natL f.natAbs)) => frac_Check (decide (m < 0)) (decide (f < 0)) A2 B2 c2 e2 _ _ V a1 a2
  have Dz := fun (V : World) (a1 : Raw V A3 c3 (natL p.natAbs)) (a2 : Raw V B3 e3 (natL g.natAbs)) => frac_Check (decide (p < 0)) (decide (g < 0)) A3 B3 c3 e3 _ _ V a1 a2
  rw [f1.chk] at Dx
  rw [f2.chk] at Dy
  rw [f3.chk] at Dz
  have Ex := Hd Dx
  have Ey := Hd Dy
  have Ez := Hd Dz
  have M1 := Hd (fun (V : World) (a1 : Raw V A c (natL n.natAbs)) (a2 : Raw V B e0 (natL d.natAbs)) (a3 : Raw V A2 c2 (natL m.natAbs)) (a4 : Raw V B2 e2 (natL f.natAbs)) => frac_Cmp_good n d m f (0) A B A2 B2 c e0 c2 e2 V a1 a2 a3 a4 f1 f2 hk1.symm)
  have M2 := Hd (fun (V : World) (a1 : Raw V A2 c2 (natL m.natAbs)) (a2 : Raw V B2 e2 (natL f.natAbs)) (a3 : Raw V A c (natL n.natAbs)) (a4 : Raw V B e0 (natL d.natAbs)) => frac_Cmp_good m f n d (0) A2 B2 A B c2 e2 c e0 V a1 a2 a3 a4 f2 f1 (by have := cmpz_turn (n * f) (m * d); rw [hk1] at this; omega))
  have S1 := fun (V : World) (a1 : Raw V A c (natL n.natAbs)) (a2 : Raw V B e0 (natL d.natAbs)) (a3 : Raw V A2 c2 (natL m.natAbs)) (a4 : Raw V B2 e2 (natL f.natAbs)) => frac_Sub_good n d m f A B A2 B2 c e0 c2 e2 V a1 a2 a3 a4 f1 f2
  have Q1 := fun (V : World) (a1 : Raw V A c (natL n.natAbs)) (a2 : Raw V B e0 (natL d.natAbs)) (a3 : Raw V A2 c2 (natL m.natAbs)) (a4 : Raw V B2 e2 (natL f.natAbs)) => sameFrac_any n d m f A B A2 B2 c e0 c2 e2 V a1 a2 a3 a4
  have hsame : decide (n = m ∧ d = f) = true := decide_eq_true ((frac_one_iff f1 f2).1 ((cmpz_nought _ _).1 hk1))
  rw [hsame] at Q1
  have HQ := Hd Q1
  have hss := sub_sign (n := n) (m := m) f1.pos f2.pos
  rw [hk1] at hss
  have ff : Fine (subN n d m f) (subD n d m f) := fine_low _ (Int.mul_pos f1.pos f2.pos) hl.1 hl.2
  unfold ansN ansD ansK at S1
  simp only [if_pos hl] at S1
  obtain ⟨N, hN⟩ : ∃ k : Int, k = subN n d m f := ⟨_, rfl⟩
  obtain ⟨D, hD⟩ : ∃ k : Int, k = subD n d m f := ⟨_, rfl⟩
  rw [← hN, ← hD] at S1 ff
  rw [← hN] at hss
  have HSG := Hd (fun (V : World) (A' B' : Option Addr) (c' e' : Nat) (h : Raw V A' c' (natL N.natAbs)) (g' : Raw V B' e' (natL D.natAbs)) => frac_Sign_good N D (0) A' B' c' e' V h g' ff.chk hss.symm)
  have HS1 := Hd S1
  obtain ⟨k3, e3'⟩ : ∃ k : Int, k = cmpz (m * g) (p * f) := ⟨_, rfl⟩
  have M3 := Hd (fun (V : World) (a1 : Raw V A2 c2 (natL m.natAbs)) (a2 : Raw V B2 e2 (natL f.natAbs)) (a3 : Raw V A3 c3 (natL p.natAbs)) (a4 : Raw V B3 e3 (natL g.natAbs)) => frac_Cmp_good m f p g k3 A2 B2 A3 B3 c2 e2 c3 e3 V a1 a2 a3 a4 f2 f3 e3')
  obtain ⟨k4, e4'⟩ : ∃ k : Int, k = cmpz (n * g) (p * d) := ⟨_, rfl⟩
  have M4 := Hd (fun (V : World) (a1 : Raw V A c (natL n.natAbs)) (a2 : Raw V B e0 (natL d.natAbs)) (a3 : Raw V A3 c3 (natL p.natAbs)) (a4 : Raw V B3 e3 (natL g.natAbs)) => frac_Cmp_good n d p g k4 A B A3 B3 c e0 c3 e3 V a1 a2 a3 a4 f1 f3 e4')
  have H0 := Hd (show k4 ≤ 0 from by
    rw [e4']
    exact (cmpz_le0 _ _).2 (cmp_three f1.pos f2.pos f3.pos ((cmpz_le0 _ _).1 (by rw [hk1]; decide)) ((cmpz_le0 _ _).1 hk3)))
  rw [← e3'] at hk3
  have H9 := Hd hk3
  clear Dx Dy Dz S1 Q1 hsame hss f1 f2 f3 hk1 hl hN hD ff e3' hk3 e4'
  have C1 := fun (V : World) (a1 : Raw V A c (natL n.natAbs)) (a2 : Raw V B e0 (natL d.natAbs)) => frac_cost (decide (n < 0)) (decide (d < 0)) A B c e0 _ _ hlx hly V a1 a2
  have C2 := fun (V : World) (a1 : Raw V A2 c2 (natL m.natAbs)) (a2 : Raw V B2 e2 (natL f.natAbs)) => frac_cost (decide (m < 0)) (decide (f < 0)) A2 B2 c2 e2 _ _ hlu hlv V a1 a2
  have C3 := fun (V : World) (a1 : Raw V A3 c3 (natL p.natAbs)) (a2 : Raw V B3 e3 (natL g.natAbs)) => frac_cost (decide (p < 0)) (decide (g < 0)) A3 B3 c3 e3 _ _ hlp hlq V a1 a2
  have h1 := fcost_le hlx hly
  have h2 := fcost_le hlu hlv
  have h3 := fcost_le hlp hlq
  obtain ⟨s1, q1⟩ : ∃ k : Nat, k = fcost (natL n.natAbs).length (natL d.natAbs).length := ⟨_, rfl⟩
  obtain ⟨s2, q2⟩ : ∃ k : Nat, k = fcost (natL m.natAbs).length (natL f.natAbs).length := ⟨_, rfl⟩
  obtain ⟨s3, q3⟩ : ∃ k : Nat, k = fcost (natL p.natAbs).length (natL g.natAbs).length := ⟨_, rfl⟩
  rw [← q1] at C1 h1
  rw [← q2] at C2 h2
  rw [← q3] at C3 h3
  rw [← q1, ← q2, ← q3] at hb
  have H4 := Hd (fun (u : Value) (V : World) (h : SliceOf [s1, s2, s3] u V) => beyond_of2 [s1, s2, s3] false (by simp) (by simp; omega) hb.symm u V h)
  have H1 := Hd C1
  have H2 := Hd C2
  have H3 := Hd C3
  clear C1 C2 C3 h1 h2 h3 q1 q2 q3 hb hlx hly hlu hlv hlp hlq
  have b0 := (((Below.refl w.heap.size w).alloc (Nat.le_refl _) (.cells #[.bool (decide (n < 0)), .slice A (natL n.natAbs).length c, .bool (decide (d < 0)), .slice B (natL d.natAbs).length e0] 26)).alloc (by simp) (.cells #[.bool (decide (m < 0)), .slice A2 (natL m.natAbs).length c2, .bool (decide (f < 0)), .slice B2 (natL f.natAbs).length e2] 26)).alloc (by simp; omega) (.cells #[.bool (decide (p < 0)), .slice A3 (natL p.natAbs).length c3, .bool (decide (g < 0)), .slice B3 (natL g.natAbs).length e3] 26)
  have p0 := ((Quad.new w (.bool (decide (n < 0))) (.slice A (natL n.natAbs).length c) (.bool (decide (d < 0))) (.slice B (natL d.natAbs).length e0)).alloc (.cells #[.bool (decide (m < 0)), .slice A2 (natL m.natAbs).length c2, .bool (decide (f < 0)), .slice B2 (natL f.natAbs).length e2] 26)).alloc (.cells #[.bool (decide (p < 0)), .slice A3 (natL p.natAbs).length c3, .bool (decide (g < 0)), .slice B3 (natL g.natAbs).length e3] 26)
  have p1 := (Quad.new (w.alloc (.cells #[.bool (decide (n < 0)), .slice A (natL n.natAbs).length c, .bool (decide (d < 0)), .slice B (natL d.natAbs).length e0] 26)) (.bool (decide (m < 0))) (.slice A2 (natL m.natAbs).length c2) (.bool (decide (f < 0))) (.slice B2 (natL f.natAbs).length e2)).alloc (.cells #[.bool (decide (p < 0)), .slice A3 (natL p.natAbs).length c3, .bool (decide (g < 0)), .slice B3 (natL g.natAbs).length e3] 26)
  have p2 := Quad.new ((w.alloc (.cells #[.bool (decide (n < 0)), .slice A (natL n.natAbs).length c, .bool (decide (d < 0)), .slice B (natL d.natAbs).length e0] 26)).alloc (.cells #[.bool (decide (m < 0)), .slice A2 (natL m.natAbs).length c2, .bool (decide (f < 0)), .slice B2 (natL f.natAbs).length e2] 26)) (.bool (decide (p < 0))) (.slice A3 (natL p.natAbs).length c3) (.bool (decide (g < 0))) (.slice B3 (natL g.natAbs).length e3)
  simp only [World.size_alloc] at p1 p2
  have PX := Hd p0
  have PY := Hd p1
  have PZ := Hd p2
  have RX := Hd (hx.below b0)
  have KX := Hd (kx.below b0)
  have RY := Hd (hy.below b0)
  have KY := Hd (ky.below b0)
  have RZ := Hd (hz.below b0)
  have KZ := Hd (kz.below b0)
  have HT := Hd (htab.below2 b0)
  have HB := Hd b0
  clear b0 p0 p1 p2 hx kx hy ky hz kz htab
  go_enter Tryd.func3, Tryd.ntmps3
  go_wp2_with fail
  obtain ⟨W, E⟩ : ∃ W, W = ((w.alloc (.cells #[.bool (decide (n < 0)), .slice A (natL n.natAbs).length c, .bool (decide (d < 0)), .slice B (natL d.natAbs).length e0] 26)).alloc (.cells #[.bool (decide (m < 0)), .slice A2 (natL m.natAbs).length c2, .bool (decide (f < 0)), .slice B2 (natL f.natAbs).length e2] 26)).alloc (.cells #[.bool (decide (p < 0)), .slice A3 (natL p.natAbs).length c3, .bool (decide (g < 0)), .slice B3 (natL g.natAbs).length e3] 26) := ⟨_, rfl⟩
  rw [← E] at PX PY PZ RX KX RY KY RZ KZ HT HB ⊢
  clear E
  refine wp_region_free [.val (.agg #[.bool (decide (n < 0)), .slice A (natL n.natAbs).length c, .bool (decide (d < 0)), .slice B (natL d.natAbs).length e0]) [], .val (.int .i64 s1) [], .val (.agg #[.bool (decide (m < 0)), .slice A2 (natL m.natAbs).length c2, .bool (decide (f < 0)), .slice B2 (natL f.natAbs).length e2]) [], .val (.int .i64 s2) [], .val (.agg #[.bool (decide (p < 0)), .slice A3 (natL p.natAbs).length c3, .bool (decide (g < 0)), .slice B3 (natL g.natAbs).length e3]) [], .val (.int .i64 s3) [], .any false (SliceOf [s1, s2, s3]) [], .val (.bool false) [6], .val (.bool false) [], .val (.agg #[.bool (decide (n < 0)), .slice A (natL n.natAbs).length c, .bool (decide (d < 0)), .slice B (natL d.natAbs).length e0]) [], .val (.int .i64 0) [], .val (.bool false) [], .val (.bool false) [], .val (.bool false) [], .val (.agg #[.bool (decide (m < 0)), .slice A2 (natL m.natAbs).length c2, .bool (decide (f < 0)), .slice B2 (natL f.natAbs).length e2]) [], .val (.int .i64 0) [], .val (.bool false) [], .val (.bool false) [], .val (.bool false) [], .val (.agg #[.bool (decide (p < 0)), .slice A3 (natL p.natAbs).length c3, .bool (decide (g < 0)), .slice B3 (natL g.natAbs).length e3]) [], .val (.int .i64 0) [], .val (.bool false) [], .val (.bool false) []] W.heap.size W [] blkInt _ mixedOrders2 (Nat.le_refl _) (Below.refl _ _) (KeptV.refl _ _ _) rfl (by kernel_rfl) (by kernel_rfl) (by kernel_rfl) (by kernel_rfl) (by kernel_rfl) (by kernel_rfl) (by kernel_rfl) (by kernel_rfl) rfl (by simp [oldsF]) ?_ ?_ ?_ ?_
  · simp only [StableF, and_true]
    exact fun u V V' h k => h.kept k
  · simp only [OldsF]
  · simp (maxSteps := 4000000) [StepsF, DepF, freeAct, fill, pairs]
    repeat' (first | apply And.intro | (intro (u : Value)) | (intro (u : Nat)))
    all_goals first
    | (intro V hV hK; clear hV hK; go_simp; exact Below.refl _ _)
    | (intro V hV hK
       have r1 := RX.out.below hV
       have r2 := KX.out.below hV
       have r3 := RY.out.below hV
       have r4 := KY.out.below hV
       have r5 := RZ.out.below hV
       have r6 := KZ.out.below hV
       obtain ⟨-, a_x, b_x, c_x, d_x, -, -, -, -⟩ := (PX.out.below hV).facts
       obtain ⟨-, a_y, b_y, c_y, d_y, -, -, -, -⟩ := (PY.out.below hV).facts
       obtain ⟨-, a_z, b_z, c_z, d_z, -, -, -, -⟩ := (PZ.out.below hV).facts
       clear hV hK
       go_simp
       first
       | exact Below.refl _ _
       | ((with_reducible refine (H1.out V r1 r2).mono ?_); rintro e w' ⟨rfl, hb⟩; exact ⟨rfl, hb⟩)
       | ((with_reducible refine (H2.out V r3 r4).mono ?_); rintro e w' ⟨rfl, hb⟩; exact ⟨rfl, hb⟩)
       | ((with_reducible refine (H3.out V r5 r6).mono ?_); rintro e w' ⟨rfl, hb⟩; exact ⟨rfl, hb⟩)
       | ((with_reducible refine (Ex.out V r1 r2).mono ?_); rintro e w' ⟨rfl, hb⟩; exact ⟨rfl, hb⟩)
       | ((with_reducible refine (Ey.out V r3 r4).mono ?_); rintro e w' ⟨rfl, hb⟩; exact ⟨rfl, hb⟩)
       | ((with_reducible refine (Ez.out V r5 r6).mono ?_); rintro e w' ⟨rfl, hb⟩; exact ⟨rfl, hb⟩)
       | exact ⟨SliceOf.new [s1, s2, s3] _ _ _ rfl, (Below.refl _ _).alloc (Nat.le_refl _) _⟩)
    | (intro V hV hK h1
       clear hV hK
       go_simp
       refine (H4.out _ V h1).mono ?_
       rintro e w' ⟨rfl, hb⟩
       exact ⟨rfl, hb⟩)
  · simp [EndF, FactsF, freeAct, fill, pairs]
    intro u1 V hV hK _ _ _ _
    have PX := Hd (PX.out.below hV)
    have PY := Hd (PY.out.below hV)
    have PZ := Hd (PZ.out.below hV)
    have RX := Hd (RX.out.below hV)
    have KX := Hd (KX.out.below hV)
    have RY := Hd (RY.out.below hV)
    have KY := Hd (KY.out.below hV)
    have RZ := Hd (RZ.out.below hV)
    have KZ := Hd (KZ.out.below hV)
    have HT := Hd (HT.out.below2 hV)
    have HB := Hd (belowTo HB.out hV)
    clear hV hK H1 H2 H3 H4 Ex Ey Ez
    obtain ⟨l_x, x0, x1, x2, x3, -, -, -, -⟩ := PX.out.facts
    obtain ⟨l_y, y0, y1, y2, y3, -, -, -, -⟩ := PY.out.facts
    go_wp2_with fail
    refine (M1.out V RX.out KX.out RY.out KY.out).mono ?_
    rintro e wx1 ⟨rfl, hb⟩
    clear l_x x0 x1 x2 x3
    clear l_y y0 y1 y2 y3
    have HS_wx1 := Hd (show V.heap.size ≤ wx1.heap.size from hb.size)
    have PX := Hd (PX.out.below hb)
    have PY := Hd (PY.out.below hb)
    have PZ := Hd (PZ.out.below hb)
    have RX := Hd (RX.out.below hb)
    have KX := Hd (KX.out.below hb)
    have RY := Hd (RY.out.below hb)
    have KY := Hd (KY.out.below hb)
    have RZ := Hd (RZ.out.below hb)
    have KZ := Hd (KZ.out.below hb)
    have HT := Hd (HT.out.below2 hb)
    have HB := Hd (belowTo HB.out hb)
    obtain ⟨l_x, x0, x1, x2, x3, -, -, -, -⟩ := PX.out.facts
    obtain ⟨l_y, y0, y1, y2, y3, -, -, -, -⟩ := PY.out.facts
    go_wp2_with fail
    refine (HS1.out wx1 RX.out KX.out RY.out KY.out).mono ?_
    rintro e wx2 ⟨v, rfl, hI, hb⟩
    clear l_x x0 x1 x2 x3
    clear l_y y0 y1 y2 y3
    obtain ⟨A8, c8, B8, e8, rfl, i1, i2, -⟩ := hI.form
    have R8 := Hd i1.rawAt
    have K8 := Hd i2.rawAt
    clear hI i1 i2
    have HS_wx2 := Hd (show wx1.heap.size ≤ wx2.heap.size from hb.size)
    have PX := Hd (PX.out.below hb)
    have PY := Hd (PY.out.below hb)
    have PZ := Hd (PZ.out.below hb)
    have RX := Hd (RX.out.below hb)
    have KX := Hd (KX.out.below hb)
    have RY := Hd (RY.out.below hb)
    have KY := Hd (KY.out.below hb)
    have RZ := Hd (RZ.out.below hb)
    have KZ := Hd (KZ.out.below hb)
    have HT := Hd (HT.out.below2 hb)
    have HB := Hd (belowTo HB.out hb)
    have ha := (Below.refl wx2.heap.size wx2).alloc (Nat.le_refl _) (.cells #[.bool (decide (N < 0)), .slice A8 (natL N.natAbs).length c8, .bool (decide (D < 0)), .slice B8 (natL D.natAbs).length e8] 26)
    have hn := Quad.new wx2 (.bool (decide (N < 0))) (.slice A8 (natL N.natAbs).length c8) (.bool (decide (D < 0))) (.slice B8 (natL D.natAbs).length e8)
    have hz : (wx2.alloc (.cells #[.bool (decide (N < 0)), .slice A8 (natL N.natAbs).length c8, .bool (decide (D < 0)), .slice B8 (natL D.natAbs).length e8] 26)).heap.size = wx2.heap.size + 1 := by simp
    go_upto_region 5 with fail
    obtain ⟨wy3, E⟩ : ∃ W, W = wx2.alloc (.cells #[.bool (decide (N < 0)), .slice A8 (natL N.natAbs).length c8, .bool (decide (D < 0)), .slice B8 (natL D.natAbs).length e8] 26) := ⟨_, rfl⟩
    obtain ⟨q3, hq⟩ : ∃ q, q = wx2.heap.size := ⟨_, rfl⟩
    rw [← E] at ha
    rw [← E, ← hq] at hn hz ⊢
    have HZ_wy3 := Hd (And.intro hq hz)
    have P8 := Hd hn
    have PX := Hd (PX.out.below ha)
    have PY := Hd (PY.out.below ha)
    have PZ := Hd (PZ.out.below ha)
    have RX := Hd (RX.out.below ha)
    have KX := Hd (KX.out.below ha)
    have RY := Hd (RY.out.below ha)
    have KY := Hd (KY.out.below ha)
    have RZ := Hd (RZ.out.below ha)
    have KZ := Hd (KZ.out.below ha)
    have HT := Hd (HT.out.below2 ha)
    have R8 := Hd (R8.out.below ha)
    have K8 := Hd (K8.out.below ha)
    have HB := Hd (belowTo HB.out ha)
    clear ha hn hz hq E
    obtain ⟨l_y, y0, y1, y2, y3, -, -, -, -⟩ := PY.out.facts
    obtain ⟨l_x, x0, x1, x2, x3, -, -, -, -⟩ := PX.out.facts
    go_wp2_with fail
    refine (M2.out wy3 RY.out KY.out RX.out KX.out).mono ?_
    rintro e wx4 ⟨rfl, hb⟩
    clear l_y y0 y1 y2 y3
    clear l_x x0 x1 x2 x3
    have HS_wx4 := Hd (show wy3.heap.size ≤ wx4.heap.size from hb.size)
    have PX := Hd (PX.out.below hb)
    have PY := Hd (PY.out.below hb)
    have PZ := Hd (PZ.out.below hb)
    have RX := Hd (RX.out.below hb)
    have KX := Hd (KX.out.below hb)
    have RY := Hd (RY.out.below hb)
    have KY := Hd (KY.out.below hb)
    have RZ := Hd (RZ.out.below hb)
    have KZ := Hd (KZ.out.below hb)
    have HT := Hd (HT.out.below2 hb)
    have R8 := Hd (R8.out.below hb)
    have K8 := Hd (K8.out.below hb)
    have P8 := Hd (P8.out.below hb)
    have HB := Hd (belowTo HB.out hb)
    obtain ⟨l_d, d0, d1, d2, d3, -, -, -, -⟩ := P8.out.facts
    go_wp2_with fail
    refine (HSG.out wx4 A8 B8 c8 e8 R8.out K8.out).mono ?_
    rintro e wx5 ⟨rfl, hb⟩
    clear l_d d0 d1 d2 d3
    have HS_wx5 := Hd (show wx4.heap.size ≤ wx5.heap.size from hb.size)
    have PX := Hd (PX.out.below hb)
    have PY := Hd (PY.out.below hb)
    have PZ := Hd (PZ.out.below hb)
    have RX := Hd (RX.out.below hb)
    have KX := Hd (KX.out.below hb)
    have RY := Hd (RY.out.below hb)
    have KY := Hd (KY.out.below hb)
    have RZ := Hd (RZ.out.below hb)
    have KZ := Hd (KZ.out.below hb)
    have HT := Hd (HT.out.below2 hb)
    have R8 := Hd (R8.out.below hb)
    have K8 := Hd (K8.out.below hb)
    have P8 := Hd (P8.out.below hb)
    have HB := Hd (belowTo HB.out hb)
    obtain ⟨l_x, x0, x1, x2, x3, -, -, -, -⟩ := PX.out.facts
    obtain ⟨l_y, y0, y1, y2, y3, -, -, -, -⟩ := PY.out.facts
    go_wp2_with fail
    refine (HQ.out wx5 RX.out KX.out RY.out KY.out).mono ?_
    rintro e wx6 ⟨rfl, hb⟩
    clear l_x x0 x1 x2 x3
    clear l_y y0 y1 y2 y3
    have HS_wx6 := Hd (show wx5.heap.size ≤ wx6.heap.size from hb.size)
    have PX := Hd (PX.out.below hb)
    have PY := Hd (PY.out.below hb)
    have PZ := Hd (PZ.out.below hb)
    have RX := Hd (RX.out.below hb)
    have KX := Hd (KX.out.below hb)
    have RY := Hd (RY.out.below hb)
    have KY := Hd (KY.out.below hb)
    have RZ := Hd (RZ.out.below hb)
    have KZ := Hd (KZ.out.below hb)
    have HT := Hd (HT.out.below2 hb)
    have R8 := Hd (R8.out.below hb)
    have K8 := Hd (K8.out.below hb)
    have P8 := Hd (P8.out.below hb)
    have HB := Hd (belowTo HB.out hb)
    obtain ⟨l_y, y0, y1, y2, y3, -, -, -, -⟩ := PY.out.facts
    obtain ⟨l_z, z0, z1, z2, z3, -, -, -, -⟩ := PZ.out.facts
    go_wp2_with fail
    refine (M3.out wx6 RY.out KY.out RZ.out KZ.out).mono ?_
    rintro e wx7 ⟨rfl, hb⟩
    clear l_y y0 y1 y2 y3
    clear l_z z0 z1 z2 z3
    have HS_wx7 := Hd (show wx6.heap.size ≤ wx7.heap.size from hb.size)
    have PX := Hd (PX.out.below hb)
    have PY := Hd (PY.out.below hb)
    have PZ := Hd (PZ.out.below hb)
    have RX := Hd (RX.out.below hb)
    have KX := Hd (KX.out.below hb)
    have RY := Hd (RY.out.below hb)
    have KY := Hd (KY.out.below hb)
    have RZ := Hd (RZ.out.below hb)
    have KZ := Hd (KZ.out.below hb)
    have HT := Hd (HT.out.below2 hb)
    have R8 := Hd (R8.out.below hb)
    have K8 := Hd (K8.out.below hb)
    have P8 := Hd (P8.out.below hb)
    have HB := Hd (belowTo HB.out hb)
    have h9 := H9.out
    obtain ⟨l_x, x0, x1, x2, x3, -, -, -, -⟩ := PX.out.facts
    obtain ⟨l_z, z0, z1, z2, z3, -, -, -, -⟩ := PZ.out.facts
    go_wp2_with fail
    refine (M4.out wx7 RX.out KX.out RZ.out KZ.out).mono ?_
    rintro e wx8 ⟨rfl, hb⟩
    clear l_x x0 x1 x2 x3
    clear l_z z0 z1 z2 z3
    have HS_wx8 := Hd (show wx7.heap.size ≤ wx8.heap.size from hb.size)
    have PX := Hd (PX.out.below hb)
    have PY := Hd (PY.out.below hb)
    have PZ := Hd (PZ.out.below hb)
    have RX := Hd (RX.out.below hb)
    have KX := Hd (KX.out.below hb)
    have RY := Hd (RY.out.below hb)
    have KY := Hd (KY.out.below hb)
    have RZ := Hd (RZ.out.below hb)
    have KZ := Hd (KZ.out.below hb)
    have HT := Hd (HT.out.below2 hb)
    have R8 := Hd (R8.out.below hb)
    have K8 := Hd (K8.out.below hb)
    have P8 := Hd (P8.out.below hb)
    have HB := Hd (belowTo HB.out hb)
    have h0 := H0.out
    go_wp2_with fail
    refine (lives_ours wx8 HT.out).mono ?_
    rintro e wx9 ⟨rfl, hb⟩
    have HS_wx9 := Hd (show wx8.heap.size ≤ wx9.heap.size from hb.size)
    have PX := Hd (PX.out.below hb)
    have PY := Hd (PY.out.below hb)
    have PZ := Hd (PZ.out.below hb)
    have RX := Hd (RX.out.below hb)
    have KX := Hd (KX.out.below hb)
    have RY := Hd (RY.out.below hb)
    have KY := Hd (KY.out.below hb)
    have RZ := Hd (RZ.out.below hb)
    have KZ := Hd (KZ.out.below hb)
    have HT := Hd (HT.out.below2 hb)
    have R8 := Hd (R8.out.below hb)
    have K8 := Hd (K8.out.below hb)
    have P8 := Hd (P8.out.below hb)
    have HB := Hd (belowTo HB.out hb)
    go_wp2_with fail
    go_ret
    exact ⟨rfl, HB.out⟩

theorem forder_n_long_more (n d m f p g : Int) (A B A2 B2 A3 B3 : Option Addr) (c e0 c2 e2 c3 e3 : Nat) (w : World) (hx : Raw w A c (natL n.natAbs)) (kx : Raw w B e0 (natL d.natAbs)) (hy : Raw w A2 c2 (natL m.natAbs)) (ky : Raw w B2 e2 (natL f.natAbs)) (hz : Raw w A3 c3 (natL p.natAbs)) (kz : Raw w B3 e3 (natL g.natAbs)) (htab : powTab w) (hlx : (natL n.natAbs).length ≤ 1152921504606846975) (hly : (natL d.natAbs).length ≤ 1152921504606846975) (hlu : (natL m.natAbs).length ≤ 1152921504606846975) (hlv : (natL f.natAbs).length ≤ 1152921504606846975) (hlp : (natL p.natAbs).length ≤ 1152921504606846975) (hlq : (natL g.natAbs).length ≤ 1152921504606846975) (hb : decide (1048576 < [fcost (natL n.natAbs).length (natL d.natAbs).length, fcost (natL m.natAbs).length (natL f.natAbs).length, fcost (natL p.natAbs).length (natL g.natAbs).length].sum) = false) (f1 : Fine n d) (f2 : Fine m f) (f3 : Fine p g) (hk1 : cmpz (n * f) (m * d) = 0) (hl : ¬ (lz (subN n d m f) ≤ 2048 ∧ lz (subD n d m f) ≤ 2048)) (hk3 : 0 < cmpz (m * g) (p * f)) :
    Calls Tryd.prog 3 #[.agg #[.bool (decide (n < 0)), .slice A (natL n.natAbs).length c, .bool (decide (d < 0)), .slice B (natL d.natAbs).length e0], .agg #[.bool (decide (m < 0)), .slice A2 (natL m.natAbs).length c2, .bool (decide (f < 0)), .slice B2 (natL f.natAbs).length e2], .agg #[.bool (decide (p < 0)), .slice A3 (natL p.natAbs).length c3, .bool (decide (g < 0)), .slice B3 (natL g.natAbs).length e3]] w fun e w' => e = .returned (.bool true) ∧ Below w.heap.size w w' := by
  have Dx := fun (V : World) (a1 : Raw V A c (natL n.natAbs)) (a2 : Raw V B e0 (natL d.natAbs)) => frac_Check (decide (n < 0)) (decide (d < 0)) A B c e0 _ _ V a1 a2
  have Dy := fun (V : World) (a1 : Raw V A2 c2 (natL m.natAbs)) (a2 : Raw V B2 e2 (natL f.natAbs)) => frac_Check (decide (m < 0)) (decide (f < 0)) A2 B2 c2 e2 _ _ V a1 a2
  have Dz := fun (V : World) (a1 : Raw V A3 c3 (natL p.natAbs)) (a2 : Raw V B3 e3 (natL g.natAbs)) => frac_Check (decide (p < 0)) (decide (g < 0)) A3 B3 c3 e3 _ _ V a1 a2
  rw [f1.chk] at Dx
  rw [f2.chk] at Dy
  rw [f3.chk] at Dz
  have Ex := Hd Dx
  have Ey := Hd Dy
  have Ez := Hd Dz
  have M1 := Hd (fun (V : World) (a1 : Raw V A c (natL n.natAbs)) (a2 : Raw V B e0 (natL d.natAbs)) (a3 : Raw V A2 c2 (natL m.natAbs)) (a4 : Raw V B2 e2 (natL f.natAbs)) => frac_Cmp_good n d m f (0) A B A2 B2 c e0 c2 e2 V a1 a2 a3 a4 f1 f2 hk1.symm)
  have M2 := Hd (fun (V : World) (a1 : Raw V A2 c2 (natL m.natAbs)) (a2 : Raw V B2 e2 (natL f.natAbs)) (a3 : Raw V A c (natL n.natAbs)) (a4 : Raw V B e0 (natL d.natAbs)) => frac_Cmp_good m f n d (0) A2 B2 A B c2 e2 c e0 V a1 a2 a3 a4 f2 f1 (by have := cmpz_turn (n * f) (m * d); rw [hk1] at this; omega))
  have S1 := fun (V : World) (a1 : Raw V A c (natL n.natAbs)) (a2 : Raw V B e0 (natL d.natAbs)) (a3 : Raw V A2 c2 (natL m.natAbs)) (a4 : Raw V B2 e2 (natL f.natAbs)) => frac_Sub_good n d m f A B A2 B2 c e0 c2 e2 V a1 a2 a3 a4 f1 f2
  have Q1 := fun (V : World) (a1 : Raw V A c (natL n.natAbs)) (a2 : Raw V B e0 (natL d.natAbs)) (a3 : Raw V A2 c2 (natL m.natAbs)) (a4 : Raw V B2 e2 (natL f.natAbs)) => sameFrac_any n d m f A B A2 B2 c e0 c2 e2 V a1 a2 a3 a4
  have hsame : decide (n = m ∧ d = f) = true := decide_eq_true ((frac_one_iff f1 f2).1 ((cmpz_nought _ _).1 hk1))
  rw [hsame] at Q1
  have HQ := Hd Q1
  have hss := sub_sign (n := n) (m := m) f1.pos f2.pos
  rw [hk1] at hss
  unfold ansN ansD ansK at S1
  simp only [if_neg hl] at S1
  obtain ⟨N, hN⟩ : ∃ k : Int, k = 0 := ⟨_, rfl⟩
  obtain ⟨D, hD⟩ : ∃ k : Int, k = 0 := ⟨_, rfl⟩
  have S1 : ∀ (V : World) (a1 : Raw V A c (natL n.natAbs)) (a2 : Raw V B e0 (natL d.natAbs)) (a3 : Raw V A2 c2 (natL m.natAbs)) (a4 : Raw V B2 e2 (natL f.natAbs)), Calls Tryd.prog 10 #[.agg #[.bool (decide (n < 0)), .slice A (natL n.natAbs).length c, .bool (decide (d < 0)), .slice B (natL d.natAbs).length e0], .agg #[.bool (decide (m < 0)), .slice A2 (natL m.natAbs).length c2, .bool (decide (f < 0)), .slice B2 (natL f.natAbs).length e2]] V (RetFracOwn2 V.heap.size V N D 4) := by rw [hN, hD]; exact S1
  have HS1 := Hd S1
  obtain ⟨k3, e3'⟩ : ∃ k : Int, k = cmpz (m * g) (p * f) := ⟨_, rfl⟩
  have M3 := Hd (fun (V : World) (a1 : Raw V A2 c2 (natL m.natAbs)) (a2 : Raw V B2 e2 (natL f.natAbs)) (a3 : Raw V A3 c3 (natL p.natAbs)) (a4 : Raw V B3 e3 (natL g.natAbs)) => frac_Cmp_good m f p g k3 A2 B2 A3 B3 c2 e2 c3 e3 V a1 a2 a3 a4 f2 f3 e3')
  rw [← e3'] at hk3
  have H9 := Hd hk3
  clear Dx Dy Dz S1 Q1 hsame hss f1 f2 f3 hk1 hl hN hD e3' hk3
  have C1 := fun (V : World) (a1 : Raw V A c (natL n.natAbs)) (a2 : Raw V B e0 (natL d.natAbs)) => frac_cost (decide (n < 0)) (decide (d < 0)) A B c e0 _ _ hlx hly V a1 a2
  have C2 := fun (V : World) (a1 : Raw V A2 c2 (natL m.natAbs)) (a2 : Raw V B2 e2 (natL f.natAbs)) => frac_cost (decide (m < 0)) (decide (f < 0)) A2 B2 c2 e2 _ _ hlu hlv V a1 a2
  have C3 := fun (V : World) (a1 : Raw V A3 c3 (natL p.natAbs)) (a2 : Raw V B3 e3 (natL g.natAbs)) => frac_cost (decide (p < 0)) (decide (g < 0)) A3 B3 c3 e3 _ _ hlp hlq V a1 a2
  have h1 := fcost_le hlx hly
  have h2 := fcost_le hlu hlv
  have h3 := fcost_le hlp hlq
  obtain ⟨s1, q1⟩ : ∃ k : Nat, k = fcost (natL n.natAbs).length (natL d.natAbs).length := ⟨_, rfl⟩
  obtain ⟨s2, q2⟩ : ∃ k : Nat, k = fcost (natL m.natAbs).length (natL f.natAbs).length := ⟨_, rfl⟩
  obtain ⟨s3, q3⟩ : ∃ k : Nat, k = fcost (natL p.natAbs).length (natL g.natAbs).length := ⟨_, rfl⟩
  rw [← q1] at C1 h1
  rw [← q2] at C2 h2
  rw [← q3] at C3 h3
  rw [← q1, ← q2, ← q3] at hb
  have H4 := Hd (fun (u : Value) (V : World) (h : SliceOf [s1, s2, s3] u V) => beyond_of2 [s1, s2, s3] false (by simp) (by simp; omega) hb.symm u V h)
  have H1 := Hd C1
  have H2 := Hd C2
  have H3 := Hd C3
  clear C1 C2 C3 h1 h2 h3 q1 q2 q3 hb hlx hly hlu hlv hlp hlq
  have b0 := (((Below.refl w.heap.size w).alloc (Nat.le_refl _) (.cells #[.bool (decide (n < 0)), .slice A (natL n.natAbs).length c, .bool (decide (d < 0)), .slice B (natL d.natAbs).length e0] 26)).alloc (by simp) (.cells #[.bool (decide (m < 0)), .slice A2 (natL m.natAbs).length c2, .bool (decide (f < 0)), .slice B2 (natL f.natAbs).length e2] 26)).alloc (by simp; omega) (.cells #[.bool (decide (p < 0)), .slice A3 (natL p.natAbs).length c3, .bool (decide (g < 0)), .slice B3 (natL g.natAbs).length e3] 26)
  have p0 := ((Quad.new w (.bool (decide (n < 0))) (.slice A (natL n.natAbs).length c) (.bool (decide (d < 0))) (.slice B (natL d.natAbs).length e0)).alloc (.cells #[.bool (decide (m < 0)), .slice A2 (natL m.natAbs).length c2, .bool (decide (f < 0)), .slice B2 (natL f.natAbs).length e2] 26)).alloc (.cells #[.bool (decide (p < 0)), .slice A3 (natL p.natAbs).length c3, .bool (decide (g < 0)), .slice B3 (natL g.natAbs).length e3] 26)
  have p1 := (Quad.new (w.alloc (.cells #[.bool (decide (n < 0)), .slice A (natL n.natAbs).length c, .bool (decide (d < 0)), .slice B (natL d.natAbs).length e0] 26)) (.bool (decide (m < 0))) (.slice A2 (natL m.natAbs).length c2) (.bool (decide (f < 0))) (.slice B2 (natL f.natAbs).length e2)).alloc (.cells #[.bool (decide (p < 0)), .slice A3 (natL p.natAbs).length c3, .bool (decide (g < 0)), .slice B3 (natL g.natAbs).length e3] 26)
  have p2 := Quad.new ((w.alloc (.cells #[.bool (decide (n < 0)), .slice A (natL n.natAbs).length c, .bool (decide (d < 0)), .slice B (natL d.natAbs).length e0] 26)).alloc (.cells #[.bool (decide (m < 0)), .slice A2 (natL m.natAbs).length c2, .bool (decide (f < 0)), .slice B2 (natL f.natAbs).length e2] 26)) (.bool (decide (p < 0))) (.slice A3 (natL p.natAbs).length c3) (.bool (decide (g < 0))) (.slice B3 (natL g.natAbs).length e3)
  simp only [World.size_alloc] at p1 p2
  have PX := Hd p0
  have PY := Hd p1
  have PZ := Hd p2
  have RX := Hd (hx.below b0)
  have KX := Hd (kx.below b0)
  have RY := Hd (hy.below b0)
  have KY := Hd (ky.below b0)
  have RZ := Hd (hz.below b0)
  have KZ := Hd (kz.below b0)
  have HT := Hd (htab.below2 b0)
  have HB := Hd b0
  clear b0 p0 p1 p2 hx kx hy ky hz kz htab
  go_enter Tryd.func3, Tryd.ntmps3
  go_wp2_with fail
  obtain ⟨W, E⟩ : ∃ W, W = ((w.alloc (.cells #[.bool (decide (n < 0)), .slice A (natL n.natAbs).length c, .bool (decide (d < 0)), .slice B (natL d.natAbs).length e0] 26)).alloc (.cells #[.bool (decide (m < 0)), .slice A2 (natL m.natAbs).length c2, .bool (decide (f < 0)), .slice B2 (natL f.natAbs).length e2] 26)).alloc (.cells #[.bool (decide (p < 0)), .slice A3 (natL p.natAbs).length c3, .bool (decide (g < 0)), .slice B3 (natL g.natAbs).length e3] 26) := ⟨_, rfl⟩
  rw [← E] at PX PY PZ RX KX RY KY RZ KZ HT HB ⊢
  clear E
  refine wp_region_free [.val (.agg #[.bool (decide (n < 0)), .slice A (natL n.natAbs).length c, .bool (decide (d < 0)), .slice B (natL d.natAbs).length e0]) [], .val (.int .i64 s1) [], .val (.agg #[.bool (decide (m < 0)), .slice A2 (natL m.natAbs).length c2, .bool (decide (f < 0)), .slice B2 (natL f.natAbs).length e2]) [], .val (.int .i64 s2) [], .val (.agg #[.bool (decide (p < 0)), .slice A3 (natL p.natAbs).length c3, .bool (decide (g < 0)), .slice B3 (natL g.natAbs).length e3]) [], .val (.int .i64 s3) [], .any false (SliceOf [s1, s2, s3]) [], .val (.bool false) [6], .val (.bool false) [], .val (.agg #[.bool (decide (n < 0)), .slice A (natL n.natAbs).length c, .bool (decide (d < 0)), .slice B (natL d.natAbs).length e0]) [], .val (.int .i64 0) [], .val (.bool false) [], .val (.bool false) [], .val (.bool false) [], .val (.agg #[.bool (decide (m < 0)), .slice A2 (natL m.natAbs).length c2, .bool (decide (f < 0)), .slice B2 (natL f.natAbs).length e2]) [], .val (.int .i64 0) [], .val (.bool false) [], .val (.bool false) [], .val (.bool false) [], .val (.agg #[.bool (decide (p < 0)), .slice A3 (natL p.natAbs).length c3, .bool (decide (g < 0)), .slice B3 (natL g.natAbs).length e3]) [], .val (.int .i64 0) [], .val (.bool false) [], .val (.bool false) []] W.heap.size W [] blkInt _ mixedOrders2 (Nat.le_refl _) (Below.refl _ _) (KeptV.refl _ _ _) rfl (by kernel_rfl) (by kernel_rfl) (by kernel_rfl) (by kernel_rfl) (by kernel_rfl) (by kernel_rfl) (by kernel_rfl) (by kernel_rfl) rfl (by simp [oldsF]) ?_ ?_ ?_ ?_
  · simp only [StableF, and_true]
    exact fun u V V' h k => h.kept k
  · simp only [OldsF]
  · simp (maxSteps := 4000000) [StepsF, DepF, freeAct, fill, pairs]
    repeat' (first | apply And.intro | (intro (u : Value)) | (intro (u : Nat)))
    all_goals first
    | (intro V hV hK; clear hV hK; go_simp; exact Below.refl _ _)
    | (intro V hV hK
       have r1 := RX.out.below hV
       have r2 := KX.out.below hV
       have r3 := RY.out.below hV
       have r4 := KY.out.below hV
       have r5 := RZ.out.below hV
       have r6 := KZ.out.below hV
       obtain ⟨-, a_x, b_x, c_x, d_x, -, -, -, -⟩ := (PX.out.below hV).facts
       obtain ⟨-, a_y, b_y, c_y, d_y, -, -, -, -⟩ := (PY.out.below hV).facts
       obtain ⟨-, a_z, b_z, c_z, d_z, -, -, -, -⟩ := (PZ.out.below hV).facts
       clear hV hK
       go_simp
       first
       | exact Below.refl _ _
       | ((with_reducible refine (H1.out V r1 r2).mono ?_); rintro e w' ⟨rfl, hb⟩; exact ⟨rfl, hb⟩)
       | ((with_reducible refine (H2.out V r3 r4).mono ?_); rintro e w' ⟨rfl, hb⟩; exact ⟨rfl, hb⟩)
       | ((with_reducible refine (H3.out V r5 r6).mono ?_); rintro e w' ⟨rfl, hb⟩; exact ⟨rfl, hb⟩)
       | ((with_reducible refine (Ex.out V r1 r2).mono ?_); rintro e w' ⟨rfl, hb⟩; exact ⟨rfl, hb⟩)
       | ((with_reducible refine (Ey.out V r3 r4).mono ?_); rintro e w' ⟨rfl, hb⟩; exact ⟨rfl, hb⟩)
       | ((with_reducible refine (Ez.out V r5 r6).mono ?_); rintro e w' ⟨rfl, hb⟩; exact ⟨rfl, hb⟩)
       | exact ⟨SliceOf.new [s1, s2, s3] _ _ _ rfl, (Below.refl _ _).alloc (Nat.le_refl _) _⟩)
    | (intro V hV hK h1
       clear hV hK
       go_simp
       refine (H4.out _ V h1).mono ?_
       rintro e w' ⟨rfl, hb⟩
       exact ⟨rfl, hb⟩)
  · simp [EndF, FactsF, freeAct, fill, pairs]
    intro u1 V hV hK _ _ _ _
    have PX := Hd (PX.out.below hV)
    have PY := Hd (PY.out.below hV)
    have PZ := Hd (PZ.out.below hV)
    have RX := Hd (RX.out.below hV)
    have KX := Hd (KX.out.below hV)
    have RY := Hd (RY.out.below hV)
    have KY := Hd (KY.out.below hV)
    have RZ := Hd (RZ.out.below hV)
    have KZ := Hd (KZ.out.below hV)
    have HT := Hd (HT.out.below2 hV)
    have HB := Hd (belowTo HB.out hV)
    clear hV hK H1 H2 H3 H4 Ex Ey Ez
    obtain ⟨l_x, x0, x1, x2, x3, -, -, -, -⟩ := PX.out.facts
    obtain ⟨l_y, y0, y1, y2, y3, -, -, -, -⟩ := PY.out.facts
    go_wp2_with fail
    refine (M1.out V RX.out KX.out RY.out KY.out).mono ?_
    rintro e wx1 ⟨rfl, hb⟩
    clear l_x x0 x1 x2 x3
    clear l_y y0 y1 y2 y3
    have HS_wx1 := Hd (show V.heap.size ≤ wx1.heap.size from hb.size)
    have PX := Hd (PX.out.below hb)
    have PY := Hd (PY.out.below hb)
    have PZ := Hd (PZ.out.below hb)
    have RX := Hd (RX.out.below hb)
    have KX := Hd (KX.out.below hb)
    have RY := Hd (RY.out.below hb)
    have KY := Hd (KY.out.below hb)
    have RZ := Hd (RZ.out.below hb)
    have KZ := Hd (KZ.out.below hb)
    have HT := Hd (HT.out.below2 hb)
    have HB := Hd (belowTo HB.out hb)
    obtain ⟨l_x, x0, x1, x2, x3, -, -, -, -⟩ := PX.out.facts
    obtain ⟨l_y, y0, y1, y2, y3, -, -, -, -⟩ := PY.out.facts
    go_wp2_with fail
    refine (HS1.out wx1 RX.out KX.out RY.out KY.out).mono ?_
    rintro e wx2 ⟨v, rfl, hI, hb⟩
    clear l_x x0 x1 x2 x3
    clear l_y y0 y1 y2 y3
    obtain ⟨A8, c8, B8, e8, rfl, i1, i2, -⟩ := hI.form
    have R8 := Hd i1.rawAt
    have K8 := Hd i2.rawAt
    clear hI i1 i2
    have HS_wx2 := Hd (show wx1.heap.size ≤ wx2.heap.size from hb.size)
    have PX := Hd (PX.out.below hb)
    have PY := Hd (PY.out.below hb)
    have PZ := Hd (PZ.out.below hb)
    have RX := Hd (RX.out.below hb)
    have KX := Hd (KX.out.below hb)
    have RY := Hd (RY.out.below hb)
    have KY := Hd (KY.out.below hb)
    have RZ := Hd (RZ.out.below hb)
    have KZ := Hd (KZ.out.below hb)
    have HT := Hd (HT.out.below2 hb)
    have HB := Hd (belowTo HB.out hb)
    clear R8 K8
    have ha := (Below.refl wx2.heap.size wx2).alloc (Nat.le_refl _) (.cells #[.bool (decide (N < 0)), .slice A8 (natL N.natAbs).length c8, .bool (decide (D < 0)), .slice B8 (natL D.natAbs).length e8] 26)
    have hn := Quad.new wx2 (.bool (decide (N < 0))) (.slice A8 (natL N.natAbs).length c8) (.bool (decide (D < 0))) (.slice B8 (natL D.natAbs).length e8)
    have hz : (wx2.alloc (.cells #[.bool (decide (N < 0)), .slice A8 (natL N.natAbs).length c8, .bool (decide (D < 0)), .slice B8 (natL D.natAbs).length e8] 26)).heap.size = wx2.heap.size + 1 := by simp
    go_upto_region 5 with fail
    obtain ⟨wy3, E⟩ : ∃ W, W = wx2.alloc (.cells #[.bool (decide (N < 0)), .slice A8 (natL N.natAbs).length c8, .bool (decide (D < 0)), .slice B8 (natL D.natAbs).length e8] 26) := ⟨_, rfl⟩
    obtain ⟨q3, hq⟩ : ∃ q, q = wx2.heap.size := ⟨_, rfl⟩
    rw [← E] at ha
    rw [← E, ← hq] at hn hz ⊢
    have HZ_wy3 := Hd (And.intro hq hz)
    have P8 := Hd hn
    have PX := Hd (PX.out.below ha)
    have PY := Hd (PY.out.below ha)
    have PZ := Hd (PZ.out.below ha)
    have RX := Hd (RX.out.below ha)
    have KX := Hd (KX.out.below ha)
    have RY := Hd (RY.out.below ha)
    have KY := Hd (KY.out.below ha)
    have RZ := Hd (RZ.out.below ha)
    have KZ := Hd (KZ.out.below ha)
    have HT := Hd (HT.out.below2 ha)
    have HB := Hd (belowTo HB.out ha)
    clear ha hn hz hq E
    obtain ⟨l_y, y0, y1, y2, y3, -, -, -, -⟩ := PY.out.facts
    obtain ⟨l_x, x0, x1, x2, x3, -, -, -, -⟩ := PX.out.facts
    go_wp2_with fail
    refine (M2.out wy3 RY.out KY.out RX.out KX.out).mono ?_
    rintro e wx4 ⟨rfl, hb⟩
    clear l_y y0 y1 y2 y3
    clear l_x x0 x1 x2 x3
    have HS_wx4 := Hd (show wy3.heap.size ≤ wx4.heap.size from hb.size)
    have PX := Hd (PX.out.below hb)
    have PY := Hd (PY.out.below hb)
    have PZ := Hd (PZ.out.below hb)
    have RX := Hd (RX.out.below hb)
    have KX := Hd (KX.out.below hb)
    have RY := Hd (RY.out.below hb)
    have KY := Hd (KY.out.below hb)
    have RZ := Hd (RZ.out.below hb)
    have KZ := Hd (KZ.out.below hb)
    have HT := Hd (HT.out.below2 hb)
    have P8 := Hd (P8.out.below hb)
    have HB := Hd (belowTo HB.out hb)
    obtain ⟨l_x, x0, x1, x2, x3, -, -, -, -⟩ := PX.out.facts
    obtain ⟨l_y, y0, y1, y2, y3, -, -, -, -⟩ := PY.out.facts
    go_wp2_with fail
    refine (HQ.out wx4 RX.out KX.out RY.out KY.out).mono ?_
    rintro e wx5 ⟨rfl, hb⟩
    clear l_x x0 x1 x2 x3
    clear l_y y0 y1 y2 y3
    have HS_wx5 := Hd (show wx4.heap.size ≤ wx5.heap.size from hb.size)
    have PX := Hd (PX.out.below hb)
    have PY := Hd (PY.out.below hb)
    have PZ := Hd (PZ.out.below hb)
    have RX := Hd (RX.out.below hb)
    have KX := Hd (KX.out.below hb)
    have RY := Hd (RY.out.below hb)
    have KY := Hd (KY.out.below hb)
    have RZ := Hd (RZ.out.below hb)
    have KZ := Hd (KZ.out.below hb)
    have HT := Hd (HT.out.below2 hb)
    have P8 := Hd (P8.out.below hb)
    have HB := Hd (belowTo HB.out hb)
    obtain ⟨l_y, y0, y1, y2, y3, -, -, -, -⟩ := PY.out.facts
    obtain ⟨l_z, z0, z1, z2, z3, -, -, -, -⟩ := PZ.out.facts
    go_wp2_with fail
    refine (M3.out wx5 RY.out KY.out RZ.out KZ.out).mono ?_
    rintro e wx6 ⟨rfl, hb⟩
    clear l_y y0 y1 y2 y3
    clear l_z z0 z1 z2 z3
    have HS_wx6 := Hd (show wx5.heap.size ≤ wx6.heap.size from hb.size)
    have PX := Hd (PX.out.below hb)
    have PY := Hd (PY.out.below hb)
    have PZ := Hd (PZ.out.below hb)
    have RX := Hd (RX.out.below hb)
    have KX := Hd (KX.out.below hb)
    have RY := Hd (RY.out.below hb)
    have KY := Hd (KY.out.below hb)
    have RZ := Hd (RZ.out.below hb)
    have KZ := Hd (KZ.out.below hb)
    have HT := Hd (HT.out.below2 hb)
    have P8 := Hd (P8.out.below hb)
    have HB := Hd (belowTo HB.out hb)
    have h9 := H9.out
    go_wp2_with fail
    refine (lives_ours wx6 HT.out).mono ?_
    rintro e wx7 ⟨rfl, hb⟩
    have HS_wx7 := Hd (show wx6.heap.size ≤ wx7.heap.size from hb.size)
    have PX := Hd (PX.out.below hb)
    have PY := Hd (PY.out.below hb)
    have PZ := Hd (PZ.out.below hb)
    have RX := Hd (RX.out.below hb)
    have KX := Hd (KX.out.below hb)
    have RY := Hd (RY.out.below hb)
    have KY := Hd (KY.out.below hb)
    have RZ := Hd (RZ.out.below hb)
    have KZ := Hd (KZ.out.below hb)
    have HT := Hd (HT.out.below2 hb)
    have P8 := Hd (P8.out.below hb)
    have HB := Hd (belowTo HB.out hb)
    go_wp2_with fail
    go_ret
    exact ⟨rfl, HB.out⟩

theorem forder_n_long_less (n d m f p g : Int) (A B A2 B2 A3 B3 : Option Addr) (c e0 c2 e2 c3 e3 : Nat) (w : World) (hx : Raw w A c (natL n.natAbs)) (kx : Raw w B e0 (natL d.natAbs)) (hy : Raw w A2 c2 (natL m.natAbs)) (ky : Raw w B2 e2 (natL f.natAbs)) (hz : Raw w A3 c3 (natL p.natAbs)) (kz : Raw w B3 e3 (natL g.natAbs)) (htab : powTab w) (hlx : (natL n.natAbs).length ≤ 1152921504606846975) (hly : (natL d.natAbs).length ≤ 1152921504606846975) (hlu : (natL m.natAbs).length ≤ 1152921504606846975) (hlv : (natL f.natAbs).length ≤ 1152921504606846975) (hlp : (natL p.natAbs).length ≤ 1152921504606846975) (hlq : (natL g.natAbs).length ≤ 1152921504606846975) (hb : decide (1048576 < [fcost (natL n.natAbs).length (natL d.natAbs).length, fcost (natL m.natAbs).length (natL f.natAbs).length, fcost (natL p.natAbs).length (natL g.natAbs).length].sum) = false) (f1 : Fine n d) (f2 : Fine m f) (f3 : Fine p g) (hk1 : cmpz (n * f) (m * d) = 0) (hl : ¬ (lz (subN n d m f) ≤ 2048 ∧ lz (subD n d m f) ≤ 2048)) (hk3 : cmpz (m * g) (p * f) ≤ 0) :
    Calls Tryd.prog 3 #[.agg #[.bool (decide (n < 0)), .slice A (natL n.natAbs).length c, .bool (decide (d < 0)), .slice B (natL d.natAbs).length e0], .agg #[.bool (decide (m < 0)), .slice A2 (natL m.natAbs).length c2, .bool (decide (f < 0)), .slice B2 (natL f.natAbs).length e2], .agg #[.bool (decide (p < 0)), .slice A3 (natL p.natAbs).length c3, .bool (decide (g < 0)), .slice B3 (natL g.natAbs).length e3]] w fun e w' => e = .returned (.bool true) ∧ Below w.heap.size w w' := by
  have Dx := fun (V : World) (a1 : Raw V A c (natL n.natAbs)) (a2 : Raw V B e0 (natL d.natAbs)) => frac_Check (decide (n < 0)) (decide (d < 0)) A B c e0 _ _ V a1 a2
  have Dy := fun (V : World) (a1 : Raw V A2 c2 (natL m.natAbs)) (a2 : Raw V B2 e2 (natL f.natAbs)) => frac_Check (decide (m < 0)) (decide (f < 0)) A2 B2 c2 e2 _ _ V a1 a2
  have Dz := fun (V : World) (a1 : Raw V A3 c3 (natL p.natAbs)) (a2 : Raw V B3 e3 (natL g.natAbs)) => frac_Check (decide (p < 0)) (decide (g < 0)) A3 B3 c3 e3 _ _ V a1 a2
  rw [f1.chk] at Dx
  rw [f2.chk] at Dy
  rw [f3.chk] at Dz
  have Ex := Hd Dx
  have Ey := Hd Dy
  have Ez := Hd Dz
  have M1 := Hd (fun (V : World) (a1 : Raw V A c (natL n.natAbs)) (a2 : Raw V B e0 (natL d.natAbs)) (a3 : Raw V A2 c2 (natL m.natAbs)) (a4 : Raw V B2 e2 (natL f.natAbs)) => frac_Cmp_good n d m f (0) A B A2 B2 c e0 c2 e2 V a1 a2 a3 a4 f1 f2 hk1.symm)
  have M2 := Hd (fun (V : World) (a1 : Raw V A2 c2 (natL m.natAbs)) (a2 : Raw V B2 e2 (natL f.natAbs)) (a3 : Raw V A c (natL n.natAbs)) (a4 : Raw V B e0 (natL d.natAbs)) => frac_Cmp_good m f n d (0) A2 B2 A B c2 e2 c e0 V a1 a2 a3 a4 f2 f1 (by have := cmpz_turn (n * f) (m * d); rw [hk1] at this; omega))
  have S1 := fun (V : World) (a1 : Raw V A c (natL n.natAbs)) (a2 : Raw V B e0 (natL d.natAbs)) (a3 : Raw V A2 c2 (natL m.natAbs)) (a4 : Raw V B2 e2 (natL f.natAbs)) => frac_Sub_good n d m f A B A2 B2 c e0 c2 e2 V a1 a2 a3 a4 f1 f2
  have Q1 := fun (V : World) (a1 : Raw V A c (natL n.natAbs)) (a2 : Raw V B e0 (natL d.natAbs)) (a3 : Raw V A2 c2 (natL m.natAbs)) (a4 : Raw V B2 e2 (natL f.natAbs)) => sameFrac_any n d m f A B A2 B2 c e0 c2 e2 V a1 a2 a3 a4
  have hsame : decide (n = m ∧ d = f) = true := decide_eq_true ((frac_one_iff f1 f2).1 ((cmpz_nought _ _).1 hk1))
  rw [hsame] at Q1
  have HQ := Hd Q1
  have hss := sub_sign (n := n) (m := m) f1.pos f2.pos
  rw [hk1] at hss
  unfold ansN ansD ansK at S1
  simp only [if_neg hl] at S1
  obtain ⟨N, hN⟩ : ∃ k : Int, k = 0 := ⟨_, rfl⟩
  obtain ⟨D, hD⟩ : ∃ k : Int, k = 0 := ⟨_, rfl⟩
  have S1 : ∀ (V : World) (a1 : Raw V A c (natL n.natAbs)) (a2 : Raw V B e0 (natL d.natAbs)) (a3 : Raw V A2 c2 (natL m.natAbs)) (a4 : Raw V B2 e2 (natL f.natAbs)), Calls Tryd.prog 10 #[.agg #[.bool (decide (n < 0)), .slice A (natL n.natAbs).length c, .bool (decide (d < 0)), .slice B (natL d.natAbs).length e0], .agg #[.bool (decide (m < 0)), .slice A2 (natL m.natAbs).length c2, .bool (decide (f < 0)), .slice B2 (natL f.natAbs).length e2]] V (RetFracOwn2 V.heap.size V N D 4) := by rw [hN, hD]; exact S1
  have HS1 := Hd S1
  obtain ⟨k3, e3'⟩ : ∃ k : Int, k = cmpz (m * g) (p * f) := ⟨_, rfl⟩
  have M3 := Hd (fun (V : World) (a1 : Raw V A2 c2 (natL m.natAbs)) (a2 : Raw V B2 e2 (natL f.natAbs)) (a3 : Raw V A3 c3 (natL p.natAbs)) (a4 : Raw V B3 e3 (natL g.natAbs)) => frac_Cmp_good m f p g k3 A2 B2 A3 B3 c2 e2 c3 e3 V a1 a2 a3 a4 f2 f3 e3')
  obtain ⟨k4, e4'⟩ : ∃ k : Int, k = cmpz (n * g) (p * d) := ⟨_, rfl⟩
  have M4 := Hd (fun (V : World) (a1 : Raw V A c (natL n.natAbs)) (a2 : Raw V B e0 (natL d.natAbs)) (a3 : Raw V A3 c3 (natL p.natAbs)) (a4 : Raw V B3 e3 (natL g.natAbs)) => frac_Cmp_good n d p g k4 A B A3 B3 c e0 c3 e3 V a1 a2 a3 a4 f1 f3 e4')
  have H0 := Hd (show k4 ≤ 0 from by
    rw [e4']
    exact (cmpz_le0 _ _).2 (cmp_three f1.pos f2.pos f3.pos ((cmpz_le0 _ _).1 (by rw [hk1]; decide)) ((cmpz_le0 _ _).1 hk3)))
  rw [← e3'] at hk3
  have H9 := Hd hk3
  clear Dx Dy Dz S1 Q1 hsame hss f1 f2 f3 hk1 hl hN hD e3' hk3 e4'
  have C1 := fun (V : World) (a1 : Raw V A c (natL n.natAbs)) (a2 : Raw V B e0 (natL d.natAbs)) => frac_cost (decide (n < 0)) (decide (d < 0)) A B c e0 _ _ hlx hly V a1 a2
  have C2 := fun (V : World) (a1 : Raw V A2 c2 (natL m.natAbs)) (a2 : Raw V B2 e2 (natL f.natAbs)) => frac_cost (decide (m < 0)) (decide (f < 0)) A2 B2 c2 e2 _ _ hlu hlv V a1 a2
  have C3 := fun (V : World) (a1 : Raw V A3 c3 (natL p.natAbs)) (a2 : Raw V B3 e3 (natL g.natAbs)) => frac_cost (decide (p < 0)) (decide (g < 0)) A3 B3 c3 e3 _ _ hlp hlq V a1 a2
  have h1 := fcost_le hlx hly
  have h2 := fcost_le hlu hlv
  have h3 := fcost_le hlp hlq
  obtain ⟨s1, q1⟩ : ∃ k : Nat, k = fcost (natL n.natAbs).length (natL d.natAbs).length := ⟨_, rfl⟩
  obtain ⟨s2, q2⟩ : ∃ k : Nat, k = fcost (natL m.natAbs).length (natL f.natAbs).length := ⟨_, rfl⟩
  obtain ⟨s3, q3⟩ : ∃ k : Nat, k = fcost (natL p.natAbs).length (natL g.natAbs).length := ⟨_, rfl⟩
  rw [← q1] at C1 h1
  rw [← q2] at C2 h2
  rw [← q3] at C3 h3
  rw [← q1, ← q2, ← q3] at hb
  have H4 := Hd (fun (u : Value) (V : World) (h : SliceOf [s1, s2, s3] u V) => beyond_of2 [s1, s2, s3] false (by simp) (by simp; omega) hb.symm u V h)
  have H1 := Hd C1
  have H2 := Hd C2
  have H3 := Hd C3
  clear C1 C2 C3 h1 h2 h3 q1 q2 q3 hb hlx hly hlu hlv hlp hlq
  have b0 := (((Below.refl w.heap.size w).alloc (Nat.le_refl _) (.cells #[.bool (decide (n < 0)), .slice A (natL n.natAbs).length c, .bool (decide (d < 0)), .slice B (natL d.natAbs).length e0] 26)).alloc (by simp) (.cells #[.bool (decide (m < 0)), .slice A2 (natL m.natAbs).length c2, .bool (decide (f < 0)), .slice B2 (natL f.natAbs).length e2] 26)).alloc (by simp; omega) (.cells #[.bool (decide (p < 0)), .slice A3 (natL p.natAbs).length c3, .bool (decide (g < 0)), .slice B3 (natL g.natAbs).length e3] 26)
  have p0 := ((Quad.new w (.bool (decide (n < 0))) (.slice A (natL n.natAbs).length c) (.bool (decide (d < 0))) (.slice B (natL d.natAbs).length e0)).alloc (.cells #[.bool (decide (m < 0)), .slice A2 (natL m.natAbs).length c2, .bool (decide (f < 0)), .slice B2 (natL f.natAbs).length e2] 26)).alloc (.cells #[.bool (decide (p < 0)), .slice A3 (natL p.natAbs).length c3, .bool (decide (g < 0)), .slice B3 (natL g.natAbs).length e3] 26)
  have p1 := (Quad.new (w.alloc (.cells #[.bool (decide (n < 0)), .slice A (natL n.natAbs).length c, .bool (decide (d < 0)), .slice B (natL d.natAbs).length e0] 26)) (.bool (decide (m < 0))) (.slice A2 (natL m.natAbs).length c2) (.bool (decide (f < 0))) (.slice B2 (natL f.natAbs).length e2)).alloc (.cells #[.bool (decide (p < 0)), .slice A3 (natL p.natAbs).length c3, .bool (decide (g < 0)), .slice B3 (natL g.natAbs).length e3] 26)
  have p2 := Quad.new ((w.alloc (.cells #[.bool (decide (n < 0)), .slice A (natL n.natAbs).length c, .bool (decide (d < 0)), .slice B (natL d.natAbs).length e0] 26)).alloc (.cells #[.bool (decide (m < 0)), .slice A2 (natL m.natAbs).length c2, .bool (decide (f < 0)), .slice B2 (natL f.natAbs).length e2] 26)) (.bool (decide (p < 0))) (.slice A3 (natL p.natAbs).length c3) (.bool (decide (g < 0))) (.slice B3 (natL g.natAbs).length e3)
  simp only [World.size_alloc] at p1 p2
  have PX := Hd p0
  have PY := Hd p1
  have PZ := Hd p2
  have RX := Hd (hx.below b0)
  have KX := Hd (kx.below b0)
  have RY := Hd (hy.below b0)
  have KY := Hd (ky.below b0)
  have RZ := Hd (hz.below b0)
  have KZ := Hd (kz.below b0)
  have HT := Hd (htab.below2 b0)
  have HB := Hd b0
  clear b0 p0 p1 p2 hx kx hy ky hz kz htab
  go_enter Tryd.func3, Tryd.ntmps3
  go_wp2_with fail
  obtain ⟨W, E⟩ : ∃ W, W = ((w.alloc (.cells #[.bool (decide (n < 0)), .slice A (natL n.natAbs).length c, .bool (decide (d < 0)), .slice B (natL d.natAbs).length e0] 26)).alloc (.cells #[.bool (decide (m < 0)), .slice A2 (natL m.natAbs).length c2, .bool (decide (f < 0)), .slice B2 (natL f.natAbs).length e2] 26)).alloc (.cells #[.bool (decide (p < 0)), .slice A3 (natL p.natAbs).length c3, .bool (decide (g < 0)), .slice B3 (natL g.natAbs).length e3] 26) := ⟨_, rfl⟩
  rw [← E] at PX PY PZ RX KX RY KY RZ KZ HT HB ⊢
  clear E
  refine wp_region_free [.val (.agg #[.bool (decide (n < 0)), .slice A (natL n.natAbs).length c, .bool (decide (d < 0)), .slice B (natL d.natAbs).length e0]) [], .val (.int .i64 s1) [], .val (.agg #[.bool (decide (m < 0)), .slice A2 (natL m.natAbs).length c2, .bool (decide (f < 0)), .slice B2 (natL f.natAbs).length e2]) [], .val (.int .i64 s2) [], .val (.agg #[.bool (decide (p < 0)), .slice A3 (natL p.natAbs).length c3, .bool (decide (g < 0)), .slice B3 (natL g.natAbs).length e3]) [], .val (.int .i64 s3) [], .any false (SliceOf [s1, s2, s3]) [], .val (.bool false) [6], .val (.bool false) [], .val (.agg #[.bool (decide (n < 0)), .slice A (natL n.natAbs).length c, .bool (decide (d < 0)), .slice B (natL d.natAbs).length e0]) [], .val (.int .i64 0) [], .val (.bool false) [], .val (.bool false) [], .val (.bool false) [], .val (.agg #[.bool (decide (m < 0)), .slice A2 (natL m.natAbs).length c2, .bool (decide (f < 0)), .slice B2 (natL f.natAbs).length e2]) [], .val (.int .i64 0) [], .val (.bool false) [], .val (.bool false) [], .val (.bool false) [], .val (.agg #[.bool (decide (p < 0)), .slice A3 (natL p.natAbs).length c3, .bool (decide (g < 0)), .slice B3 (natL g.natAbs).length e3]) [], .val (.int .i64 0) [], .val (.bool false) [], .val (.bool false) []] W.heap.size W [] blkInt _ mixedOrders2 (Nat.le_refl _) (Below.refl _ _) (KeptV.refl _ _ _) rfl (by kernel_rfl) (by kernel_rfl) (by kernel_rfl) (by kernel_rfl) (by kernel_rfl) (by kernel_rfl) (by kernel_rfl) (by kernel_rfl) rfl (by simp [oldsF]) ?_ ?_ ?_ ?_
  · simp only [StableF, and_true]
    exact fun u V V' h k => h.kept k
  · simp only [OldsF]
  · simp (maxSteps := 4000000) [StepsF, DepF, freeAct, fill, pairs]
    repeat' (first | apply And.intro | (intro (u : Value)) | (intro (u : Nat)))
    all_goals first
    | (intro V hV hK; clear hV hK; go_simp; exact Below.refl _ _)
    | (intro V hV hK
       have r1 := RX.out.below hV
       have r2 := KX.out.below hV
       have r3 := RY.out.below hV
       have r4 := KY.out.below hV
       have r5 := RZ.out.below hV
       have r6 := KZ.out.below hV
       obtain ⟨-, a_x, b_x, c_x, d_x, -, -, -, -⟩ := (PX.out.below hV).facts
       obtain ⟨-, a_y, b_y, c_y, d_y, -, -, -, -⟩ := (PY.out.below hV).facts
       obtain ⟨-, a_z, b_z, c_z, d_z, -, -, -, -⟩ := (PZ.out.below hV).facts
       clear hV hK
       go_simp
       first
       | exact Below.refl _ _
       | ((with_reducible refine (H1.out V r1 r2).mono ?_); rintro e w' ⟨rfl, hb⟩; exact ⟨rfl, hb⟩)
       | ((with_reducible refine (H2.out V r3 r4).mono ?_); rintro e w' ⟨rfl, hb⟩; exact ⟨rfl, hb⟩)
       | ((with_reducible refine (H3.out V r5 r6).mono ?_); rintro e w' ⟨rfl, hb⟩; exact ⟨rfl, hb⟩)
       | ((with_reducible refine (Ex.out V r1 r2).mono ?_); rintro e w' ⟨rfl, hb⟩; exact ⟨rfl, hb⟩)
       | ((with_reducible refine (Ey.out V r3 r4).mono ?_); rintro e w' ⟨rfl, hb⟩; exact ⟨rfl, hb⟩)
       | ((with_reducible refine (Ez.out V r5 r6).mono ?_); rintro e w' ⟨rfl, hb⟩; exact ⟨rfl, hb⟩)
       | exact ⟨SliceOf.new [s1, s2, s3] _ _ _ rfl, (Below.refl _ _).alloc (Nat.le_refl _) _⟩)
    | (intro V hV hK h1
       clear hV hK
       go_simp
       refine (H4.out _ V h1).mono ?_
       rintro e w' ⟨rfl, hb⟩
       exact ⟨rfl, hb⟩)
  · simp [EndF, FactsF, freeAct, fill, pairs]
    intro u1 V hV hK _ _ _ _
    have PX := Hd (PX.out.below hV)
    have PY := Hd (PY.out.below hV)
    have PZ := Hd (PZ.out.below hV)
    have RX := Hd (RX.out.below hV)
    have KX := Hd (KX.out.below hV)
    have RY := Hd (RY.out.below hV)
    have KY := Hd (KY.out.below hV)
    have RZ := Hd (RZ.out.below hV)
    have KZ := Hd (KZ.out.below hV)
    have HT := Hd (HT.out.below2 hV)
    have HB := Hd (belowTo HB.out hV)
    clear hV hK H1 H2 H3 H4 Ex Ey Ez
    obtain ⟨l_x, x0, x1, x2, x3, -, -, -, -⟩ := PX.out.facts
    obtain ⟨l_y, y0, y1, y2, y3, -, -, -, -⟩ := PY.out.facts
    go_wp2_with fail
    refine (M1.out V RX.out KX.out RY.out KY.out).mono ?_
    rintro e wx1 ⟨rfl, hb⟩
    clear l_x x0 x1 x2 x3
    clear l_y y0 y1 y2 y3
    have HS_wx1 := Hd (show V.heap.size ≤ wx1.heap.size from hb.size)
    have PX := Hd (PX.out.below hb)
    have PY := Hd (PY.out.below hb)
    have PZ := Hd (PZ.out.below hb)
    have RX := Hd (RX.out.below hb)
    have KX := Hd (KX.out.below hb)
    have RY := Hd (RY.out.below hb)
    have KY := Hd (KY.out.below hb)
    have RZ := Hd (RZ.out.below hb)
    have KZ := Hd (KZ.out.below hb)
    have HT := Hd (HT.out.below2 hb)
    have HB := Hd (belowTo HB.out hb)
    obtain ⟨l_x, x0, x1, x2, x3, -, -, -, -⟩ := PX.out.facts
    obtain ⟨l_y, y0, y1, y2, y3, -, -, -, -⟩ := PY.out.facts
    go_wp2_with fail
    refine (HS1.out wx1 RX.out KX.out RY.out KY.out).mono ?_
    rintro e wx2 ⟨v, rfl, hI, hb⟩
    clear l_x x0 x1 x2 x3
    clear l_y y0 y1 y2 y3
    obtain ⟨A8, c8, B8, e8, rfl, i1, i2, -⟩ := hI.form
    have R8 := Hd i1.rawAt
    have K8 := Hd i2.rawAt
    clear hI i1 i2
    have HS_wx2 := Hd (show wx1.heap.size ≤ wx2.heap.size from hb.size)
    have PX := Hd (PX.out.below hb)
    have PY := Hd (PY.out.below hb)
    have PZ := Hd (PZ.out.below hb)
    have RX := Hd (RX.out.below hb)
    have KX := Hd (KX.out.below hb)
    have RY := Hd (RY.out.below hb)
    have KY := Hd (KY.out.below hb)
    have RZ := Hd (RZ.out.below hb)
    have KZ := Hd (KZ.out.below hb)
    have HT := Hd (HT.out.below2 hb)
    have HB := Hd (belowTo HB.out hb)
    clear R8 K8
    have ha := (Below.refl wx2.heap.size wx2).alloc (Nat.le_refl _) (.cells #[.bool (decide (N < 0)), .slice A8 (natL N.natAbs).length c8, .bool (decide (D < 0)), .slice B8 (natL D.natAbs).length e8] 26)
    have hn := Quad.new wx2 (.bool (decide (N < 0))) (.slice A8 (natL N.natAbs).length c8) (.bool (decide (D < 0))) (.slice B8 (natL D.natAbs).length e8)
    have hz : (wx2.alloc (.cells #[.bool (decide (N < 0)), .slice A8 (natL N.natAbs).length c8, .bool (decide (D < 0)), .slice B8 (natL D.natAbs).length e8] 26)).heap.size = wx2.heap.size + 1 := by simp
    go_upto_region 5 with fail
    obtain ⟨wy3, E⟩ : ∃ W, W = wx2.alloc (.cells #[.bool (decide (N < 0)), .slice A8 (natL N.natAbs).length c8, .bool (decide (D < 0)), .slice B8 (natL D.natAbs).length e8] 26) := ⟨_, rfl⟩
    obtain ⟨q3, hq⟩ : ∃ q, q = wx2.heap.size := ⟨_, rfl⟩
    rw [← E] at ha
    rw [← E, ← hq] at hn hz ⊢
    have HZ_wy3 := Hd (And.intro hq hz)
    have P8 := Hd hn
    have PX := Hd (PX.out.below ha)
    have PY := Hd (PY.out.below ha)
    have PZ := Hd (PZ.out.below ha)
    have RX := Hd (RX.out.below ha)
    have KX := Hd (KX.out.below ha)
    have RY := Hd (RY.out.below ha)
    have KY := Hd (KY.out.below ha)
    have RZ := Hd (RZ.out.below ha)
    have KZ := Hd (KZ.out.below ha)
    have HT := Hd (HT.out.below2 ha)
    have HB := Hd (belowTo HB.out ha)
    clear ha hn hz hq E
    obtain ⟨l_y, y0, y1, y2, y3, -, -, -, -⟩ := PY.out.facts
    obtain ⟨l_x, x0, x1, x2, x3, -, -, -, -⟩ := PX.out.facts
    go_wp2_with fail
    refine (M2.out wy3 RY.out KY.out RX.out KX.out).mono ?_
    rintro e wx4 ⟨rfl, hb⟩
    clear l_y y0 y1 y2 y3
    clear l_x x0 x1 x2 x3
    have HS_wx4 := Hd (show wy3.heap.size ≤ wx4.heap.size from hb.size)
    have PX := Hd (PX.out.below hb)
    have PY := Hd (PY.out.below hb)
    have PZ := Hd (PZ.out.below hb)
    have RX := Hd (RX.out.below hb)
    have KX := Hd (KX.out.below hb)
    have RY := Hd (RY.out.below hb)
    have KY := Hd (KY.out.below hb)
    have RZ := Hd (RZ.out.below hb)
    have KZ := Hd (KZ.out.below hb)
    have HT := Hd (HT.out.below2 hb)
    have P8 := Hd (P8.out.below hb)
    have HB := Hd (belowTo HB.out hb)
    obtain ⟨l_x, x0, x1, x2, x3, -, -, -, -⟩ := PX.out.facts
    obtain ⟨l_y, y0, y1, y2, y3, -, -, -, -⟩ := PY.out.facts
    go_wp2_with fail
    refine (HQ.out wx4 RX.out KX.out RY.out KY.out).mono ?_
    rintro e wx5 ⟨rfl, hb⟩
    clear l_x x0 x1 x2 x3
    clear l_y y0 y1 y2 y3
    have HS_wx5 := Hd (show wx4.heap.size ≤ wx5.heap.size from hb.size)
    have PX := Hd (PX.out.below hb)
    have PY := Hd (PY.out.below hb)
    have PZ := Hd (PZ.out.below hb)
    have RX := Hd (RX.out.below hb)
    have KX := Hd (KX.out.below hb)
    have RY := Hd (RY.out.below hb)
    have KY := Hd (KY.out.below hb)
    have RZ := Hd (RZ.out.below hb)
    have KZ := Hd (KZ.out.below hb)
    have HT := Hd (HT.out.below2 hb)
    have P8 := Hd (P8.out.below hb)
    have HB := Hd (belowTo HB.out hb)
    obtain ⟨l_y, y0, y1, y2, y3, -, -, -, -⟩ := PY.out.facts
    obtain ⟨l_z, z0, z1, z2, z3, -, -, -, -⟩ := PZ.out.facts
    go_wp2_with fail
    refine (M3.out wx5 RY.out KY.out RZ.out KZ.out).mono ?_
    rintro e wx6 ⟨rfl, hb⟩
    clear l_y y0 y1 y2 y3
    clear l_z z0 z1 z2 z3
    have HS_wx6 := Hd (show wx5.heap.size ≤ wx6.heap.size from hb.size)
    have PX := Hd (PX.out.below hb)
    have PY := Hd (PY.out.below hb)
    have PZ := Hd (PZ.out.below hb)
    have RX := Hd (RX.out.below hb)
    have KX := Hd (KX.out.below hb)
    have RY := Hd (RY.out.below hb)
    have KY := Hd (KY.out.below hb)
    have RZ := Hd (RZ.out.below hb)
    have KZ := Hd (KZ.out.below hb)
    have HT := Hd (HT.out.below2 hb)
    have P8 := Hd (P8.out.below hb)
    have HB := Hd (belowTo HB.out hb)
    have h9 := H9.out
    obtain ⟨l_x, x0, x1, x2, x3, -, -, -, -⟩ := PX.out.facts
    obtain ⟨l_z, z0, z1, z2, z3, -, -, -, -⟩ := PZ.out.facts
    go_wp2_with fail
    refine (M4.out wx6 RX.out KX.out RZ.out KZ.out).mono ?_
    rintro e wx7 ⟨rfl, hb⟩
    clear l_x x0 x1 x2 x3
    clear l_z z0 z1 z2 z3
    have HS_wx7 := Hd (show wx6.heap.size ≤ wx7.heap.size from hb.size)
    have PX := Hd (PX.out.below hb)
    have PY := Hd (PY.out.below hb)
    have PZ := Hd (PZ.out.below hb)
    have RX := Hd (RX.out.below hb)
    have KX := Hd (KX.out.below hb)
    have RY := Hd (RY.out.below hb)
    have KY := Hd (KY.out.below hb)
    have RZ := Hd (RZ.out.below hb)
    have KZ := Hd (KZ.out.below hb)
    have HT := Hd (HT.out.below2 hb)
    have P8 := Hd (P8.out.below hb)
    have HB := Hd (belowTo HB.out hb)
    have h0 := H0.out
    go_wp2_with fail
    refine (lives_ours wx7 HT.out).mono ?_
    rintro e wx8 ⟨rfl, hb⟩
    have HS_wx8 := Hd (show wx7.heap.size ≤ wx8.heap.size from hb.size)
    have PX := Hd (PX.out.below hb)
    have PY := Hd (PY.out.below hb)
    have PZ := Hd (PZ.out.below hb)
    have RX := Hd (RX.out.below hb)
    have KX := Hd (KX.out.below hb)
    have RY := Hd (RY.out.below hb)
    have KY := Hd (KY.out.below hb)
    have RZ := Hd (RZ.out.below hb)
    have KZ := Hd (KZ.out.below hb)
    have HT := Hd (HT.out.below2 hb)
    have P8 := Hd (P8.out.below hb)
    have HB := Hd (belowTo HB.out hb)
    go_wp2_with fail
    go_ret
    exact ⟨rfl, HB.out⟩

theorem forder_p_fits (n d m f p g : Int) (A B A2 B2 A3 B3 : Option Addr) (c e0 c2 e2 c3 e3 : Nat) (w : World) (hx : Raw w A c (natL n.natAbs)) (kx : Raw w B e0 (natL d.natAbs)) (hy : Raw w A2 c2 (natL m.natAbs)) (ky : Raw w B2 e2 (natL f.natAbs)) (hz : Raw w A3 c3 (natL p.natAbs)) (kz : Raw w B3 e3 (natL g.natAbs)) (htab : powTab w) (hlx : (natL n.natAbs).length ≤ 1152921504606846975) (hly : (natL d.natAbs).length ≤ 1152921504606846975) (hlu : (natL m.natAbs).length ≤ 1152921504606846975) (hlv : (natL f.natAbs).length ≤ 1152921504606846975) (hlp : (natL p.natAbs).length ≤ 1152921504606846975) (hlq : (natL g.natAbs).length ≤ 1152921504606846975) (hb : decide (1048576 < [fcost (natL n.natAbs).length (natL d.natAbs).length, fcost (natL m.natAbs).length (natL f.natAbs).length, fcost (natL p.natAbs).length (natL g.natAbs).length].sum) = false) (f1 : Fine n d) (f2 : Fine m f) (f3 : Fine p g) (hk1 : cmpz (n * f) (m * d) = 1) (hl : lz (subN n d m f) ≤ 2048 ∧ lz (subD n d m f) ≤ 2048) :
    Calls Tryd.prog 3 #[.agg #[.bool (decide (n < 0)), .slice A (natL n.natAbs).length c, .bool (decide (d < 0)), .slice B (natL d.natAbs).length e0], .agg #[.bool (decide (m < 0)), .slice A2 (natL m.natAbs).length c2, .bool (decide (f < 0)), .slice B2 (natL f.natAbs).length e2], .agg #[.bool (decide (p < 0)), .slice A3 (natL p.natAbs).length c3, .bool (decide (g < 0)), .slice B3 (natL g.natAbs).length e3]] w fun e w' => e = .returned (.bool true) ∧ Below w.heap.size w w' := by
  have Dx := fun (V : World) (a1 : Raw V A c (natL n.natAbs)) (a2 : Raw V B e0 (natL d.natAbs)) => frac_Check (decide (n < 0)) (decide (d < 0)) A B c e0 _ _ V a1 a2
  have Dy := fun (V : World) (a1 : Raw V A2 c2 (natL m.natAbs)) (a2 : Raw V B2 e2 (natL f.natAbs)) => frac_Check (decide (m < 0)) (decide (f < 0)) A2 B2 c2 e2 _ _ V a1 a2
  have Dz := fun (V : World) (a1 : Raw V A3 c3 (natL p.natAbs)) (a2 : Raw V B3 e3 (natL g.natAbs)) => frac_Check (decide (p < 0)) (decide (g < 0)) A3 B3 c3 e3 _ _ V a1 a2
  rw [f1.chk] at Dx
  rw [f2.chk] at Dy
  rw [f3.chk] at Dz
  have Ex := Hd Dx
  have Ey := Hd Dy
  have Ez := Hd Dz
  have M1 := Hd (fun (V : World) (a1 : Raw V A c (natL n.natAbs)) (a2 : Raw V B e0 (natL d.natAbs)) (a3 : Raw V A2 c2 (natL m.natAbs)) (a4 : Raw V B2 e2 (natL f.natAbs)) => frac_Cmp_good n d m f (1) A B A2 B2 c e0 c2 e2 V a1 a2 a3 a4 f1 f2 hk1.symm)
  have M2 := Hd (fun (V : World) (a1 : Raw V A2 c2 (natL m.natAbs)) (a2 : Raw V B2 e2 (natL f.natAbs)) (a3 : Raw V A c (natL n.natAbs)) (a4 : Raw V B e0 (natL d.natAbs)) => frac_Cmp_good m f n d (-1) A2 B2 A B c2 e2 c e0 V a1 a2 a3 a4 f2 f1 (by have := cmpz_turn (n * f) (m * d); rw [hk1] at this; omega))
  have S1 := fun (V : World) (a1 : Raw V A c (natL n.natAbs)) (a2 : Raw V B e0 (natL d.natAbs)) (a3 : Raw V A2 c2 (natL m.natAbs)) (a4 : Raw V B2 e2 (natL f.natAbs)) => frac_Sub_good n d m f A B A2 B2 c e0 c2 e2 V a1 a2 a3 a4 f1 f2
  have Q1 := fun (V : World) (a1 : Raw V A c (natL n.natAbs)) (a2 : Raw V B e0 (natL d.natAbs)) (a3 : Raw V A2 c2 (natL m.natAbs)) (a4 : Raw V B2 e2 (natL f.natAbs)) => sameFrac_any n d m f A B A2 B2 c e0 c2 e2 V a1 a2 a3 a4
  have hsame : decide (n = m ∧ d = f) = false := decide_eq_false (fun h => by have := (cmpz_nought _ _).2 ((frac_one_iff f1 f2).2 h); rw [hk1] at this; exact absurd this (by decide))
  rw [hsame] at Q1
  have HQ := Hd Q1
  have hss := sub_sign (n := n) (m := m) f1.pos f2.pos
  rw [hk1] at hss
  have ff : Fine (subN n d m f) (subD n d m f) := fine_low _ (Int.mul_pos f1.pos f2.pos) hl.1 hl.2
  unfold ansN ansD ansK at S1
  simp only [if_pos hl] at S1
  obtain ⟨N, hN⟩ : ∃ k : Int, k = subN n d m f := ⟨_, rfl⟩
  obtain ⟨D, hD⟩ : ∃ k : Int, k = subD n d m f := ⟨_, rfl⟩
  rw [← hN, ← hD] at S1 ff
  rw [← hN] at hss
  have HSG := Hd (fun (V : World) (A' B' : Option Addr) (c' e' : Nat) (h : Raw V A' c' (natL N.natAbs)) (g' : Raw V B' e' (natL D.natAbs)) => frac_Sign_good N D (1) A' B' c' e' V h g' ff.chk hss.symm)
  have HS1 := Hd S1
  clear Dx Dy Dz S1 Q1 hsame hss f1 f2 f3 hk1 hl hN hD ff
  have C1 := fun (V : World) (a1 : Raw V A c (natL n.natAbs)) (a2 : Raw V B e0 (natL d.natAbs)) => frac_cost (decide (n < 0)) (decide (d < 0)) A B c e0 _ _ hlx hly V a1 a2
  have C2 := fun (V : World) (a1 : Raw V A2 c2 (natL m.natAbs)) (a2 : Raw V B2 e2 (natL f.natAbs)) => frac_cost (decide (m < 0)) (decide (f < 0)) A2 B2 c2 e2 _ _ hlu hlv V a1 a2
  have C3 := fun (V : World) (a1 : Raw V A3 c3 (natL p.natAbs)) (a2 : Raw V B3 e3 (natL g.natAbs)) => frac_cost (decide (p < 0)) (decide (g < 0)) A3 B3 c3 e3 _ _ hlp hlq V a1 a2
  have h1 := fcost_le hlx hly
  have h2 := fcost_le hlu hlv
  have h3 := fcost_le hlp hlq
  obtain ⟨s1, q1⟩ : ∃ k : Nat, k = fcost (natL n.natAbs).length (natL d.natAbs).length := ⟨_, rfl⟩
  obtain ⟨s2, q2⟩ : ∃ k : Nat, k = fcost (natL m.natAbs).length (natL f.natAbs).length := ⟨_, rfl⟩
  obtain ⟨s3, q3⟩ : ∃ k : Nat, k = fcost (natL p.natAbs).length (natL g.natAbs).length := ⟨_, rfl⟩
  rw [← q1] at C1 h1
  rw [← q2] at C2 h2
  rw [← q3] at C3 h3
  rw [← q1, ← q2, ← q3] at hb
  have H4 := Hd (fun (u : Value) (V : World) (h : SliceOf [s1, s2, s3] u V) => beyond_of2 [s1, s2, s3] false (by simp) (by simp; omega) hb.symm u V h)
  have H1 := Hd C1
  have H2 := Hd C2
  have H3 := Hd C3
  clear C1 C2 C3 h1 h2 h3 q1 q2 q3 hb hlx hly hlu hlv hlp hlq
  have b0 := (((Below.refl w.heap.size w).alloc (Nat.le_refl _) (.cells #[.bool (decide (n < 0)), .slice A (natL n.natAbs).length c, .bool (decide (d < 0)), .slice B (natL d.natAbs).length e0] 26)).alloc (by simp) (.cells #[.bool (decide (m < 0)), .slice A2 (natL m.natAbs).length c2, .bool (decide (f < 0)), .slice B2 (natL f.natAbs).length e2] 26)).alloc (by simp; omega) (.cells #[.bool (decide (p < 0)), .slice A3 (natL p.natAbs).length c3, .bool (decide (g < 0)), .slice B3 (natL g.natAbs).length e3] 26)
  have p0 := ((Quad.new w (.bool (decide (n < 0))) (.slice A (natL n.natAbs).length c) (.bool (decide (d < 0))) (.slice B (natL d.natAbs).length e0)).alloc (.cells #[.bool (decide (m < 0)), .slice A2 (natL m.natAbs).length c2, .bool (decide (f < 0)), .slice B2 (natL f.natAbs).length e2] 26)).alloc (.cells #[.bool (decide (p < 0)), .slice A3 (natL p.natAbs).length c3, .bool (decide (g < 0)), .slice B3 (natL g.natAbs).length e3] 26)
  have p1 := (Quad.new (w.alloc (.cells #[.bool (decide (n < 0)), .slice A (natL n.natAbs).length c, .bool (decide (d < 0)), .slice B (natL d.natAbs).length e0] 26)) (.bool (decide (m < 0))) (.slice A2 (natL m.natAbs).length c2) (.bool (decide (f < 0))) (.slice B2 (natL f.natAbs).length e2)).alloc (.cells #[.bool (decide (p < 0)), .slice A3 (natL p.natAbs).length c3, .bool (decide (g < 0)), .slice B3 (natL g.natAbs).length e3] 26)
  have p2 := Quad.new ((w.alloc (.cells #[.bool (decide (n < 0)), .slice A (natL n.natAbs).length c, .bool (decide (d < 0)), .slice B (natL d.natAbs).length e0] 26)).alloc (.cells #[.bool (decide (m < 0)), .slice A2 (natL m.natAbs).length c2, .bool (decide (f < 0)), .slice B2 (natL f.natAbs).length e2] 26)) (.bool (decide (p < 0))) (.slice A3 (natL p.natAbs).length c3) (.bool (decide (g < 0))) (.slice B3 (natL g.natAbs).length e3)
  simp only [World.size_alloc] at p1 p2
  have PX := Hd p0
  have PY := Hd p1
  have PZ := Hd p2
  have RX := Hd (hx.below b0)
  have KX := Hd (kx.below b0)
  have RY := Hd (hy.below b0)
  have KY := Hd (ky.below b0)
  have RZ := Hd (hz.below b0)
  have KZ := Hd (kz.below b0)
  have HT := Hd (htab.below2 b0)
  have HB := Hd b0
  clear b0 p0 p1 p2 hx kx hy ky hz kz htab
  go_enter Tryd.func3, Tryd.ntmps3
  go_wp2_with fail
  obtain ⟨W, E⟩ : ∃ W, W = ((w.alloc (.cells #[.bool (decide (n < 0)), .slice A (natL n.natAbs).length c, .bool (decide (d < 0)), .slice B (natL d.natAbs).length e0] 26)).alloc (.cells #[.bool (decide (m < 0)), .slice A2 (natL m.natAbs).length c2, .bool (decide (f < 0)), .slice B2 (natL f.natAbs).length e2] 26)).alloc (.cells #[.bool (decide (p < 0)), .slice A3 (natL p.natAbs).length c3, .bool (decide (g < 0)), .slice B3 (natL g.natAbs).length e3] 26) := ⟨_, rfl⟩
  rw [← E] at PX PY PZ RX KX RY KY RZ KZ HT HB ⊢
  clear E
  refine wp_region_free [.val (.agg #[.bool (decide (n < 0)), .slice A (natL n.natAbs).length c, .bool (decide (d < 0)), .slice B (natL d.natAbs).length e0]) [], .val (.int .i64 s1) [], .val (.agg #[.bool (decide (m < 0)), .slice A2 (natL m.natAbs).length c2, .bool (decide (f < 0)), .slice B2 (natL f.natAbs).length e2]) [], .val (.int .i64 s2) [], .val (.agg #[.bool (decide (p < 0)), .slice A3 (natL p.natAbs).length c3, .bool (decide (g < 0)), .slice B3 (natL g.natAbs).length e3]) [], .val (.int .i64 s3) [], .any false (SliceOf [s1, s2, s3]) [], .val (.bool false) [6], .val (.bool false) [], .val (.agg #[.bool (decide (n < 0)), .slice A (natL n.natAbs).length c, .bool (decide (d < 0)), .slice B (natL d.natAbs).length e0]) [], .val (.int .i64 0) [], .val (.bool false) [], .val (.bool false) [], .val (.bool false) [], .val (.agg #[.bool (decide (m < 0)), .slice A2 (natL m.natAbs).length c2, .bool (decide (f < 0)), .slice B2 (natL f.natAbs).length e2]) [], .val (.int .i64 0) [], .val (.bool false) [], .val (.bool false) [], .val (.bool false) [], .val (.agg #[.bool (decide (p < 0)), .slice A3 (natL p.natAbs).length c3, .bool (decide (g < 0)), .slice B3 (natL g.natAbs).length e3]) [], .val (.int .i64 0) [], .val (.bool false) [], .val (.bool false) []] W.heap.size W [] blkInt _ mixedOrders2 (Nat.le_refl _) (Below.refl _ _) (KeptV.refl _ _ _) rfl (by kernel_rfl) (by kernel_rfl) (by kernel_rfl) (by kernel_rfl) (by kernel_rfl) (by kernel_rfl) (by kernel_rfl) (by kernel_rfl) rfl (by simp [oldsF]) ?_ ?_ ?_ ?_
  · simp only [StableF, and_true]
    exact fun u V V' h k => h.kept k
  · simp only [OldsF]
  · simp (maxSteps := 4000000) [StepsF, DepF, freeAct, fill, pairs]
    repeat' (first | apply And.intro | (intro (u : Value)) | (intro (u : Nat)))
    all_goals first
    | (intro V hV hK; clear hV hK; go_simp; exact Below.refl _ _)
    | (intro V hV hK
       have r1 := RX.out.below hV
       have r2 := KX.out.below hV
       have r3 := RY.out.below hV
       have r4 := KY.out.below hV
       have r5 := RZ.out.below hV
       have r6 := KZ.out.below hV
       obtain ⟨-, a_x, b_x, c_x, d_x, -, -, -, -⟩ := (PX.out.below hV).facts
       obtain ⟨-, a_y, b_y, c_y, d_y, -, -, -, -⟩ := (PY.out.below hV).facts
       obtain ⟨-, a_z, b_z, c_z, d_z, -, -, -, -⟩ := (PZ.out.below hV).facts
       clear hV hK
       go_simp
       first
       | exact Below.refl _ _
       | ((with_reducible refine (H1.out V r1 r2).mono ?_); rintro e w' ⟨rfl, hb⟩; exact ⟨rfl, hb⟩)
       | ((with_reducible refine (H2.out V r3 r4).mono ?_); rintro e w' ⟨rfl, hb⟩; exact ⟨rfl, hb⟩)
       | ((with_reducible refine (H3.out V r5 r6).mono ?_); rintro e w' ⟨rfl, hb⟩; exact ⟨rfl, hb⟩)
       | ((with_reducible refine (Ex.out V r1 r2).mono ?_); rintro e w' ⟨rfl, hb⟩; exact ⟨rfl, hb⟩)
       | ((with_reducible refine (Ey.out V r3 r4).mono ?_); rintro e w' ⟨rfl, hb⟩; exact ⟨rfl, hb⟩)
       | ((with_reducible refine (Ez.out V r5 r6).mono ?_); rintro e w' ⟨rfl, hb⟩; exact ⟨rfl, hb⟩)
       | exact ⟨SliceOf.new [s1, s2, s3] _ _ _ rfl, (Below.refl _ _).alloc (Nat.le_refl _) _⟩)
    | (intro V hV hK h1
       clear hV hK
       go_simp
       refine (H4.out _ V h1).mono ?_
       rintro e w' ⟨rfl, hb⟩
       exact ⟨rfl, hb⟩)
  · simp [EndF, FactsF, freeAct, fill, pairs]
    intro u1 V hV hK _ _ _ _
    have PX := Hd (PX.out.below hV)
    have PY := Hd (PY.out.below hV)
    have PZ := Hd (PZ.out.below hV)
    have RX := Hd (RX.out.below hV)
    have KX := Hd (KX.out.below hV)
    have RY := Hd (RY.out.below hV)
    have KY := Hd (KY.out.below hV)
    have RZ := Hd (RZ.out.below hV)
    have KZ := Hd (KZ.out.below hV)
    have HT := Hd (HT.out.below2 hV)
    have HB := Hd (belowTo HB.out hV)
    clear hV hK H1 H2 H3 H4 Ex Ey Ez
    obtain ⟨l_x, x0, x1, x2, x3, -, -, -, -⟩ := PX.out.facts
    obtain ⟨l_y, y0, y1, y2, y3, -, -, -, -⟩ := PY.out.facts
    go_wp2_with fail
    refine (M1.out V RX.out KX.out RY.out KY.out).mono ?_
    rintro e wx1 ⟨rfl, hb⟩
    clear l_x x0 x1 x2 x3
    clear l_y y0 y1 y2 y3
    have HS_wx1 := Hd (show V.heap.size ≤ wx1.heap.size from hb.size)
    have PX := Hd (PX.out.below hb)
    have PY := Hd (PY.out.below hb)
    have PZ := Hd (PZ.out.below hb)
    have RX := Hd (RX.out.below hb)
    have KX := Hd (KX.out.below hb)
    have RY := Hd (RY.out.below hb)
    have KY := Hd (KY.out.below hb)
    have RZ := Hd (RZ.out.below hb)
    have KZ := Hd (KZ.out.below hb)
    have HT := Hd (HT.out.below2 hb)
    have HB := Hd (belowTo HB.out hb)
    obtain ⟨l_x, x0, x1, x2, x3, -, -, -, -⟩ := PX.out.facts
    obtain ⟨l_y, y0, y1, y2, y3, -, -, -, -⟩ := PY.out.facts
    go_wp2_with fail
    refine (HS1.out wx1 RX.out KX.out RY.out KY.out).mono ?_
    rintro e wx2 ⟨v, rfl, hI, hb⟩
    clear l_x x0 x1 x2 x3
    clear l_y y0 y1 y2 y3
    obtain ⟨A8, c8, B8, e8, rfl, i1, i2, -⟩ := hI.form
    have R8 := Hd i1.rawAt
    have K8 := Hd i2.rawAt
    clear hI i1 i2
    have HS_wx2 := Hd (show wx1.heap.size ≤ wx2.heap.size from hb.size)
    have PX := Hd (PX.out.below hb)
    have PY := Hd (PY.out.below hb)
    have PZ := Hd (PZ.out.below hb)
    have RX := Hd (RX.out.below hb)
    have KX := Hd (KX.out.below hb)
    have RY := Hd (RY.out.below hb)
    have KY := Hd (KY.out.below hb)
    have RZ := Hd (RZ.out.below hb)
    have KZ := Hd (KZ.out.below hb)
    have HT := Hd (HT.out.below2 hb)
    have HB := Hd (belowTo HB.out hb)
    have ha := (Below.refl wx2.heap.size wx2).alloc (Nat.le_refl _) (.cells #[.bool (decide (N < 0)), .slice A8 (natL N.natAbs).length c8, .bool (decide (D < 0)), .slice B8 (natL D.natAbs).length e8] 26)
    have hn := Quad.new wx2 (.bool (decide (N < 0))) (.slice A8 (natL N.natAbs).length c8) (.bool (decide (D < 0))) (.slice B8 (natL D.natAbs).length e8)
    have hz : (wx2.alloc (.cells #[.bool (decide (N < 0)), .slice A8 (natL N.natAbs).length c8, .bool (decide (D < 0)), .slice B8 (natL D.natAbs).length e8] 26)).heap.size = wx2.heap.size + 1 := by simp
    go_upto_region 5 with fail
    obtain ⟨wy3, E⟩ : ∃ W, W = wx2.alloc (.cells #[.bool (decide (N < 0)), .slice A8 (natL N.natAbs).length c8, .bool (decide (D < 0)), .slice B8 (natL D.natAbs).length e8] 26) := ⟨_, rfl⟩
    obtain ⟨q3, hq⟩ : ∃ q, q = wx2.heap.size := ⟨_, rfl⟩
    rw [← E] at ha
    rw [← E, ← hq] at hn hz ⊢
    have HZ_wy3 := Hd (And.intro hq hz)
    have P8 := Hd hn
    have PX := Hd (PX.out.below ha)
    have PY := Hd (PY.out.below ha)
    have PZ := Hd (PZ.out.below ha)
    have RX := Hd (RX.out.below ha)
    have KX := Hd (KX.out.below ha)
    have RY := Hd (RY.out.below ha)
    have KY := Hd (KY.out.below ha)
    have RZ := Hd (RZ.out.below ha)
    have KZ := Hd (KZ.out.below ha)
    have HT := Hd (HT.out.below2 ha)
    have R8 := Hd (R8.out.below ha)
    have K8 := Hd (K8.out.below ha)
    have HB := Hd (belowTo HB.out ha)
    clear ha hn hz hq E
    obtain ⟨l_y, y0, y1, y2, y3, -, -, -, -⟩ := PY.out.facts
    obtain ⟨l_x, x0, x1, x2, x3, -, -, -, -⟩ := PX.out.facts
    go_wp2_with fail
    refine (M2.out wy3 RY.out KY.out RX.out KX.out).mono ?_
    rintro e wx4 ⟨rfl, hb⟩
    clear l_y y0 y1 y2 y3
    clear l_x x0 x1 x2 x3
    have HS_wx4 := Hd (show wy3.heap.size ≤ wx4.heap.size from hb.size)
    have PX := Hd (PX.out.below hb)
    have PY := Hd (PY.out.below hb)
    have PZ := Hd (PZ.out.below hb)
    have RX := Hd (RX.out.below hb)
    have KX := Hd (KX.out.below hb)
    have RY := Hd (RY.out.below hb)
    have KY := Hd (KY.out.below hb)
    have RZ := Hd (RZ.out.below hb)
    have KZ := Hd (KZ.out.below hb)
    have HT := Hd (HT.out.below2 hb)
    have R8 := Hd (R8.out.below hb)
    have K8 := Hd (K8.out.below hb)
    have P8 := Hd (P8.out.below hb)
    have HB := Hd (belowTo HB.out hb)
    obtain ⟨l_d, d0, d1, d2, d3, -, -, -, -⟩ := P8.out.facts
    go_wp2_with fail
    refine (HSG.out wx4 A8 B8 c8 e8 R8.out K8.out).mono ?_
    rintro e wx5 ⟨rfl, hb⟩
    clear l_d d0 d1 d2 d3
    have HS_wx5 := Hd (show wx4.heap.size ≤ wx5.heap.size from hb.size)
    have PX := Hd (PX.out.below hb)
    have PY := Hd (PY.out.below hb)
    have PZ := Hd (PZ.out.below hb)
    have RX := Hd (RX.out.below hb)
    have KX := Hd (KX.out.below hb)
    have RY := Hd (RY.out.below hb)
    have KY := Hd (KY.out.below hb)
    have RZ := Hd (RZ.out.below hb)
    have KZ := Hd (KZ.out.below hb)
    have HT := Hd (HT.out.below2 hb)
    have R8 := Hd (R8.out.below hb)
    have K8 := Hd (K8.out.below hb)
    have P8 := Hd (P8.out.below hb)
    have HB := Hd (belowTo HB.out hb)
    obtain ⟨l_x, x0, x1, x2, x3, -, -, -, -⟩ := PX.out.facts
    obtain ⟨l_y, y0, y1, y2, y3, -, -, -, -⟩ := PY.out.facts
    go_wp2_with fail
    refine (HQ.out wx5 RX.out KX.out RY.out KY.out).mono ?_
    rintro e wx6 ⟨rfl, hb⟩
    clear l_x x0 x1 x2 x3
    clear l_y y0 y1 y2 y3
    have HS_wx6 := Hd (show wx5.heap.size ≤ wx6.heap.size from hb.size)
    have PX := Hd (PX.out.below hb)
    have PY := Hd (PY.out.below hb)
    have PZ := Hd (PZ.out.below hb)
    have RX := Hd (RX.out.below hb)
    have KX := Hd (KX.out.below hb)
    have RY := Hd (RY.out.below hb)
    have KY := Hd (KY.out.below hb)
    have RZ := Hd (RZ.out.below hb)
    have KZ := Hd (KZ.out.below hb)
    have HT := Hd (HT.out.below2 hb)
    have R8 := Hd (R8.out.below hb)
    have K8 := Hd (K8.out.below hb)
    have P8 := Hd (P8.out.below hb)
    have HB := Hd (belowTo HB.out hb)
    go_wp2_with fail
    refine (lives_ours wx6 HT.out).mono ?_
    rintro e wx7 ⟨rfl, hb⟩
    have HS_wx7 := Hd (show wx6.heap.size ≤ wx7.heap.size from hb.size)
    have PX := Hd (PX.out.below hb)
    have PY := Hd (PY.out.below hb)
    have PZ := Hd (PZ.out.below hb)
    have RX := Hd (RX.out.below hb)
    have KX := Hd (KX.out.below hb)
    have RY := Hd (RY.out.below hb)
    have KY := Hd (KY.out.below hb)
    have RZ := Hd (RZ.out.below hb)
    have KZ := Hd (KZ.out.below hb)
    have HT := Hd (HT.out.below2 hb)
    have R8 := Hd (R8.out.below hb)
    have K8 := Hd (K8.out.below hb)
    have P8 := Hd (P8.out.below hb)
    have HB := Hd (belowTo HB.out hb)
    go_wp2_with fail
    go_ret
    exact ⟨rfl, HB.out⟩

theorem forder_p_long (n d m f p g : Int) (A B A2 B2 A3 B3 : Option Addr) (c e0 c2 e2 c3 e3 : Nat) (w : World) (hx : Raw w A c (natL n.natAbs)) (kx : Raw w B e0 (natL d.natAbs)) (hy : Raw w A2 c2 (natL m.natAbs)) (ky : Raw w B2 e2 (natL f.natAbs)) (hz : Raw w A3 c3 (natL p.natAbs)) (kz : Raw w B3 e3 (natL g.natAbs)) (htab : powTab w) (hlx : (natL n.natAbs).length ≤ 1152921504606846975) (hly : (natL d.natAbs).length ≤ 1152921504606846975) (hlu : (natL m.natAbs).length ≤ 1152921504606846975) (hlv : (natL f.natAbs).length ≤ 1152921504606846975) (hlp : (natL p.natAbs).length ≤ 1152921504606846975) (hlq : (natL g.natAbs).length ≤ 1152921504606846975) (hb : decide (1048576 < [fcost (natL n.natAbs).length (natL d.natAbs).length, fcost (natL m.natAbs).length (natL f.natAbs).length, fcost (natL p.natAbs).length (natL g.natAbs).length].sum) = false) (f1 : Fine n d) (f2 : Fine m f) (f3 : Fine p g) (hk1 : cmpz (n * f) (m * d) = 1) (hl : ¬ (lz (subN n d m f) ≤ 2048 ∧ lz (subD n d m f) ≤ 2048)) :
    Calls Tryd.prog 3 #[.agg #[.bool (decide (n < 0)), .slice A (natL n.natAbs).length c, .bool (decide (d < 0)), .slice B (natL d.natAbs).length e0], .agg #[.bool (decide (m < 0)), .slice A2 (natL m.natAbs).length c2, .bool (decide (f < 0)), .slice B2 (natL f.natAbs).length e2], .agg #[.bool (decide (p < 0)), .slice A3 (natL p.natAbs).length c3, .bool (decide (g < 0)), .slice B3 (natL g.natAbs).length e3]] w fun e w' => e = .returned (.bool true) ∧ Below w.heap.size w w' := by
  have Dx := fun (V : World) (a1 : Raw V A c (natL n.natAbs)) (a2 : Raw V B e0 (natL d.natAbs)) => frac_Check (decide (n < 0)) (decide (d < 0)) A B c e0 _ _ V a1 a2
  have Dy := fun (V : World) (a1 : Raw V A2 c2 (natL m.natAbs)) (a2 : Raw V B2 e2 (natL f.natAbs)) => frac_Check (decide (m < 0)) (decide (f < 0)) A2 B2 c2 e2 _ _ V a1 a2
  have Dz := fun (V : World) (a1 : Raw V A3 c3 (natL p.natAbs)) (a2 : Raw V B3 e3 (natL g.natAbs)) => frac_Check (decide (p < 0)) (decide (g < 0)) A3 B3 c3 e3 _ _ V a1 a2
  rw [f1.chk] at Dx
  rw [f2.chk] at Dy
  rw [f3.chk] at Dz
  have Ex := Hd Dx
  have Ey := Hd Dy
  have Ez := Hd Dz
  have M1 := Hd (fun (V : World) (a1 : Raw V A c (natL n.natAbs)) (a2 : Raw V B e0 (natL d.natAbs)) (a3 : Raw V A2 c2 (natL m.natAbs)) (a4 : Raw V B2 e2 (natL f.natAbs)) => frac_Cmp_good n d m f (1) A B A2 B2 c e0 c2 e2 V a1 a2 a3 a4 f1 f2 hk1.symm)
  have M2 := Hd (fun (V : World) (a1 : Raw V A2 c2 (natL m.natAbs)) (a2 : Raw V B2 e2 (natL f.natAbs)) (a3 : Raw V A c (natL n.natAbs)) (a4 : Raw V B e0 (natL d.natAbs)) => frac_Cmp_good m f n d (-1) A2 B2 A B c2 e2 c e0 V a1 a2 a3 a4 f2 f1 (by have := cmpz_turn (n * f) (m * d); rw [hk1] at this; omega))
  have S1 := fun (V : World) (a1 : Raw V A c (natL n.natAbs)) (a2 : Raw V B e0 (natL d.natAbs)) (a3 : Raw V A2 c2 (natL m.natAbs)) (a4 : Raw V B2 e2 (natL f.natAbs)) => frac_Sub_good n d m f A B A2 B2 c e0 c2 e2 V a1 a2 a3 a4 f1 f2
  have Q1 := fun (V : World) (a1 : Raw V A c (natL n.natAbs)) (a2 : Raw V B e0 (natL d.natAbs)) (a3 : Raw V A2 c2 (natL m.natAbs)) (a4 : Raw V B2 e2 (natL f.natAbs)) => sameFrac_any n d m f A B A2 B2 c e0 c2 e2 V a1 a2 a3 a4
  have hsame : decide (n = m ∧ d = f) = false := decide_eq_false (fun h => by have := (cmpz_nought _ _).2 ((frac_one_iff f1 f2).2 h); rw [hk1] at this; exact absurd this (by decide))
  rw [hsame] at Q1
  have HQ := Hd Q1
  have hss := sub_sign (n := n) (m := m) f1.pos f2.pos
  rw [hk1] at hss
  unfold ansN ansD ansK at S1
  simp only [if_neg hl] at S1
  obtain ⟨N, hN⟩ : ∃ k : Int, k = 0 := ⟨_, rfl⟩
  obtain ⟨D, hD⟩ : ∃ k : Int, k = 0 := ⟨_, rfl⟩
  have S1 : ∀ (V : World) (a1 : Raw V A c (natL n.natAbs)) (a2 : Raw V B e0 (natL d.natAbs)) (a3 : Raw V A2 c2 (natL m.natAbs)) (a4 : Raw V B2 e2 (natL f.natAbs)), Calls Tryd.prog 10 #[.agg #[.bool (decide (n < 0)), .slice A (natL n.natAbs).length c, .bool (decide (d < 0)), .slice B (natL d.natAbs).length e0], .agg #[.bool (decide (m < 0)), .slice A2 (natL m.natAbs).length c2, .bool (decide (f < 0)), .slice B2 (natL f.natAbs).length e2]] V (RetFracOwn2 V.heap.size V N D 4) := by rw [hN, hD]; exact S1
  have HS1 := Hd S1
  clear Dx Dy Dz S1 Q1 hsame hss f1 f2 f3 hk1 hl hN hD
  have C1 := fun (V : World) (a1 : Raw V A c (natL n.natAbs)) (a2 : Raw V B e0 (natL d.natAbs)) => frac_cost (decide (n < 0)) (decide (d < 0)) A B c e0 _ _ hlx hly V a1 a2
  have C2 := fun (V : World) (a1 : Raw V A2 c2 (natL m.natAbs)) (a2 : Raw V B2 e2 (natL f.natAbs)) => frac_cost (decide (m < 0)) (decide (f < 0)) A2 B2 c2 e2 _ _ hlu hlv V a1 a2
  have C3 := fun (V : World) (a1 : Raw V A3 c3 (natL p.natAbs)) (a2 : Raw V B3 e3 (natL g.natAbs)) => frac_cost (decide (p < 0)) (decide (g < 0)) A3 B3 c3 e3 _ _ hlp hlq V a1 a2
  have h1 := fcost_le hlx hly
  have h2 := fcost_le hlu hlv
  have h3 := fcost_le hlp hlq
  obtain ⟨s1, q1⟩ : ∃ k : Nat, k = fcost (natL n.natAbs).length (natL d.natAbs).length := ⟨_, rfl⟩
  obtain ⟨s2, q2⟩ : ∃ k : Nat, k = fcost (natL m.natAbs).length (natL f.natAbs).length := ⟨_, rfl⟩
  obtain ⟨s3, q3⟩ : ∃ k : Nat, k = fcost (natL p.natAbs).length (natL g.natAbs).length := ⟨_, rfl⟩
  rw [← q1] at C1 h1
  rw [← q2] at C2 h2
  rw [← q3] at C3 h3
  rw [← q1, ← q2, ← q3] at hb
  have H4 := Hd (fun (u : Value) (V : World) (h : SliceOf [s1, s2, s3] u V) => beyond_of2 [s1, s2, s3] false (by simp) (by simp; omega) hb.symm u V h)
  have H1 := Hd C1
  have H2 := Hd C2
  have H3 := Hd C3
  clear C1 C2 C3 h1 h2 h3 q1 q2 q3 hb hlx hly hlu hlv hlp hlq
  have b0 := (((Below.refl w.heap.size w).alloc (Nat.le_refl _) (.cells #[.bool (decide (n < 0)), .slice A (natL n.natAbs).length c, .bool (decide (d < 0)), .slice B (natL d.natAbs).length e0] 26)).alloc (by simp) (.cells #[.bool (decide (m < 0)), .slice A2 (natL m.natAbs).length c2, .bool (decide (f < 0)), .slice B2 (natL f.natAbs).length e2] 26)).alloc (by simp; omega) (.cells #[.bool (decide (p < 0)), .slice A3 (natL p.natAbs).length c3, .bool (decide (g < 0)), .slice B3 (natL g.natAbs).length e3] 26)
  have p0 := ((Quad.new w (.bool (decide (n < 0))) (.slice A (natL n.natAbs).length c) (.bool (decide (d < 0))) (.slice B (natL d.natAbs).length e0)).alloc (.cells #[.bool (decide (m < 0)), .slice A2 (natL m.natAbs).length c2, .bool (decide (f < 0)), .slice B2 (natL f.natAbs).length e2] 26)).alloc (.cells #[.bool (decide (p < 0)), .slice A3 (natL p.natAbs).length c3, .bool (decide (g < 0)), .slice B3 (natL g.natAbs).length e3] 26)
  have p1 := (Quad.new (w.alloc (.cells #[.bool (decide (n < 0)), .slice A (natL n.natAbs).length c, .bool (decide (d < 0)), .slice B (natL d.natAbs).length e0] 26)) (.bool (decide (m < 0))) (.slice A2 (natL m.natAbs).length c2) (.bool (decide (f < 0))) (.slice B2 (natL f.natAbs).length e2)).alloc (.cells #[.bool (decide (p < 0)), .slice A3 (natL p.natAbs).length c3, .bool (decide (g < 0)), .slice B3 (natL g.natAbs).length e3] 26)
  have p2 := Quad.new ((w.alloc (.cells #[.bool (decide (n < 0)), .slice A (natL n.natAbs).length c, .bool (decide (d < 0)), .slice B (natL d.natAbs).length e0] 26)).alloc (.cells #[.bool (decide (m < 0)), .slice A2 (natL m.natAbs).length c2, .bool (decide (f < 0)), .slice B2 (natL f.natAbs).length e2] 26)) (.bool (decide (p < 0))) (.slice A3 (natL p.natAbs).length c3) (.bool (decide (g < 0))) (.slice B3 (natL g.natAbs).length e3)
  simp only [World.size_alloc] at p1 p2
  have PX := Hd p0
  have PY := Hd p1
  have PZ := Hd p2
  have RX := Hd (hx.below b0)
  have KX := Hd (kx.below b0)
  have RY := Hd (hy.below b0)
  have KY := Hd (ky.below b0)
  have RZ := Hd (hz.below b0)
  have KZ := Hd (kz.below b0)
  have HT := Hd (htab.below2 b0)
  have HB := Hd b0
  clear b0 p0 p1 p2 hx kx hy ky hz kz htab
  go_enter Tryd.func3, Tryd.ntmps3
  go_wp2_with fail
  obtain ⟨W, E⟩ : ∃ W, W = ((w.alloc (.cells #[.bool (decide (n < 0)), .slice A (natL n.natAbs).length c, .bool (decide (d < 0)), .slice B (natL d.natAbs).length e0] 26)).alloc (.cells #[.bool (decide (m < 0)), .slice A2 (natL m.natAbs).length c2, .bool (decide (f < 0)), .slice B2 (natL f.natAbs).length e2] 26)).alloc (.cells #[.bool (decide (p < 0)), .slice A3 (natL p.natAbs).length c3, .bool (decide (g < 0)), .slice B3 (natL g.natAbs).length e3] 26) := ⟨_, rfl⟩
  rw [← E] at PX PY PZ RX KX RY KY RZ KZ HT HB ⊢
  clear E
  refine wp_region_free [.val (.agg #[.bool (decide (n < 0)), .slice A (natL n.natAbs).length c, .bool (decide (d < 0)), .slice B (natL d.natAbs).length e0]) [], .val (.int .i64 s1) [], .val (.agg #[.bool (decide (m < 0)), .slice A2 (natL m.natAbs).length c2, .bool (decide (f < 0)), .slice B2 (natL f.natAbs).length e2]) [], .val (.int .i64 s2) [], .val (.agg #[.bool (decide (p < 0)), .slice A3 (natL p.natAbs).length c3, .bool (decide (g < 0)), .slice B3 (natL g.natAbs).length e3]) [], .val (.int .i64 s3) [], .any false (SliceOf [s1, s2, s3]) [], .val (.bool false) [6], .val (.bool false) [], .val (.agg #[.bool (decide (n < 0)), .slice A (natL n.natAbs).length c, .bool (decide (d < 0)), .slice B (natL d.natAbs).length e0]) [], .val (.int .i64 0) [], .val (.bool false) [], .val (.bool false) [], .val (.bool false) [], .val (.agg #[.bool (decide (m < 0)), .slice A2 (natL m.natAbs).length c2, .bool (decide (f < 0)), .slice B2 (natL f.natAbs).length e2]) [], .val (.int .i64 0) [], .val (.bool false) [], .val (.bool false) [], .val (.bool false) [], .val (.agg #[.bool (decide (p < 0)), .slice A3 (natL p.natAbs).length c3, .bool (decide (g < 0)), .slice B3 (natL g.natAbs).length e3]) [], .val (.int .i64 0) [], .val (.bool false) [], .val (.bool false) []] W.heap.size W [] blkInt _ mixedOrders2 (Nat.le_refl _) (Below.refl _ _) (KeptV.refl _ _ _) rfl (by kernel_rfl) (by kernel_rfl) (by kernel_rfl) (by kernel_rfl) (by kernel_rfl) (by kernel_rfl) (by kernel_rfl) (by kernel_rfl) rfl (by simp [oldsF]) ?_ ?_ ?_ ?_
  · simp only [StableF, and_true]
    exact fun u V V' h k => h.kept k
  · simp only [OldsF]
  · simp (maxSteps := 4000000) [StepsF, DepF, freeAct, fill, pairs]
    repeat' (first | apply And.intro | (intro (u : Value)) | (intro (u : Nat)))
    all_goals first
    | (intro V hV hK; clear hV hK; go_simp; exact Below.refl _ _)
    | (intro V hV hK
       have r1 := RX.out.below hV
       have r2 := KX.out.below hV
       have r3 := RY.out.below hV
       have r4 := KY.out.below hV
       have r5 := RZ.out.below hV
       have r6 := KZ.out.below hV
       obtain ⟨-, a_x, b_x, c_x, d_x, -, -, -, -⟩ := (PX.out.below hV).facts
       obtain ⟨-, a_y, b_y, c_y, d_y, -, -, -, -⟩ := (PY.out.below hV).facts
       obtain ⟨-, a_z, b_z, c_z, d_z, -, -, -, -⟩ := (PZ.out.below hV).facts
       clear hV hK
       go_simp
       first
       | exact Below.refl _ _
       | ((with_reducible refine (H1.out V r1 r2).mono ?_); rintro e w' ⟨rfl, hb⟩; exact ⟨rfl, hb⟩)
       | ((with_reducible refine (H2.out V r3 r4).mono ?_); rintro e w' ⟨rfl, hb⟩; exact ⟨rfl, hb⟩)
       | ((with_reducible refine (H3.out V r5 r6).mono ?_); rintro e w' ⟨rfl, hb⟩; exact ⟨rfl, hb⟩)
       | ((with_reducible refine (Ex.out V r1 r2).mono ?_); rintro e w' ⟨rfl, hb⟩; exact ⟨rfl, hb⟩)
       | ((with_reducible refine (Ey.out V r3 r4).mono ?_); rintro e w' ⟨rfl, hb⟩; exact ⟨rfl, hb⟩)
       | ((with_reducible refine (Ez.out V r5 r6).mono ?_); rintro e w' ⟨rfl, hb⟩; exact ⟨rfl, hb⟩)
       | exact ⟨SliceOf.new [s1, s2, s3] _ _ _ rfl, (Below.refl _ _).alloc (Nat.le_refl _) _⟩)
    | (intro V hV hK h1
       clear hV hK
       go_simp
       refine (H4.out _ V h1).mono ?_
       rintro e w' ⟨rfl, hb⟩
       exact ⟨rfl, hb⟩)
  · simp [EndF, FactsF, freeAct, fill, pairs]
    intro u1 V hV hK _ _ _ _
    have PX := Hd (PX.out.below hV)
    have PY := Hd (PY.out.below hV)
    have PZ := Hd (PZ.out.below hV)
    have RX := Hd (RX.out.below hV)
    have KX := Hd (KX.out.below hV)
    have RY := Hd (RY.out.below hV)
    have KY := Hd (KY.out.below hV)
    have RZ := Hd (RZ.out.below hV)
    have KZ := Hd (KZ.out.below hV)
    have HT := Hd (HT.out.below2 hV)
    have HB := Hd (belowTo HB.out hV)
    clear hV hK H1 H2 H3 H4 Ex Ey Ez
    obtain ⟨l_x, x0, x1, x2, x3, -, -, -, -⟩ := PX.out.facts
    obtain ⟨l_y, y0, y1, y2, y3, -, -, -, -⟩ := PY.out.facts
    go_wp2_with fail
    refine (M1.out V RX.out KX.out RY.out KY.out).mono ?_
    rintro e wx1 ⟨rfl, hb⟩
    clear l_x x0 x1 x2 x3
    clear l_y y0 y1 y2 y3
    have HS_wx1 := Hd (show V.heap.size ≤ wx1.heap.size from hb.size)
    have PX := Hd (PX.out.below hb)
    have PY := Hd (PY.out.below hb)
    have PZ := Hd (PZ.out.below hb)
    have RX := Hd (RX.out.below hb)
    have KX := Hd (KX.out.below hb)
    have RY := Hd (RY.out.below hb)
    have KY := Hd (KY.out.below hb)
    have RZ := Hd (RZ.out.below hb)
    have KZ := Hd (KZ.out.below hb)
    have HT := Hd (HT.out.below2 hb)
    have HB := Hd (belowTo HB.out hb)
    obtain ⟨l_x, x0, x1, x2, x3, -, -, -, -⟩ := PX.out.facts
    obtain ⟨l_y, y0, y1, y2, y3, -, -, -, -⟩ := PY.out.facts
    go_wp2_with fail
    refine (HS1.out wx1 RX.out KX.out RY.out KY.out).mono ?_
    rintro e wx2 ⟨v, rfl, hI, hb⟩
    clear l_x x0 x1 x2 x3
    clear l_y y0 y1 y2 y3
    obtain ⟨A8, c8, B8, e8, rfl, i1, i2, -⟩ := hI.form
    have R8 := Hd i1.rawAt
    have K8 := Hd i2.rawAt
    clear hI i1 i2
    have HS_wx2 := Hd (show wx1.heap.size ≤ wx2.heap.size from hb.size)
    have PX := Hd (PX.out.below hb)
    have PY := Hd (PY.out.below hb)
    have PZ := Hd (PZ.out.below hb)
    have RX := Hd (RX.out.below hb)
    have KX := Hd (KX.out.below hb)
    have RY := Hd (RY.out.below hb)
    have KY := Hd (KY.out.below hb)
    have RZ := Hd (RZ.out.below hb)
    have KZ := Hd (KZ.out.below hb)
    have HT := Hd (HT.out.below2 hb)
    have HB := Hd (belowTo HB.out hb)
    clear R8 K8
    have ha := (Below.refl wx2.heap.size wx2).alloc (Nat.le_refl _) (.cells #[.bool (decide (N < 0)), .slice A8 (natL N.natAbs).length c8, .bool (decide (D < 0)), .slice B8 (natL D.natAbs).length e8] 26)
    have hn := Quad.new wx2 (.bool (decide (N < 0))) (.slice A8 (natL N.natAbs).length c8) (.bool (decide (D < 0))) (.slice B8 (natL D.natAbs).length e8)
    have hz : (wx2.alloc (.cells #[.bool (decide (N < 0)), .slice A8 (natL N.natAbs).length c8, .bool (decide (D < 0)), .slice B8 (natL D.natAbs).length e8] 26)).heap.size = wx2.heap.size + 1 := by simp
    go_upto_region 5 with fail
    obtain ⟨wy3, E⟩ : ∃ W, W = wx2.alloc (.cells #[.bool (decide (N < 0)), .slice A8 (natL N.natAbs).length c8, .bool (decide (D < 0)), .slice B8 (natL D.natAbs).length e8] 26) := ⟨_, rfl⟩
    obtain ⟨q3, hq⟩ : ∃ q, q = wx2.heap.size := ⟨_, rfl⟩
    rw [← E] at ha
    rw [← E, ← hq] at hn hz ⊢
    have HZ_wy3 := Hd (And.intro hq hz)
    have P8 := Hd hn
    have PX := Hd (PX.out.below ha)
    have PY := Hd (PY.out.below ha)
    have PZ := Hd (PZ.out.below ha)
    have RX := Hd (RX.out.below ha)
    have KX := Hd (KX.out.below ha)
    have RY := Hd (RY.out.below ha)
    have KY := Hd (KY.out.below ha)
    have RZ := Hd (RZ.out.below ha)
    have KZ := Hd (KZ.out.below ha)
    have HT := Hd (HT.out.below2 ha)
    have HB := Hd (belowTo HB.out ha)
    clear ha hn hz hq E
    obtain ⟨l_y, y0, y1, y2, y3, -, -, -, -⟩ := PY.out.facts
    obtain ⟨l_x, x0, x1, x2, x3, -, -, -, -⟩ := PX.out.facts
    go_wp2_with fail
    refine (M2.out wy3 RY.out KY.out RX.out KX.out).mono ?_
    rintro e wx4 ⟨rfl, hb⟩
    clear l_y y0 y1 y2 y3
    clear l_x x0 x1 x2 x3
    have HS_wx4 := Hd (show wy3.heap.size ≤ wx4.heap.size from hb.size)
    have PX := Hd (PX.out.below hb)
    have PY := Hd (PY.out.below hb)
    have PZ := Hd (PZ.out.below hb)
    have RX := Hd (RX.out.below hb)
    have KX := Hd (KX.out.below hb)
    have RY := Hd (RY.out.below hb)
    have KY := Hd (KY.out.below hb)
    have RZ := Hd (RZ.out.below hb)
    have KZ := Hd (KZ.out.below hb)
    have HT := Hd (HT.out.below2 hb)
    have P8 := Hd (P8.out.below hb)
    have HB := Hd (belowTo HB.out hb)
    obtain ⟨l_x, x0, x1, x2, x3, -, -, -, -⟩ := PX.out.facts
    obtain ⟨l_y, y0, y1, y2, y3, -, -, -, -⟩ := PY.out.facts
    go_wp2_with fail
    refine (HQ.out wx4 RX.out KX.out RY.out KY.out).mono ?_
    rintro e wx5 ⟨rfl, hb⟩
    clear l_x x0 x1 x2 x3
    clear l_y y0 y1 y2 y3
    have HS_wx5 := Hd (show wx4.heap.size ≤ wx5.heap.size from hb.size)
    have PX := Hd (PX.out.below hb)
    have PY := Hd (PY.out.below hb)
    have PZ := Hd (PZ.out.below hb)
    have RX := Hd (RX.out.below hb)
    have KX := Hd (KX.out.below hb)
    have RY := Hd (RY.out.below hb)
    have KY := Hd (KY.out.below hb)
    have RZ := Hd (RZ.out.below hb)
    have KZ := Hd (KZ.out.below hb)
    have HT := Hd (HT.out.below2 hb)
    have P8 := Hd (P8.out.below hb)
    have HB := Hd (belowTo HB.out hb)
    go_wp2_with fail
    refine (lives_ours wx5 HT.out).mono ?_
    rintro e wx6 ⟨rfl, hb⟩
    have HS_wx6 := Hd (show wx5.heap.size ≤ wx6.heap.size from hb.size)
    have PX := Hd (PX.out.below hb)
    have PY := Hd (PY.out.below hb)
    have PZ := Hd (PZ.out.below hb)
    have RX := Hd (RX.out.below hb)
    have KX := Hd (KX.out.below hb)
    have RY := Hd (RY.out.below hb)
    have KY := Hd (KY.out.below hb)
    have RZ := Hd (RZ.out.below hb)
    have KZ := Hd (KZ.out.below hb)
    have HT := Hd (HT.out.below2 hb)
    have P8 := Hd (P8.out.below hb)
    have HB := Hd (belowTo HB.out hb)
    go_wp2_with fail
    go_ret
    exact ⟨rfl, HB.out⟩

theorem forder_true (n1 n2 n3 n4 n5 n6 : Bool) (A B A2 B2 A3 B3 : Option Addr) (c e0 c2 e2 c3 e3 : Nat) (xs ys us vs ps qs : List Nat) (w : World) (hx : Raw w A c xs) (kx : Raw w B e0 ys) (hy : Raw w A2 c2 us) (ky : Raw w B2 e2 vs) (hz : Raw w A3 c3 ps) (kz : Raw w B3 e3 qs) (htab : powTab w) (hlx : xs.length ≤ 1152921504606846975) (hly : ys.length ≤ 1152921504606846975) (hlu : us.length ≤ 1152921504606846975) (hlv : vs.length ≤ 1152921504606846975) (hlp : ps.length ≤ 1152921504606846975) (hlq : qs.length ≤ 1152921504606846975) :
    Calls Tryd.prog 3 #[.agg #[.bool n1, .slice A xs.length c, .bool n2, .slice B ys.length e0], .agg #[.bool n3, .slice A2 us.length c2, .bool n4, .slice B2 vs.length e2], .agg #[.bool n5, .slice A3 ps.length c3, .bool n6, .slice B3 qs.length e3]] w fun e w' => e = .returned (.bool true) ∧ Below w.heap.size w w' := by
  have lx := hx.limbs
  have lkx := kx.limbs
  have ly := hy.limbs
  have lky := ky.limbs
  have lz' := hz.limbs
  have lkz := kz.limbs
  rcases Bool.eq_false_or_eq_true (decide (1048576 < [fcost xs.length ys.length, fcost us.length vs.length, fcost ps.length qs.length].sum)) with hb | hb
  · exact forder_bad_b n1 n2 n3 n4 n5 n6 A B A2 B2 A3 B3 c e0 c2 e2 c3 e3 xs ys us vs ps qs w hx kx hy ky hz kz htab hlx hly hlu hlv hlp hlq hb
  · rcases chkE_two n1 n2 xs ys with k1 | k1
    · rcases chkE_two n3 n4 us vs with k2 | k2
      · rcases chkE_two n5 n6 ps qs with k3 | k3
        · obtain ⟨n, d, f1, rfl, rfl, rfl, rfl⟩ := fine_of lx lkx k1
          obtain ⟨m, f, f2, rfl, rfl, rfl, rfl⟩ := fine_of ly lky k2
          obtain ⟨p, g, f3, rfl, rfl, rfl, rfl⟩ := fine_of lz' lkz k3
          by_cases hl : lz (subN n d m f) ≤ 2048 ∧ lz (subD n d m f) ≤ 2048 <;> rcases cmpz_three (n * f) (m * d) with h1 | h1 | h1
          · by_cases h3 : 0 < cmpz (m * g) (p * f)
            · exact forder_m_fits_more n d m f p g A B A2 B2 A3 B3 c e0 c2 e2 c3 e3 w hx kx hy ky hz kz htab hlx hly hlu hlv hlp hlq hb f1 f2 f3 h1 hl h3
            · exact forder_m_fits_less n d m f p g A B A2 B2 A3 B3 c e0 c2 e2 c3 e3 w hx kx hy ky hz kz htab hlx hly hlu hlv hlp hlq hb f1 f2 f3 h1 hl (by omega)
          · by_cases h3 : 0 < cmpz (m * g) (p * f)
            · exact forder_n_fits_more n d m f p g A B A2 B2 A3 B3 c e0 c2 e2 c3 e3 w hx kx hy ky hz kz htab hlx hly hlu hlv hlp hlq hb f1 f2 f3 h1 hl h3
            · exact forder_n_fits_less n d m f p g A B A2 B2 A3 B3 c e0 c2 e2 c3 e3 w hx kx hy ky hz kz htab hlx hly hlu hlv hlp hlq hb f1 f2 f3 h1 hl (by omega)
          · exact forder_p_fits n d m f p g A B A2 B2 A3 B3 c e0 c2 e2 c3 e3 w hx kx hy ky hz kz htab hlx hly hlu hlv hlp hlq hb f1 f2 f3 h1 hl
          · by_cases h3 : 0 < cmpz (m * g) (p * f)
            · exact forder_m_long_more n d m f p g A B A2 B2 A3 B3 c e0 c2 e2 c3 e3 w hx kx hy ky hz kz htab hlx hly hlu hlv hlp hlq hb f1 f2 f3 h1 hl h3
            · exact forder_m_long_less n d m f p g A B A2 B2 A3 B3 c e0 c2 e2 c3 e3 w hx kx hy ky hz kz htab hlx hly hlu hlv hlp hlq hb f1 f2 f3 h1 hl (by omega)
          · by_cases h3 : 0 < cmpz (m * g) (p * f)
            · exact forder_n_long_more n d m f p g A B A2 B2 A3 B3 c e0 c2 e2 c3 e3 w hx kx hy ky hz kz htab hlx hly hlu hlv hlp hlq hb f1 f2 f3 h1 hl h3
            · exact forder_n_long_less n d m f p g A B A2 B2 A3 B3 c e0 c2 e2 c3 e3 w hx kx hy ky hz kz htab hlx hly hlu hlv hlp hlq hb f1 f2 f3 h1 hl (by omega)
          · exact forder_p_long n d m f p g A B A2 B2 A3 B3 c e0 c2 e2 c3 e3 w hx kx hy ky hz kz htab hlx hly hlu hlv hlp hlq hb f1 f2 f3 h1 hl
        · exact forder_bad_z n1 n2 n3 n4 n5 n6 A B A2 B2 A3 B3 c e0 c2 e2 c3 e3 xs ys us vs ps qs w hx kx hy ky hz kz htab hlx hly hlu hlv hlp hlq hb k1 k2 k3
      · exact forder_bad_y n1 n2 n3 n4 n5 n6 A B A2 B2 A3 B3 c e0 c2 e2 c3 e3 xs ys us vs ps qs w hx kx hy ky hz kz htab hlx hly hlu hlv hlp hlq hb k1 k2
    · exact forder_bad_x n1 n2 n3 n4 n5 n6 A B A2 B2 A3 B3 c e0 c2 e2 c3 e3 xs ys us vs ps qs w hx kx hy ky hz kz htab hlx hly hlu hlv hlp hlq hb k1
end Go.Proofs.YtadmoheohmbieaaDoor
