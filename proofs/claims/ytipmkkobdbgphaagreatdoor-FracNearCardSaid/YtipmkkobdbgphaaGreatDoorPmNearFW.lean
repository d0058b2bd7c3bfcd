/- Several texts in one: NearFW. -/
import Derived.Test.YtipmkkobdbgphaaGreatDoorPm40
import Derived.Test.YtipmkkobdbgphaaGreatDoorPmHd
import Derived.Test.YtipmkkobdbgphaaGreatDoorPm27
import Derived.Test.YtipmkkobdbgphaaGreatDoorPm39
set_option maxRecDepth 100000
set_option maxHeartbeats 8000000
/- FracNear: the walk. (Written by wip/frac/gennear.py.) -/
namespace Go.Proofs.YtipmkkobdbgphaaGreatDoor
open Go.RowKit

theorem chk_or (n1 n2 : Bool) (xs ys : List Nat) : chkE n1 n2 xs ys = 0 ∨ chkE n1 n2 xs ys = 1 := by
  unfold chkE
  split <;> (try split) <;> simp
theorem allocFrac {o : Oper} (h : o.op = .alloc 27) : AllocF Tryz.prog o 27 4 := by
  refine ⟨#[.bool false, .slice none 0 0, .bool false, .slice none 0 0], rfl, fun ρ w => ?_⟩
  unfold execOp
  rw [h]
  kernel_rfl
structure TupB (N D : Int) (ok : Bool) (u : Value) (V : World) : Prop where
  form : ∃ v, u = .tuple #[v, .bool ok] ∧ FracIn V 0 v N D
theorem TupB.kept {N D : Int} {ok : Bool} {u : Value} {V V' : World} {B : Nat} {Ts : List TypeId} (h : TupB N D ok u V) (k : KeptV B Ts V V') (hT : 104 ∉ Ts) : TupB N D ok u V' := by
  obtain ⟨v, h1, h2⟩ := h.form
  exact ⟨v, h1, h2.kept k hT⟩
theorem inf_up (w : World) : Calls Tryz.prog 24 #[.int .i64 1] w fun e w' => e = .returned (.float .f64 9218868437227405312) ∧ Below w.heap.size w w' := by
  have h2 : ∀ w : World, (callFunc 105 #[.int .u64 9218868437227405312]).run Tryz.prog w = .ok (.value (.float .f64 9218868437227405312)) w := fun w => ffrom 9218868437227405312 w
  go_enter Tryz.func24, Tryz.ntmps24
  go_wp2_with fail
  go_ret
  exact ⟨rfl, Below.refl _ _⟩
theorem inf_down (w : World) : Calls Tryz.prog 24 #[.int .i64 (-1)] w fun e w' => e = .returned (.float .f64 18442240474082181120) ∧ Below w.heap.size w w' := by
  have h2 : ∀ w : World, (callFunc 105 #[.int .u64 18442240474082181120]).run Tryz.prog w = .ok (.value (.float .f64 18442240474082181120)) w := fun w => ffrom 18442240474082181120 w
  go_enter Tryz.func24, Tryz.ntmps24
  go_wp2_with fail
  go_ret
  exact ⟨rfl, Below.refl _ _⟩

theorem fnear_bad_b (n1 n2 : Bool) (A B : Option Addr) (c e0 : Nat) (xs ys : List Nat) (w : World) (hx : Raw w A c xs) (kx : Raw w B e0 ys) (htab : powTab w) (htz : tzTab w) (hlx : xs.length ≤ 1152921504606846975) (hly : ys.length ≤ 1152921504606846975) (hb : decide (1048576 < [fcost xs.length ys.length].sum) = true) :
    Calls Tryz.prog 4 #[.agg #[.bool n1, .slice A xs.length c, .bool n2, .slice B ys.length e0]] w fun e w' => e = .returned (.bool true) ∧ Below w.heap.size w w' := by
  have C1 := fun (V : World) (a1 : Raw V A c xs) (a2 : Raw V B e0 ys) => frac_cost n1 n2 A B c e0 _ _ hlx hly V a1 a2
  have h1 := fcost_le hlx hly
  obtain ⟨s1, q1⟩ : ∃ k : Nat, k = fcost xs.length ys.length := ⟨_, rfl⟩
  rw [← q1] at C1 h1
  rw [← q1] at hb
  have H4 := Hd (fun (u : Value) (V : World) (h : SliceOf [s1] u V) => beyond_of2 [s1] true (by simp) (by simp; omega) hb.symm u V h)
  have H1 := Hd C1
  clear C1 h1 q1 hb hlx hly
  have b0 := (Below.refl w.heap.size w).alloc (Nat.le_refl _) (.cells #[.bool n1, .slice A xs.length c, .bool n2, .slice B ys.length e0] 27)
  have p0 := Quad.new w (.bool n1) (.slice A xs.length c) (.bool n2) (.slice B ys.length e0)
  have PX := Hd p0
  have RX := Hd (hx.below b0)
  have KX := Hd (kx.below b0)
  have HT := Hd (htab.below2 b0)
  have HZ := Hd (htz.below b0)
  have HB := Hd b0
  clear b0 p0 hx kx htab htz
  go_enter Tryz.func4, Tryz.ntmps4
  go_wp2_with fail
  obtain ⟨W, E⟩ : ∃ W, W = w.alloc (.cells #[.bool n1, .slice A xs.length c, .bool n2, .slice B ys.length e0] 27) := ⟨_, rfl⟩
  rw [← E] at PX RX KX HT HZ HB ⊢
  clear E
  obtain ⟨l_x, x0, x1, x2, x3, -, -, -, -⟩ := PX.out.facts
  go_wp2_with fail
  refine (H1.out W RX.out KX.out).mono ?_
  rintro e wx1 ⟨rfl, hb⟩
  clear l_x x0 x1 x2 x3
  have HS_wx1 := Hd (show W.heap.size ≤ wx1.heap.size from hb.size)
  have PX := Hd (PX.out.below hb)
  have RX := Hd (RX.out.below hb)
  have KX := Hd (KX.out.below hb)
  have HT := Hd (HT.out.below2 hb)
  have HZ := Hd (HZ.out.below hb)
  have HB := Hd (belowTo HB.out hb)
  go_wp2_with fail
  refine (H4.out _ _ (SliceOf.new [s1] _ _ _ rfl)).mono ?_
  rintro e wx2 ⟨rfl, hb⟩
  have hb := ((Below.refl wx1.heap.size wx1).alloc (Nat.le_refl _) _).trans (hb.mono (by simp))
  have PX := Hd (PX.out.below hb)
  have RX := Hd (RX.out.below hb)
  have KX := Hd (KX.out.below hb)
  have HT := Hd (HT.out.below2 hb)
  have HZ := Hd (HZ.out.below hb)
  have HB := Hd (belowTo HB.out hb)
  clear hb H1 H4 HS_wx1
  obtain ⟨V, EV⟩ : ∃ V, V = wx2 := ⟨_, rfl⟩
  rw [← EV] at PX RX KX HT HZ HB ⊢
  clear EV
  go_wp2_with fail
  refine (lives_ours V HT.out).mono ?_
  rintro e w9 ⟨rfl, hb⟩
  have HF := Hd (belowTo HB.out hb)
  clear hb
  go_wp2_with fail
  go_ret
  exact ⟨rfl, HF.out⟩

theorem fnear_bad_x (n1 n2 : Bool) (A B : Option Addr) (c e0 : Nat) (xs ys : List Nat) (w : World) (hx : Raw w A c xs) (kx : Raw w B e0 ys) (htab : powTab w) (htz : tzTab w) (hlx : xs.length ≤ 1152921504606846975) (hly : ys.length ≤ 1152921504606846975) (hb : decide (1048576 < [fcost xs.length ys.length].sum) = false) (k1 : chkE n1 n2 xs ys = 1) :
    Calls Tryz.prog 4 #[.agg #[.bool n1, .slice A xs.length c, .bool n2, .slice B ys.length e0]] w fun e w' => e = .returned (.bool true) ∧ Below w.heap.size w w' := by
  have Dx := fun (V : World) (a1 : Raw V A c xs) (a2 : Raw V B e0 ys) => frac_Check n1 n2 A B c e0 xs ys V a1 a2
  rw [k1] at Dx
  have Ex := Hd Dx
  clear Dx k1
  have C1 := fun (V : World) (a1 : Raw V A c xs) (a2 : Raw V B e0 ys) => frac_cost n1 n2 A B c e0 _ _ hlx hly V a1 a2
  have h1 := fcost_le hlx hly
  obtain ⟨s1, q1⟩ : ∃ k : Nat, k = fcost xs.length ys.length := ⟨_, rfl⟩
  rw [← q1] at C1 h1
  rw [← q1] at hb
  have H4 := Hd (fun (u : Value) (V : World) (h : SliceOf [s1] u V) => beyond_of2 [s1] false (by simp) (by simp; omega) hb.symm u V h)
  have H1 := Hd C1
  clear C1 h1 q1 hb hlx hly
  have b0 := (Below.refl w.heap.size w).alloc (Nat.le_refl _) (.cells #[.bool n1, .slice A xs.length c, .bool n2, .slice B ys.length e0] 27)
  have p0 := Quad.new w (.bool n1) (.slice A xs.length c) (.bool n2) (.slice B ys.length e0)
  have PX := Hd p0
  have RX := Hd (hx.below b0)
  have KX := Hd (kx.below b0)
  have HT := Hd (htab.below2 b0)
  have HZ := Hd (htz.below b0)
  have HB := Hd b0
  clear b0 p0 hx kx htab htz
  go_enter Tryz.func4, Tryz.ntmps4
  go_wp2_with fail
  obtain ⟨W, E⟩ : ∃ W, W = w.alloc (.cells #[.bool n1, .slice A xs.length c, .bool n2, .slice B ys.length e0] 27) := ⟨_, rfl⟩
  rw [← E] at PX RX KX HT HZ HB ⊢
  clear E
  obtain ⟨l_x, x0, x1, x2, x3, -, -, -, -⟩ := PX.out.facts
  go_wp2_with fail
  refine (H1.out W RX.out KX.out).mono ?_
  rintro e wx1 ⟨rfl, hb⟩
  clear l_x x0 x1 x2 x3
  have HS_wx1 := Hd (show W.heap.size ≤ wx1.heap.size from hb.size)
  have PX := Hd (PX.out.below hb)
  have RX := Hd (RX.out.below hb)
  have KX := Hd (KX.out.below hb)
  have HT := Hd (HT.out.below2 hb)
  have HZ := Hd (HZ.out.below hb)
  have HB := Hd (belowTo HB.out hb)
  go_wp2_with fail
  refine (H4.out _ _ (SliceOf.new [s1] _ _ _ rfl)).mono ?_
  rintro e wx2 ⟨rfl, hb⟩
  have hb := ((Below.refl wx1.heap.size wx1).alloc (Nat.le_refl _) _).trans (hb.mono (by simp))
  have PX := Hd (PX.out.below hb)
  have RX := Hd (RX.out.below hb)
  have KX := Hd (KX.out.below hb)
  have HT := Hd (HT.out.below2 hb)
  have HZ := Hd (HZ.out.below hb)
  have HB := Hd (belowTo HB.out hb)
  clear hb H1 H4 HS_wx1
  obtain ⟨l_x, x0, x1, x2, x3, -, -, -, -⟩ := PX.out.facts
  go_wp2_with fail
  refine (Ex.out wx2 RX.out KX.out).mono ?_
  rintro e wx3 ⟨rfl, hb⟩
  clear l_x x0 x1 x2 x3
  have HS_wx3 := Hd (show wx2.heap.size ≤ wx3.heap.size from hb.size)
  have PX := Hd (PX.out.below hb)
  have RX := Hd (RX.out.below hb)
  have KX := Hd (KX.out.below hb)
  have HT := Hd (HT.out.below2 hb)
  have HZ := Hd (HZ.out.below hb)
  have HB := Hd (belowTo HB.out hb)
  clear hb Ex HS_wx3
  obtain ⟨V, EV⟩ : ∃ V, V = wx3 := ⟨_, rfl⟩
  rw [← EV] at PX RX KX HT HZ HB ⊢
  clear EV
  go_wp2_with fail
  refine (lives_ours V HT.out).mono ?_
  rintro e w9 ⟨rfl, hb⟩
  have HF := Hd (belowTo HB.out hb)
  clear hb
  go_wp2_with fail
  go_ret
  exact ⟨rfl, HF.out⟩

theorem fnear_none (n d : Int)  (A B : Option Addr) (c e0 : Nat) (w : World) (hx : Raw w A c (natL n.natAbs)) (kx : Raw w B e0 (natL d.natAbs)) (htab : powTab w) (htz : tzTab w) (hlx : (natL n.natAbs).length ≤ 1152921504606846975) (hly : (natL d.natAbs).length ≤ 1152921504606846975) (hb : decide (1048576 < [fcost (natL n.natAbs).length (natL d.natAbs).length].sum) = false) (f1 : Fine n d) (D1 : ∀ (V : World) (A B : Option Addr) (c e0 : Nat), Raw V A c (natL n.natAbs) → Raw V B e0 (natL d.natAbs) → Calls Tryz.prog 13 #[.agg #[.bool (decide (n < 0)), .slice A (natL n.natAbs).length c, .bool (decide (d < 0)), .slice B (natL d.natAbs).length e0]] V fun e w' => e = .returned (.tuple #[.float .f64 0, .int .i64 6]) ∧ Below V.heap.size V w') :
    Calls Tryz.prog 4 #[.agg #[.bool (decide (n < 0)), .slice A (natL n.natAbs).length c, .bool (decide (d < 0)), .slice B (natL d.natAbs).length e0]] w fun e w' => e = .returned (.bool true) ∧ Below w.heap.size w w' := by
  have Dx := fun (V : World) (a1 : Raw V A c (natL n.natAbs)) (a2 : Raw V B e0 (natL d.natAbs)) => frac_Check (decide (n < 0)) (decide (d < 0)) A B c e0 _ _ V a1 a2
  rw [f1.chk] at Dx
  have Ex := Hd Dx
  clear Dx f1
  have H5 := Hd D1
  have hf0 : (FloatKind.f64.format.order 0 0 == some .eq) = true := by kernel_rfl
  have HF0 := Hd hf0
  clear D1 hf0
  have C1 := fun (V : World) (a1 : Raw V A c (natL n.natAbs)) (a2 : Raw V B e0 (natL d.natAbs)) => frac_cost (decide (n < 0)) (decide (d < 0)) A B c e0 _ _ hlx hly V a1 a2
  have h1 := fcost_le hlx hly
  obtain ⟨s1, q1⟩ : ∃ k : Nat, k = fcost (natL n.natAbs).length (natL d.natAbs).length := ⟨_, rfl⟩
  rw [← q1] at C1 h1
  rw [← q1] at hb
  have H4 := Hd (fun (u : Value) (V : World) (h : SliceOf [s1] u V) => beyond_of2 [s1] false (by simp) (by simp; omega) hb.symm u V h)
  have H1 := Hd C1
  clear C1 h1 q1 hb hlx hly
  have b0 := (Below.refl w.heap.size w).alloc (Nat.le_refl _) (.cells #[.bool (decide (n < 0)), .slice A (natL n.natAbs).length c, .bool (decide (d < 0)), .slice B (natL d.natAbs).length e0] 27)
  have p0 := Quad.new w (.bool (decide (n < 0))) (.slice A (natL n.natAbs).length c) (.bool (decide (d < 0))) (.slice B (natL d.natAbs).length e0)
  have PX := Hd p0
  have RX := Hd (hx.below b0)
  have KX := Hd (kx.below b0)
  have HT := Hd (htab.below2 b0)
  have HZ := Hd (htz.below b0)
  have HB := Hd b0
  clear b0 p0 hx kx htab htz
  go_enter Tryz.func4, Tryz.ntmps4
  go_wp2_with fail
  obtain ⟨W, E⟩ : ∃ W, W = w.alloc (.cells #[.bool (decide (n < 0)), .slice A (natL n.natAbs).length c, .bool (decide (d < 0)), .slice B (natL d.natAbs).length e0] 27) := ⟨_, rfl⟩
  rw [← E] at PX RX KX HT HZ HB ⊢
  clear E
  obtain ⟨l_x, x0, x1, x2, x3, -, -, -, -⟩ := PX.out.facts
  go_wp2_with fail
  refine (H1.out W RX.out KX.out).mono ?_
  rintro e wx1 ⟨rfl, hb⟩
  clear l_x x0 x1 x2 x3
  have HS_wx1 := Hd (show W.heap.size ≤ wx1.heap.size from hb.size)
  have PX := Hd (PX.out.below hb)
  have RX := Hd (RX.out.below hb)
  have KX := Hd (KX.out.below hb)
  have HT := Hd (HT.out.below2 hb)
  have HZ := Hd (HZ.out.below hb)
  have HB := Hd (belowTo HB.out hb)
  go_wp2_with fail
  refine (H4.out _ _ (SliceOf.new [s1] _ _ _ rfl)).mono ?_
  rintro e wx2 ⟨rfl, hb⟩
  have hb := ((Below.refl wx1.heap.size wx1).alloc (Nat.le_refl _) _).trans (hb.mono (by simp))
  have PX := Hd (PX.out.below hb)
  have RX := Hd (RX.out.below hb)
  have KX := Hd (KX.out.below hb)
  have HT := Hd (HT.out.below2 hb)
  have HZ := Hd (HZ.out.below hb)
  have HB := Hd (belowTo HB.out hb)
  clear hb H1 H4 HS_wx1
  obtain ⟨l_x, x0, x1, x2, x3, -, -, -, -⟩ := PX.out.facts
  go_wp2_with fail
  refine (Ex.out wx2 RX.out KX.out).mono ?_
  rintro e wx3 ⟨rfl, hb⟩
  clear l_x x0 x1 x2 x3
  have HS_wx3 := Hd (show wx2.heap.size ≤ wx3.heap.size from hb.size)
  have PX := Hd (PX.out.below hb)
  have RX := Hd (RX.out.below hb)
  have KX := Hd (KX.out.below hb)
  have HT := Hd (HT.out.below2 hb)
  have HZ := Hd (HZ.out.below hb)
  have HB := Hd (belowTo HB.out hb)
  clear hb Ex HS_wx3
  obtain ⟨V, EV⟩ : ∃ V, V = wx3 := ⟨_, rfl⟩
  rw [← EV] at PX RX KX HT HZ HB ⊢
  clear EV
  have F := Hd ((((Kp.base HB.out).add HT.out (fun _ _ => powTab.below2)).add HZ.out (fun _ _ => tzTab.below)).add (show FV V w.heap.size n d A c B e0 from ⟨PX.out, RX.out, KX.out⟩) (fun _ _ => FV.below))
  clear PX RX KX HT HZ HB
  obtain ⟨V_x, -⟩ := F.out.h
  obtain ⟨l_x, a_x, b_x, c_x, d_x, -, -, -, -⟩ := V_x.quad.facts
  go_wp2_with fail
  refine (H5.out V _ _ _ _ V_x.num V_x.den).mono ?_
  rintro e wx1 ⟨rfl, hb⟩
  have F := Hd (F.out.below hb)
  clear l_x a_x b_x c_x d_x V_x
  clear hb
  have hf0 := HF0.out
  obtain ⟨-, -, HT, -⟩ := F.out.h
  go_wp2_with fail
  refine (lives_ours wx1 HT).mono ?_
  rintro e wx2 ⟨rfl, hb⟩
  have F := Hd (F.out.below hb)
  clear HT
  clear hb
  obtain ⟨-, -, -, HB⟩ := F.out.h
  go_wp2_with fail
  go_ret
  exact ⟨rfl, HB⟩

theorem fnear_good (n d : Int) (v : Nat) (N1 D1 N2 D2 N3 D3 : Int) (k1 k2 k3 : Bool) (A B : Option Addr) (c e0 : Nat) (w : World) (hx : Raw w A c (natL n.natAbs)) (kx : Raw w B e0 (natL d.natAbs)) (htab : powTab w) (htz : tzTab w) (hlx : (natL n.natAbs).length ≤ 1152921504606846975) (hly : (natL d.natAbs).length ≤ 1152921504606846975) (hb : decide (1048576 < [fcost (natL n.natAbs).length (natL d.natAbs).length].sum) = false) (f1 : Fine n d) (hv : v < 18446744073709551616) (hf : frun v < 9218868437227405312) (hz : (Ieee.double.order v 0 == some .eq) = true → fneg v = false) (D0 : ∀ (V : World) (A B : Option Addr) (c e0 : Nat), Raw V A c (natL n.natAbs) → Raw V B e0 (natL d.natAbs) → Calls Tryz.prog 13 #[.agg #[.bool (decide (n < 0)), .slice A (natL n.natAbs).length c, .bool (decide (d < 0)), .slice B (natL d.natAbs).length e0]] V fun e w' => e = .returned (.tuple #[.float .f64 v, .int .i64 0]) ∧ Below V.heap.size V w') (E1 : ∀ (V : World) (A B : Option Addr) (c e0 : Nat), Raw V A c (natL n.natAbs) → Raw V B e0 (natL d.natAbs) → tzTab V → Calls Tryz.prog 22 #[.agg #[.bool (decide (n < 0)), .slice A (natL n.natAbs).length c, .bool (decide (d < 0)), .slice B (natL d.natAbs).length e0], .float .f64 v] V (RetAway V N1 D1 k1)) (E2 : ∀ (V : World) (A B : Option Addr) (c e0 : Nat), Raw V A c (natL n.natAbs) → Raw V B e0 (natL d.natAbs) → tzTab V → Calls Tryz.prog 22 #[.agg #[.bool (decide (n < 0)), .slice A (natL n.natAbs).length c, .bool (decide (d < 0)), .slice B (natL d.natAbs).length e0], .float .f64 (nextU v)] V (RetAway V N2 D2 k2)) (E3 : ∀ (V : World) (A B : Option Addr) (c e0 : Nat), Raw V A c (natL n.natAbs) → Raw V B e0 (natL d.natAbs) → tzTab V → Calls Tryz.prog 22 #[.agg #[.bool (decide (n < 0)), .slice A (natL n.natAbs).length c, .bool (decide (d < 0)), .slice B (natL d.natAbs).length e0], .float .f64 (nextD v)] V (RetAway V N3 D3 k3)) (g2 : k1 = true → k2 = true → ∃ k : Int, k ≤ 0 ∧ (k = 0 → v % 2 = 0) ∧ (∀ (V : World) (A B A2 B2 : Option Addr) (c e0 c2 e2 : Nat), Raw V A c (natL N1.natAbs) → Raw V B e0 (natL D1.natAbs) → Raw V A2 c2 (natL N2.natAbs) → Raw V B2 e2 (natL D2.natAbs) → Calls Tryz.prog 26 #[.agg #[.bool (decide (N1 < 0)), .slice A (natL N1.natAbs).length c, .bool (decide (D1 < 0)), .slice B (natL D1.natAbs).length e0], .agg #[.bool (decide (N2 < 0)), .slice A2 (natL N2.natAbs).length c2, .bool (decide (D2 < 0)), .slice B2 (natL D2.natAbs).length e2]] V fun e w' => e = .returned (.int .i64 k) ∧ Below V.heap.size V w')) (g3 : k1 = true → k3 = true → ∃ k : Int, k ≤ 0 ∧ (k = 0 → v % 2 = 0) ∧ (∀ (V : World) (A B A2 B2 : Option Addr) (c e0 c2 e2 : Nat), Raw V A c (natL N1.natAbs) → Raw V B e0 (natL D1.natAbs) → Raw V A2 c2 (natL N3.natAbs) → Raw V B2 e2 (natL D3.natAbs) → Calls Tryz.prog 26 #[.agg #[.bool (decide (N1 < 0)), .slice A (natL N1.natAbs).length c, .bool (decide (D1 < 0)), .slice B (natL D1.natAbs).length e0], .agg #[.bool (decide (N3 < 0)), .slice A2 (natL N3.natAbs).length c2, .bool (decide (D3 < 0)), .slice B2 (natL D3.natAbs).length e2]] V fun e w' => e = .returned (.int .i64 k) ∧ Below V.heap.size V w')) :
    Calls Tryz.prog 4 #[.agg #[.bool (decide (n < 0)), .slice A (natL n.natAbs).length c, .bool (decide (d < 0)), .slice B (natL d.natAbs).length e0]] w fun e w' => e = .returned (.bool true) ∧ Below w.heap.size w w' := by
  have Dx := fun (V : World) (a1 : Raw V A c (natL n.natAbs)) (a2 : Raw V B e0 (natL d.natAbs)) => frac_Check (decide (n < 0)) (decide (d < 0)) A B c e0 _ _ V a1 a2
  rw [f1.chk] at Dx
  have Ex := Hd Dx
  clear Dx f1
  have U2 := fun (V : World) => next_up v hv hf V
  have U3 := fun (V : World) => next_down v hv hf V
  obtain ⟨v2, hv2⟩ : ∃ k : Nat, k = nextU v := ⟨_, rfl⟩
  obtain ⟨v3, hv3⟩ : ∃ k : Nat, k = nextD v := ⟨_, rfl⟩
  rw [← hv2] at U2 E2
  rw [← hv3] at U3 E3
  have HU2 := Hd U2
  have HU3 := Hd U3
  have H0 := Hd D0
  have HE1 := Hd E1
  have HE2 := Hd E2
  have HE3 := Hd E3
  have HG2 := Hd g2
  have HG3 := Hd g3
  have HVZ := Hd hz
  have HV := Hd hv
  clear U2 U3 hv2 hv3 D0 E1 E2 E3 g2 g3 hz hv hf
  have C1 := fun (V : World) (a1 : Raw V A c (natL n.natAbs)) (a2 : Raw V B e0 (natL d.natAbs)) => frac_cost (decide (n < 0)) (decide (d < 0)) A B c e0 _ _ hlx hly V a1 a2
  have h1 := fcost_le hlx hly
  obtain ⟨s1, q1⟩ : ∃ k : Nat, k = fcost (natL n.natAbs).length (natL d.natAbs).length := ⟨_, rfl⟩
  rw [← q1] at C1 h1
  rw [← q1] at hb
  have H4 := Hd (fun (u : Value) (V : World) (h : SliceOf [s1] u V) => beyond_of2 [s1] false (by simp) (by simp; omega) hb.symm u V h)
  have H1 := Hd C1
  clear C1 h1 q1 hb hlx hly
  have b0 := (Below.refl w.heap.size w).alloc (Nat.le_refl _) (.cells #[.bool (decide (n < 0)), .slice A (natL n.natAbs).length c, .bool (decide (d < 0)), .slice B (natL d.natAbs).length e0] 27)
  have p0 := Quad.new w (.bool (decide (n < 0))) (.slice A (natL n.natAbs).length c) (.bool (decide (d < 0))) (.slice B (natL d.natAbs).length e0)
  have PX := Hd p0
  have RX := Hd (hx.below b0)
  have KX := Hd (kx.below b0)
  have HT := Hd (htab.below2 b0)
  have HZ := Hd (htz.below b0)
  have HB := Hd b0
  clear b0 p0 hx kx htab htz
  go_enter Tryz.func4, Tryz.ntmps4
  go_wp2_with fail
  obtain ⟨W, E⟩ : ∃ W, W = w.alloc (.cells #[.bool (decide (n < 0)), .slice A (natL n.natAbs).length c, .bool (decide (d < 0)), .slice B (natL d.natAbs).length e0] 27) := ⟨_, rfl⟩
  rw [← E] at PX RX KX HT HZ HB ⊢
  clear E
  obtain ⟨l_x, x0, x1, x2, x3, -, -, -, -⟩ := PX.out.facts
  go_wp2_with fail
  refine (H1.out W RX.out KX.out).mono ?_
  rintro e wx1 ⟨rfl, hb⟩
  clear l_x x0 x1 x2 x3
  have HS_wx1 := Hd (show W.heap.size ≤ wx1.heap.size from hb.size)
  have PX := Hd (PX.out.below hb)
  have RX := Hd (RX.out.below hb)
  have KX := Hd (KX.out.below hb)
  have HT := Hd (HT.out.below2 hb)
  have HZ := Hd (HZ.out.below hb)
  have HB := Hd (belowTo HB.out hb)
  go_wp2_with fail
  refine (H4.out _ _ (SliceOf.new [s1] _ _ _ rfl)).mono ?_
  rintro e wx2 ⟨rfl, hb⟩
  have hb := ((Below.refl wx1.heap.size wx1).alloc (Nat.le_refl _) _).trans (hb.mono (by simp))
  have PX := Hd (PX.out.below hb)
  have RX := Hd (RX.out.below hb)
  have KX := Hd (KX.out.below hb)
  have HT := Hd (HT.out.below2 hb)
  have HZ := Hd (HZ.out.below hb)
  have HB := Hd (belowTo HB.out hb)
  clear hb H1 H4 HS_wx1
  obtain ⟨l_x, x0, x1, x2, x3, -, -, -, -⟩ := PX.out.facts
  go_wp2_with fail
  refine (Ex.out wx2 RX.out KX.out).mono ?_
  rintro e wx3 ⟨rfl, hb⟩
  clear l_x x0 x1 x2 x3
  have HS_wx3 := Hd (show wx2.heap.size ≤ wx3.heap.size from hb.size)
  have PX := Hd (PX.out.below hb)
  have RX := Hd (RX.out.below hb)
  have KX := Hd (KX.out.below hb)
  have HT := Hd (HT.out.below2 hb)
  have HZ := Hd (HZ.out.below hb)
  have HB := Hd (belowTo HB.out hb)
  clear hb Ex HS_wx3
  obtain ⟨V, EV⟩ : ∃ V, V = wx3 := ⟨_, rfl⟩
  rw [← EV] at PX RX KX HT HZ HB ⊢
  clear EV
  have F := Hd ((((Kp.base HB.out).add HT.out (fun _ _ => powTab.below2)).add HZ.out (fun _ _ => tzTab.below)).add (show FV V w.heap.size n d A c B e0 from ⟨PX.out, RX.out, KX.out⟩) (fun _ _ => FV.below))
  clear PX RX KX HT HZ HB
  obtain ⟨V_x, -⟩ := F.out.h
  obtain ⟨l_x, a_x, b_x, c_x, d_x, -, -, -, -⟩ := V_x.quad.facts
  go_wp2_with fail
  refine (H0.out V _ _ _ _ V_x.num V_x.den).mono ?_
  rintro e wx1 ⟨rfl, hb⟩
  have F := Hd (F.out.below hb)
  clear l_x a_x b_x c_x d_x V_x
  clear hb
  obtain ⟨V_x, HZ, -⟩ := F.out.h
  obtain ⟨l_x, a_x, b_x, c_x, d_x, -, -, -, -⟩ := V_x.quad.facts
  go_wp2_with fail
  refine (HE1.out wx1 _ _ _ _ V_x.num V_x.den HZ).mono ?_
  rintro e wx6 ⟨v1, rfl, hI, hb⟩
  obtain ⟨Ar1, cr1, Br1, er1, rfl, i1, i2⟩ := hI.form
  have hn := FV.new i1.rawAt i2.rawAt
  have ha := (Below.refl wx6.heap.size wx6).alloc (Nat.le_refl _) (.cells #[.bool (decide (N1 < 0)), .slice Ar1 (natL N1.natAbs).length cr1, .bool (decide (D1 < 0)), .slice Br1 (natL D1.natAbs).length er1] 27)
  have F := Hd (((F.out.below hb).below ha).add hn (fun _ _ => FV.below))
  clear l_x a_x b_x c_x d_x HZ V_x
  clear hI i1 i2 hb hn ha
  go_upto_region 7 with fail
  obtain ⟨wy6, E⟩ : ∃ W, W = wx6.alloc (.cells #[.bool (decide (N1 < 0)), .slice Ar1 (natL N1.natAbs).length cr1, .bool (decide (D1 < 0)), .slice Br1 (natL D1.natAbs).length er1] 27) := ⟨_, rfl⟩
  obtain ⟨q6, hq⟩ : ∃ q, q = wx6.heap.size := ⟨_, rfl⟩
  rw [← E, ← hq] at F ⊢
  clear E hq
  go_wp2_with fail
  refine wp_region_free [.val (.agg #[.bool (decide (n < 0)), .slice A (natL n.natAbs).length c, .bool (decide (d < 0)), .slice B (natL d.natAbs).length e0]) [], .val (.float .f64 v) [], .val (.float .f64 9218868437227405312) [], .val (.float .f64 v2) [], .any false (TupB N2 D2 k2) [], .any false (TupB N2 D2 k2) [4], .any false (fun u V => FracIn V 0 u N2 D2) [5], .val (.bool k2) [5], .new 27 4, .put 27 4 8 6 [], .val (.bool k2) []] wy6.heap.size wy6 [27] (fun _ _ => False) _ mixedOrders2 (Nat.le_refl _) (Below.refl _ _) (KeptV.refl _ _ _) rfl (by kernel_rfl) (by kernel_rfl) (by kernel_rfl) (by kernel_rfl) (by kernel_rfl) (by kernel_rfl) (by kernel_rfl) (by kernel_rfl) rfl (by simp [oldsF]) ?_ ?_ ?_ ?_
  · simp only [StableF, and_true]
    exact ⟨fun u V V' h k => h.kept k (by decide), fun u V V' h k => h.kept k (by decide), fun u V V' h k => h.kept k (by decide)⟩
  · simp only [OldsF]
  · simp (maxSteps := 4000000) [StepsF, DepF, freeAct, fill, pairs]
    repeat' (first | apply And.intro | (intro (u : Value)) | (intro (u : Nat)))
    all_goals try exact ⟨_, _, _, rfl, rfl, rfl, rfl, fracInfo⟩
    all_goals try exact allocFrac rfl
    all_goals first
    | (intro V hV hK
       obtain ⟨-, V_x, HZ, -, -⟩ := (F.out.below hV).h
       obtain ⟨-, a_x, b_x, c_x, d_x, -, -, -, -⟩ := V_x.quad.facts
       have r1 := Hd V_x.num
       have r2 := Hd V_x.den
       have r3 := Hd HZ
       clear hV hK V_x HZ
       go_simp
       first
       | exact Below.refl _ _
       | ((with_reducible refine (inf_up V).mono ?_); rintro e w' ⟨rfl, hb⟩; exact ⟨rfl, hb⟩)
       | ((with_reducible refine (HU2.out V).mono ?_); rintro e w' ⟨rfl, hb⟩; exact ⟨rfl, hb⟩)
       | ((with_reducible refine (HE2.out V _ _ _ _ r1.out r2.out r3.out).mono ?_); rintro e w' ⟨v, rfl, hv, hb⟩; exact ⟨⟨v, rfl, hv⟩, hb⟩))
    | (intro V hV hK h1
       obtain ⟨v, rfl, hv⟩ := h1.form
       clear hV hK
       go_simp
       first
       | exact ⟨h1, Below.refl _ _⟩
       | exact ⟨hv, Below.refl _ _⟩
       | exact Below.refl _ _)
    | exact fun _ _ _ (h : FracIn _ _ _ _ _) => h.cells
    | exact fun _ _ _ (h : FracIn _ _ _ _ _) _ => h.cells
  · simp [EndF, FactsF, freeAct, fill, pairs]
    intro u1 u2 u3 q29 hbs V2 hV hK h1 h2 h3 p1 _ _ _
    obtain ⟨Ar2, cr2, Br2, er2, rfl, i1, i2⟩ := h3.form
    have F := Hd ((F.out.below hV).add (show FV V2 q29 N2 D2 Ar2 cr2 Br2 er2 from ⟨⟨p1⟩, i1.rawAt, i2.rawAt⟩) (fun _ _ => FV.below))
    clear hV hK h1 h2 h3 p1 i1 i2 hbs
    go_wp2_with fail
    refine wp_region_free [.val (.agg #[.bool (decide (n < 0)), .slice A (natL n.natAbs).length c, .bool (decide (d < 0)), .slice B (natL d.natAbs).length e0]) [], .val (.float .f64 v) [], .val (.float .f64 18442240474082181120) [], .val (.float .f64 v3) [], .any false (TupB N3 D3 k3) [], .any false (TupB N3 D3 k3) [4], .any false (fun u V => FracIn V 0 u N3 D3) [5], .val (.bool k3) [5], .new 27 4, .put 27 4 8 6 [], .val (.bool k3) []] V2.heap.size V2 [27] (fun _ _ => False) _ mixedOrders2 (Nat.le_refl _) (Below.refl _ _) (KeptV.refl _ _ _) rfl (by kernel_rfl) (by kernel_rfl) (by kernel_rfl) (by kernel_rfl) (by kernel_rfl) (by kernel_rfl) (by kernel_rfl) (by kernel_rfl) rfl (by simp [oldsF]) ?_ ?_ ?_ ?_
    · simp only [StableF, and_true]
      exact ⟨fun u V V' h k => h.kept k (by decide), fun u V V' h k => h.kept k (by decide), fun u V V' h k => h.kept k (by decide)⟩
    · simp only [OldsF]
    · simp (maxSteps := 4000000) [StepsF, DepF, freeAct, fill, pairs]
      repeat' (first | apply And.intro | (intro (u : Value)) | (intro (u : Nat)))
      all_goals try exact ⟨_, _, _, rfl, rfl, rfl, rfl, fracInfo⟩
      all_goals try exact allocFrac rfl
      all_goals first
      | (intro V hV hK
         obtain ⟨-, -, V_x, HZ, -, -⟩ := (F.out.below hV).h
         obtain ⟨-, a_x, b_x, c_x, d_x, -, -, -, -⟩ := V_x.quad.facts
         have r1 := Hd V_x.num
         have r2 := Hd V_x.den
         have r3 := Hd HZ
         clear hV hK V_x HZ
         go_simp
         first
         | exact Below.refl _ _
         | ((with_reducible refine (inf_down V).mono ?_); rintro e w' ⟨rfl, hb⟩; exact ⟨rfl, hb⟩)
         | ((with_reducible refine (HU3.out V).mono ?_); rintro e w' ⟨rfl, hb⟩; exact ⟨rfl, hb⟩)
         | ((with_reducible refine (HE3.out V _ _ _ _ r1.out r2.out r3.out).mono ?_); rintro e w' ⟨v, rfl, hv, hb⟩; exact ⟨⟨v, rfl, hv⟩, hb⟩))
      | (intro V hV hK h1
         obtain ⟨v, rfl, hv⟩ := h1.form
         clear hV hK
         go_simp
         first
         | exact ⟨h1, Below.refl _ _⟩
         | exact ⟨hv, Below.refl _ _⟩
         | exact Below.refl _ _)
      | exact fun _ _ _ (h : FracIn _ _ _ _ _) => h.cells
      | exact fun _ _ _ (h : FracIn _ _ _ _ _) _ => h.cells
    · simp [EndF, FactsF, freeAct, fill, pairs]
      intro u1 u2 u3 q39 hbs V3 hV hK h1 h2 h3 p1 _ _ _
      obtain ⟨Ar3, cr3, Br3, er3, rfl, i1, i2⟩ := h3.form
      have F := Hd ((F.out.below hV).add (show FV V3 q39 N3 D3 Ar3 cr3 Br3 er3 from ⟨⟨p1⟩, i1.rawAt, i2.rawAt⟩) (fun _ _ => FV.below))
      clear hV hK h1 h2 h3 p1 i1 i2 hbs
      have hfb : ∀ w : World, (callFunc 25 #[.float .f64 v]).run Tryz.prog w = .ok (.value (.int .u64 v)) w := fun w => fbits v w
      go_upto_region 10 with fail
      clear hfb
      obtain ⟨yc3, E⟩ : ∃ Y, Y = V3 := ⟨_, rfl⟩
      rw [← E] at F ⊢
      clear E
      go_cut [83] (fun s83 wc => s83 = .bool false ∧ Below yc3.heap.size yc3 wc)
      case first => as_aux_lemma =>
        have F := Hd (F.out.add (Below.refl yc3.heap.size yc3) (fun _ _ a b => belowTo a b))
        cases k1
        case false =>
          obtain ⟨HC0, -⟩ := F.out.h
          go_wp2_with fail
          go_meet
          case rel => exact ⟨rfl, HC0⟩
        case true =>
          cases k2
          case false =>
            obtain ⟨HC0, -⟩ := F.out.h
            go_wp2_with fail
            go_meet
            case rel => exact ⟨rfl, HC0⟩
          case true =>
            obtain ⟨k, hk1, hk2, hc⟩ := HG2.out rfl rfl
            have HC := Hd hc
            clear hc
            have h1 : decide (0 < k) = false := decide_eq_false (by omega)
            by_cases hk : k = 0
            · have he := hk2 hk
              have HE9 := Hd (show ((v : Int) % 2 == 0) = true from beq_iff_eq.2 (by omega))
              subst hk
              clear hk1 hk2 he h1
              obtain ⟨-, -, V_2, V_1, -⟩ := F.out.h
              obtain ⟨l_1, a_1, b_1, c_1, d_1, -, -, -, -⟩ := V_1.quad.facts
              obtain ⟨l_2, a_2, b_2, c_2, d_2, -, -, -, -⟩ := V_2.quad.facts
              go_wp2_with fail
              refine (HC.out yc3 _ _ _ _ _ _ _ _ V_1.num V_1.den V_2.num V_2.den).mono ?_
              rintro e wx4 ⟨rfl, hb⟩
              have F := Hd (F.out.below hb)
              clear l_1 a_1 b_1 c_1 d_1 l_2 a_2 b_2 c_2 d_2 V_1 V_2
              clear hb
              obtain ⟨-, -, V_2, V_1, -⟩ := F.out.h
              obtain ⟨l_1, a_1, b_1, c_1, d_1, -, -, -, -⟩ := V_1.quad.facts
              obtain ⟨l_2, a_2, b_2, c_2, d_2, -, -, -, -⟩ := V_2.quad.facts
              go_wp2_with fail
              refine (HC.out wx4 _ _ _ _ _ _ _ _ V_1.num V_1.den V_2.num V_2.den).mono ?_
              rintro e wx5 ⟨rfl, hb⟩
              have F := Hd (F.out.below hb)
              clear l_1 a_1 b_1 c_1 d_1 l_2 a_2 b_2 c_2 d_2 V_1 V_2
              clear hb
              obtain ⟨HC0, -⟩ := F.out.h
              go_wp2_with fail
              go_meet
              case rel => exact ⟨by rw [HE9.out]; rfl, HC0⟩
            · have h2 : decide (k = 0) = false := decide_eq_false hk
              clear hk1 hk2
              obtain ⟨-, -, V_2, V_1, -⟩ := F.out.h
              obtain ⟨l_1, a_1, b_1, c_1, d_1, -, -, -, -⟩ := V_1.quad.facts
              obtain ⟨l_2, a_2, b_2, c_2, d_2, -, -, -, -⟩ := V_2.quad.facts
              go_wp2_with fail
              refine (HC.out yc3 _ _ _ _ _ _ _ _ V_1.num V_1.den V_2.num V_2.den).mono ?_
              rintro e wx6 ⟨rfl, hb⟩
              have F := Hd (F.out.below hb)
              clear l_1 a_1 b_1 c_1 d_1 l_2 a_2 b_2 c_2 d_2 V_1 V_2
              clear hb
              obtain ⟨-, -, V_2, V_1, -⟩ := F.out.h
              obtain ⟨l_1, a_1, b_1, c_1, d_1, -, -, -, -⟩ := V_1.quad.facts
              obtain ⟨l_2, a_2, b_2, c_2, d_2, -, -, -, -⟩ := V_2.quad.facts
              go_wp2_with fail
              refine (HC.out wx6 _ _ _ _ _ _ _ _ V_1.num V_1.den V_2.num V_2.den).mono ?_
              rintro e wx7 ⟨rfl, hb⟩
              have F := Hd (F.out.below hb)
              clear l_1 a_1 b_1 c_1 d_1 l_2 a_2 b_2 c_2 d_2 V_1 V_2
              clear hb
              obtain ⟨HC0, -⟩ := F.out.h
              go_wp2_with fail
              go_meet
              case rel => exact ⟨rfl, HC0⟩
      case rest =>
        obtain ⟨h83, hcut⟩ := hcut
        subst h83
        have F := Hd (F.out.below hcut)
        clear hcut
        obtain ⟨yr8, E⟩ : ∃ Y, Y = wc := ⟨_, rfl⟩
        subst E
        go_upto_region 12 with fail
        obtain ⟨yc9, E⟩ : ∃ Y, Y = yr8 := ⟨_, rfl⟩
        rw [← E] at F ⊢
        clear E
        go_cut [103] (fun s103 wc => s103 = .bool false ∧ Below yc9.heap.size yc9 wc)
        case first => as_aux_lemma =>
          have F := Hd (F.out.add (Below.refl yc9.heap.size yc9) (fun _ _ a b => belowTo a b))
          cases k1
          case false =>
            obtain ⟨HC0, -⟩ := F.out.h
            go_wp2_with fail
            go_meet
            case rel => exact ⟨rfl, HC0⟩
          case true =>
            cases k3
            case false =>
              obtain ⟨HC0, -⟩ := F.out.h
              go_wp2_with fail
              go_meet
              case rel => exact ⟨rfl, HC0⟩
            case true =>
              obtain ⟨k, hk1, hk2, hc⟩ := HG3.out rfl rfl
              have HC := Hd hc
              clear hc
              have h1 : decide (0 < k) = false := decide_eq_false (by omega)
              by_cases hk : k = 0
              · have he := hk2 hk
                have HE9 := Hd (show ((v : Int) % 2 == 0) = true from beq_iff_eq.2 (by omega))
                subst hk
                clear hk1 hk2 he h1
                obtain ⟨-, V_3, -, V_1, -⟩ := F.out.h
                obtain ⟨l_1, a_1, b_1, c_1, d_1, -, -, -, -⟩ := V_1.quad.facts
                obtain ⟨l_3, a_3, b_3, c_3, d_3, -, -, -, -⟩ := V_3.quad.facts
                go_wp2_with fail
                refine (HC.out yc9 _ _ _ _ _ _ _ _ V_1.num V_1.den V_3.num V_3.den).mono ?_
                rintro e wx10 ⟨rfl, hb⟩
                have F := Hd (F.out.below hb)
                clear l_1 a_1 b_1 c_1 d_1 l_3 a_3 b_3 c_3 d_3 V_1 V_3
                clear hb
                obtain ⟨-, V_3, -, V_1, -⟩ := F.out.h
                obtain ⟨l_1, a_1, b_1, c_1, d_1, -, -, -, -⟩ := V_1.quad.facts
                obtain ⟨l_3, a_3, b_3, c_3, d_3, -, -, -, -⟩ := V_3.quad.facts
                go_wp2_with fail
                refine (HC.out wx10 _ _ _ _ _ _ _ _ V_1.num V_1.den V_3.num V_3.den).mono ?_
                rintro e wx11 ⟨rfl, hb⟩
                have F := Hd (F.out.below hb)
                clear l_1 a_1 b_1 c_1 d_1 l_3 a_3 b_3 c_3 d_3 V_1 V_3
                clear hb
                obtain ⟨HC0, -⟩ := F.out.h
                go_wp2_with fail
                go_meet
                case rel => exact ⟨by rw [HE9.out]; rfl, HC0⟩
              · have h2 : decide (k = 0) = false := decide_eq_false hk
                clear hk1 hk2
                obtain ⟨-, V_3, -, V_1, -⟩ := F.out.h
                obtain ⟨l_1, a_1, b_1, c_1, d_1, -, -, -, -⟩ := V_1.quad.facts
                obtain ⟨l_3, a_3, b_3, c_3, d_3, -, -, -, -⟩ := V_3.quad.facts
                go_wp2_with fail
                refine (HC.out yc9 _ _ _ _ _ _ _ _ V_1.num V_1.den V_3.num V_3.den).mono ?_
                rintro e wx12 ⟨rfl, hb⟩
                have F := Hd (F.out.below hb)
                clear l_1 a_1 b_1 c_1 d_1 l_3 a_3 b_3 c_3 d_3 V_1 V_3
                clear hb
                obtain ⟨-, V_3, -, V_1, -⟩ := F.out.h
                obtain ⟨l_1, a_1, b_1, c_1, d_1, -, -, -, -⟩ := V_1.quad.facts
                obtain ⟨l_3, a_3, b_3, c_3, d_3, -, -, -, -⟩ := V_3.quad.facts
                go_wp2_with fail
                refine (HC.out wx12 _ _ _ _ _ _ _ _ V_1.num V_1.den V_3.num V_3.den).mono ?_
                rintro e wx13 ⟨rfl, hb⟩
                have F := Hd (F.out.below hb)
                clear l_1 a_1 b_1 c_1 d_1 l_3 a_3 b_3 c_3 d_3 V_1 V_3
                clear hb
                obtain ⟨HC0, -⟩ := F.out.h
                go_wp2_with fail
                go_meet
                case rel => exact ⟨rfl, HC0⟩
        case rest =>
          obtain ⟨h103, hcut⟩ := hcut
          subst h103
          have F := Hd (F.out.below hcut)
          clear hcut
          obtain ⟨yr14, E⟩ : ∃ Y, Y = wc := ⟨_, rfl⟩
          subst E
          go_upto_region 14 with fail
          by_cases hz : (Ieee.double.order v 0 == some .eq) = true
          · have hs := HVZ.out hz
            have G5 := Hd (fun (V : World) => sign_bit v HV.out false hs.symm V)
            have hz2 : (FloatKind.f64.format.order v 0 == some .eq) = true := hz
            clear hs hz
            go_wp2_with fail
            refine (G5.out yr14).mono ?_
            rintro e wx15 ⟨rfl, hb⟩
            have F := Hd (F.out.below hb)
            clear hb
            clear hz2
            obtain ⟨-, -, -, -, -, HT, -⟩ := F.out.h
            go_wp2_with fail
            refine (lives_ours wx15 HT).mono ?_
            rintro e wx16 ⟨rfl, hb⟩
            have F := Hd (F.out.below hb)
            clear HT
            clear hb
            obtain ⟨-, -, -, -, -, -, HB⟩ := F.out.h
            go_wp2_with fail
            go_ret
            exact ⟨rfl, HB⟩
          · have hz2 : (FloatKind.f64.format.order v 0 == some .eq) = false := Bool.eq_false_iff.2 hz
            clear hz
            obtain ⟨-, -, -, -, -, HT, -⟩ := F.out.h
            go_wp2_with fail
            refine (lives_ours yr14 HT).mono ?_
            rintro e wx17 ⟨rfl, hb⟩
            have F := Hd (F.out.below hb)
            clear HT
            clear hb
            obtain ⟨-, -, -, -, -, -, HB⟩ := F.out.h
            go_wp2_with fail
            go_ret
            exact ⟨rfl, HB⟩

theorem next_ok {v : Nat} (hv : v < 18446744073709551616) (hf : frun v < 9218868437227405312) : (nextU v < 18446744073709551616 ∧ frun (nextU v) ≤ 9218868437227405312) ∧ nextD v < 18446744073709551616 ∧ frun (nextD v) ≤ 9218868437227405312 := by
  unfold nextU nextD
  by_cases h0 : frun v = 0
  · rw [if_pos h0, if_pos h0]
    exact ⟨⟨by decide, by decide⟩, by decide, by decide⟩
  · rw [if_neg h0, if_neg h0]
    by_cases hn : fneg v = true
    · rw [if_pos hn, if_pos hn]
      unfold fneg at hn
      simp at hn
      unfold frun at h0 hf ⊢
      omega
    · rw [if_neg hn, if_neg hn]
      unfold fneg at hn
      simp at hn
      unfold frun at h0 hf ⊢
      omega
theorem near_bits {b : Bool} {r v : Nat} (hr : r < 9218868437227405312) (hv : v = nearB b (some r)) : v < 18446744073709551616 ∧ frun v < 9218868437227405312 ∧ ((Ieee.double.order v 0 == some .eq) = true → fneg v = false) := by
  have key : v = r ∨ (r ≠ 0 ∧ v = r + 9223372036854775808) := by
    rw [hv]
    cases b with
    | false => exact .inl (near_pos r)
    | true =>
      by_cases h : r = 0
      · subst h; exact .inl near_neg0
      · exact .inr ⟨h, near_neg h⟩
  rcases key with rfl | ⟨h0, rfl⟩
  · have h := bits_pos (x := v) (by omega)
    exact ⟨by omega, by rw [h.1]; exact hr, fun _ => h.2.1⟩
  · have h := bits_neg (x := r) (by omega)
    refine ⟨by omega, by rw [h.1]; exact hr, fun e => ?_⟩
    rw [order_eq (by rw [h.1]; exact hr) (by decide)] at e
    have e2 : fint 0 = 0 := by rw [show fint 0 = (fval 0 : Int) from rfl, fval_zero]; rfl
    rw [e2] at e
    have e3 := fint_nought.1 (of_decide_eq_true e)
    rw [h.1] at e3
    exact absurd e3 h0
theorem cmp_near {n d N1 D1 N2 D2 : Int} {r v u : Nat} (hd : 0 < d) (ho : Near (n.natAbs * p2 1074) d.natAbs (some r)) (hv : v = nearB (decide (n < 0)) (some r)) (hu : u = nextU v ∨ u = nextD v)
    (h1 : Fine N1 D1 ∧ N1 * (d * unitQ) = (((n * unitQ - fint v * d).natAbs : Nat) : Int) * D1) (h2 : Fine N2 D2 ∧ N2 * (d * unitQ) = (((n * unitQ - fint u * d).natAbs : Nat) : Int) * D2) : ∃ k : Int, k ≤ 0 ∧ (k = 0 → v % 2 = 0) ∧ (∀ (V : World) (A B A2 B2 : Option Addr) (c e0 c2 e2 : Nat), Raw V A c (natL N1.natAbs) → Raw V B e0 (natL D1.natAbs) → Raw V A2 c2 (natL N2.natAbs) → Raw V B2 e2 (natL D2.natAbs) → Calls Tryz.prog 26 #[.agg #[.bool (decide (N1 < 0)), .slice A (natL N1.natAbs).length c, .bool (decide (D1 < 0)), .slice B (natL D1.natAbs).length e0], .agg #[.bool (decide (N2 < 0)), .slice A2 (natL N2.natAbs).length c2, .bool (decide (D2 < 0)), .slice B2 (natL D2.natAbs).length e2]] V fun e w' => e = .returned (.int .i64 k) ∧ Below V.heap.size V w') := by
  have key := near_sign hd ho hv hu
  have e := away_cmp (Int.mul_pos hd unitQ_pos) h1.2 h2.2 h1.1.pos h2.1.pos
  refine ⟨cmpz (N1 * D2) (N2 * D1), ?_, fun h0 => ?_, fun V A B A2 B2 c e0 c2 e2 a1 a2 a3 a4 => frac_Cmp_good N1 D1 N2 D2 _ A B A2 B2 c e0 c2 e2 V a1 a2 a3 a4 h1.1 h2.1 rfl⟩
  · rw [e, cmpz_le0]
    exact Int.ofNat_le.2 key.1
  · rw [e, cmpz_nought] at h0
    exact key.2 (Int.ofNat.inj h0)
theorem fnear_true (n1 n2 : Bool) (A B : Option Addr) (c e0 : Nat) (xs ys : List Nat) (w : World) (hx : Raw w A c xs) (kx : Raw w B e0 ys) (htab : powTab w) (htz : tzTab w) (hlx : xs.length ≤ 1152921504606846975) (hly : ys.length ≤ 1152921504606846975) :
    Calls Tryz.prog 4 #[.agg #[.bool n1, .slice A xs.length c, .bool n2, .slice B ys.length e0]] w fun e w' => e = .returned (.bool true) ∧ Below w.heap.size w w' := by
  rcases Bool.eq_false_or_eq_true (decide (1048576 < [fcost xs.length ys.length].sum)) with hb | hb
  · exact fnear_bad_b n1 n2 A B c e0 xs ys w hx kx htab htz hlx hly hb
  rcases chk_or n1 n2 xs ys with k1 | k1
  · obtain ⟨n, d, f, rfl, rfl, rfl, rfl⟩ := fine_of hx.limbs kx.limbs k1
    have hp := f.pos
    have hc : (chkE (decide (n < 0)) (decide (d < 0)) (natL n.natAbs) (natL d.natAbs) == 0) = true := by rw [f.chk]; rfl
    obtain ⟨o, ho⟩ := near_ex (n.natAbs * p2 1074) (d := d.natAbs) (by omega)
    have D := fun (V : World) (A B : Option Addr) (c e0 : Nat) (h : Raw V A c (natL n.natAbs)) (g : Raw V B e0 (natL d.natAbs)) => frac_Float_all _ _ true o.isSome A B c e0 _ _ _ hc V h g (fun _ V' h g => ratio_Nearest n d A B c e0 V' h g f.pos f.num f.den o ho)
    cases o with
    | none => exact fnear_none n d A B c e0 w hx kx htab htz hlx hly hb f D
    | some r =>
      obtain ⟨v, hv⟩ : ∃ v : Nat, v = nearB (decide (n < 0)) (some r) := ⟨_, rfl⟩
      have D : ∀ (V : World) (A B : Option Addr) (c e0 : Nat), Raw V A c (natL n.natAbs) → Raw V B e0 (natL d.natAbs) → Calls Tryz.prog 13 #[.agg #[.bool (decide (n < 0)), .slice A (natL n.natAbs).length c, .bool (decide (d < 0)), .slice B (natL d.natAbs).length e0]] V fun e w' => e = .returned (.tuple #[.float .f64 v, .int .i64 0]) ∧ Below V.heap.size V w' := by rw [hv]; exact D
      obtain ⟨b1, b2, b3⟩ := near_bits (near_lt ho) hv
      obtain ⟨⟨u1, u2⟩, u3, u4⟩ := next_ok b1 b2
      obtain ⟨N1, D1, k1, A1, P1⟩ := away_any f v b1 (by omega)
      obtain ⟨N2, D2, k2, A2, P2⟩ := away_any f (nextU v) u1 u2
      obtain ⟨N3, D3, k3, A3, P3⟩ := away_any f (nextD v) u3 u4
      exact fnear_good n d v N1 D1 N2 D2 N3 D3 k1 k2 k3 A B c e0 w hx kx htab htz hlx hly hb f b1 b2 b3 D A1 A2 A3 (fun h1 h2 => cmp_near hp ho hv (.inl rfl) (P1 h1) (P2 h2)) (fun h1 h2 => cmp_near hp ho hv (.inr rfl) (P1 h1) (P3 h2))
  · exact fnear_bad_x n1 n2 A B c e0 xs ys w hx kx htab htz hlx hly hb k1
end Go.Proofs.YtipmkkobdbgphaaGreatDoor
