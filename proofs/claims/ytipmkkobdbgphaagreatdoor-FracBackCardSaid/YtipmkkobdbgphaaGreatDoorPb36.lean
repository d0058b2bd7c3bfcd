/- Several texts in one: FClos, FRefDo, FParse, RootLaw. -/
import Derived.Test.YtipmkkobdbgphaaGreatDoorPb28
import Derived.Test.YtipmkkobdbgphaaGreatDoorPbHd
import Derived.Test.YtipmkkobdbgphaaGreatDoorPb33
import Derived.Test.YtipmkkobdbgphaaGreatDoorPb34
import Derived.Test.YtipmkkobdbgphaaGreatDoorPb35
import Derived.Lib.Hide
set_option maxRecDepth 100000
set_option maxHeartbeats 8000000
/- Add, Sub, Mul, Quo of package frac. (Written by wip/frac/genfclos2.py.) -/
namespace Go.Proofs.YtipmkkobdbgphaaGreatDoor
open Go.RowKit

structure AlwaysAt (f : FuncId) (u : Value) (V : World) : Prop where
  form : ∃ g, u = .func (.func 193) #[] #[.pointer (some ⟨g, 0, none⟩)] ∧ Blk V g 98 #[.func (.func f) #[] #[]]
theorem AlwaysAt.kept {f : FuncId} {u : Value} {V V' : World} {B : Nat} {Ts : List TypeId} (h : AlwaysAt f u V) (k : KeptV B Ts V V') (hT : 98 ∉ Ts) : AlwaysAt f u V' := by
  obtain ⟨g, h1, h2⟩ := h.form
  exact ⟨g, h1, k.blk h2 hT⟩
structure TupF (base : Nat) (n d k : Int) (u : Value) (V : World) : Prop where
  form : ∃ v, u = .tuple #[v, .int .i64 k] ∧ FracOwn V base v n d
theorem TupF.kept {base : Nat} {n d k : Int} {u : Value} {V V' : World} {B : Nat} {Ts : List TypeId} (h : TupF base n d k u V) (hk : KeptV B Ts V V') (hT : 104 ∉ Ts) : TupF base n d k u V' := by
  obtain ⟨v, h1, h2⟩ := h.form
  exact ⟨v, h1, h2.kept hk hT⟩
theorem FracIn.nought (w : World) (base : Nat) : FracIn w base (.agg #[.bool false, .slice none 0 0, .bool false, .slice none 0 0]) 0 0 := ⟨none, 0, none, 0, rfl, IntOwn.nought _ _, IntOwn.nought _ _⟩
structure BlkH (w : World) (g : Nat) (t : TypeId) (cs : Array Value) : Prop where
  blk : Blk w g t cs
theorem BlkH.below {w w' : World} {g : Nat} {t : TypeId} {cs : Array Value} (h : BlkH w g t cs) (hb : Below w.heap.size w w') : BlkH w' g t cs := ⟨h.blk.below hb h.blk.lt⟩

theorem do_bad (fv : Value) (n1 n2 n3 n4 : Bool) (A B A2 B2 : Option Addr) (c e0 c2 e2 : Nat) (xs ys us vs : List Nat) (w : World) (hx : Raw w A c xs) (kx : Raw w B e0 ys) (hy : Raw w A2 c2 us) (ky : Raw w B2 e2 vs) (hc : (chkE n1 n2 xs ys == 0 && chkE n3 n4 us vs == 0) = false) :
    Calls Tryz.prog 116 #[fv, .agg #[.bool n1, .slice A xs.length c, .bool n2, .slice B ys.length e0], .agg #[.bool n3, .slice A2 us.length c2, .bool n4, .slice B2 vs.length e2]] w (RetFracOwn2 w.heap.size w 0 0 1) := by
  have C1 := fun (V : World) (g' : Nat) (a1 : Raw V A c xs) (a2 : Raw V B e0 ys) (a3 : Raw V A2 c2 us) (a4 : Raw V B2 e2 vs) (hg : V.heap.size = g') => checks_two n1 n2 n3 n4 A B A2 B2 c e0 c2 e2 xs ys us vs V g' a1 a2 a3 a4 hg
  rw [hc] at C1
  have H1 := Hd C1
  clear C1
  clear hc
  have b0 := ((((Below.refl w.heap.size w).alloc (Nat.le_refl _) (.cells #[.bool n1, .slice A xs.length c, .bool n2, .slice B ys.length e0] 27)).alloc (by simp) (.cells #[.bool n3, .slice A2 us.length c2, .bool n4, .slice B2 vs.length e2] 27)).alloc (by simp; omega) (.cells #[.bool false, .slice none 0 0, .bool false, .slice none 0 0] 27))
  have p0 := ((Quad.new w (.bool n1) (.slice A xs.length c) (.bool n2) (.slice B ys.length e0)).alloc (.cells #[.bool n3, .slice A2 us.length c2, .bool n4, .slice B2 vs.length e2] 27)).alloc (.cells #[.bool false, .slice none 0 0, .bool false, .slice none 0 0] 27)
  have p1 := (Quad.new (w.alloc (.cells #[.bool n1, .slice A xs.length c, .bool n2, .slice B ys.length e0] 27)) (.bool n3) (.slice A2 us.length c2) (.bool n4) (.slice B2 vs.length e2)).alloc (.cells #[.bool false, .slice none 0 0, .bool false, .slice none 0 0] 27)
  have p2 := Quad.new ((w.alloc (.cells #[.bool n1, .slice A xs.length c, .bool n2, .slice B ys.length e0] 27)).alloc (.cells #[.bool n3, .slice A2 us.length c2, .bool n4, .slice B2 vs.length e2] 27)) (.bool false) (.slice none 0 0) (.bool false) (.slice none 0 0)
  simp only [World.size_alloc] at p1 p2
  have PX := Hd p0
  have PY := Hd p1
  have PR := Hd p2
  have RX := Hd (hx.below b0)
  have KX := Hd (kx.below b0)
  have RY := Hd (hy.below b0)
  have KY := Hd (ky.below b0)
  have HB := Hd b0
  clear b0 p0 p1 p2 hx kx hy ky
  go_enter Tryz.func116, Tryz.ntmps116
  obtain ⟨W, E⟩ : ∃ W, W = (((w.alloc (.cells #[.bool n1, .slice A xs.length c, .bool n2, .slice B ys.length e0] 27)).alloc (.cells #[.bool n3, .slice A2 us.length c2, .bool n4, .slice B2 vs.length e2] 27)).alloc (.cells #[.bool false, .slice none 0 0, .bool false, .slice none 0 0] 27)) := ⟨_, rfl⟩
  go_upto_region 1 with fail
  rw [← E] at PX PY PR RX KX RY KY  HB ⊢
  clear E
  have HS0 := Hd (show w.heap.size ≤ W.heap.size from HB.out.size)
  obtain ⟨l_x, x0, x1, x2, x3, -, -, -, -⟩ := PX.out.facts
  obtain ⟨l_y, y0, y1, y2, y3, -, -, -, -⟩ := PY.out.facts
  go_wp2_with fail
  refine (H1.out W _ RX.out KX.out RY.out KY.out rfl).mono ?_
  rintro e wx1 ⟨rfl, hb⟩
  clear l_x x0 x1 x2 x3
  clear l_y y0 y1 y2 y3
  have hb := ((Below.refl W.heap.size W).alloc (Nat.le_refl _) (.cells #[.bool n1, .slice A xs.length c, .bool n2, .slice B ys.length e0, .bool n3, .slice A2 us.length c2, .bool n4, .slice B2 vs.length e2] 27)).trans (hb.mono (by simp))
  have HS_wx1 := Hd (show W.heap.size ≤ wx1.heap.size from hb.size)
  have PX := Hd (PX.out.below hb)
  have PY := Hd (PY.out.below hb)
  have PR := Hd (PR.out.below hb)
  have RX := Hd (RX.out.below hb)
  have KX := Hd (KX.out.below hb)
  have RY := Hd (RY.out.below hb)
  have KY := Hd (KY.out.below hb)
  have HB := Hd (belowTo HB.out hb)
  obtain ⟨l_x, x0, x1, x2, x3, -, -, -, -⟩ := PX.out.facts
  obtain ⟨l_r, r0, r1, r2, r3, fr0, fr1, fr2, fr3⟩ := PR.out.facts
  have HQ := Hd (PR.out.store (.bool false) (.slice none 0 0) (.bool false) (.slice none 0 0))
  have HF := Hd (below4 HB.out (show w.heap.size ≤ w.heap.size + 1 + 1 by omega) (.bool false) (.slice none 0 0) (.bool false) (.slice none 0 0))
  go_wp2_with fail
  obtain ⟨_, k0, k1, k2, k3, _⟩ := HQ.out.facts
  exact bodyPost_ret (by simp [results, Tryz.results116, go_sem, k0, k1, k2, k3]) rfl ⟨_, rfl, FracOwn.nought _ _, HF.out⟩

theorem always_any (k : FuncId) (w : World) : Calls Tryz.prog 114 #[.func (.func k) #[] #[]] w fun e w' => ∃ v, e = .returned v ∧ AlwaysAt k v w' ∧ Below w.heap.size w w' := by
  have b0 := Hd ((Below.refl w.heap.size w).alloc (Nat.le_refl _) (.cells #[.func (.func k) #[] #[]] 98))
  have pb := Hd (Blk.new w 98 #[.func (.func k) #[] #[]])
  have hmf : ∀ (fn : Fn) (first cap : Array Value) (w : World), (Instr.makeFunc fn first cap).run Tryz.prog w = .ok (.func fn first cap) w := fun _ _ _ _ => rfl
  go_enter Tryz.func114, Tryz.ntmps114
  go_wp2_with fail
  go_ret
  exact ⟨_, rfl, ⟨_, rfl, pb.out⟩, b0.out⟩

theorem clos_sub (n1 n2 n3 n4 : Bool) (A B A2 B2 : Option Addr) (c e0 c2 e2 : Nat) (xs ys us vs : List Nat) (N D : Int) (C : ∀ (V : World), Raw V A c xs → Raw V B e0 ys → Raw V A2 c2 us → Raw V B2 e2 vs → Calls Tryz.prog 119 #[.agg #[.bool n1, .slice A xs.length c, .bool n2, .slice B ys.length e0], .agg #[.bool n3, .slice A2 us.length c2, .bool n4, .slice B2 vs.length e2]] V (RetFracIn V N D)) (g : Nat) (w : World) (hg : Blk w g 98 #[.func (.func 119) #[] #[]]) (hx : Raw w A c xs) (kx : Raw w B e0 ys) (hy : Raw w A2 c2 us) (ky : Raw w B2 e2 vs) :
    Calls Tryz.prog 193 #[.agg #[.bool n1, .slice A xs.length c, .bool n2, .slice B ys.length e0], .agg #[.bool n3, .slice A2 us.length c2, .bool n4, .slice B2 vs.length e2], .pointer (some ⟨g, 0, none⟩)] w (RetFracB w N D true) := by
  have H2 := Hd C
  clear C
  have b0 := ((((Below.refl w.heap.size w).alloc (Nat.le_refl _) (.cells #[.bool n1, .slice A xs.length c, .bool n2, .slice B ys.length e0] 27)).alloc (by simp) (.cells #[.bool n3, .slice A2 us.length c2, .bool n4, .slice B2 vs.length e2] 27)).alloc (by simp; omega) (.cells #[.bool false, .slice none 0 0, .bool false, .slice none 0 0] 27))
  have p0 := ((Quad.new w (.bool n1) (.slice A xs.length c) (.bool n2) (.slice B ys.length e0)).alloc (.cells #[.bool n3, .slice A2 us.length c2, .bool n4, .slice B2 vs.length e2] 27)).alloc (.cells #[.bool false, .slice none 0 0, .bool false, .slice none 0 0] 27)
  have p1 := (Quad.new (w.alloc (.cells #[.bool n1, .slice A xs.length c, .bool n2, .slice B ys.length e0] 27)) (.bool n3) (.slice A2 us.length c2) (.bool n4) (.slice B2 vs.length e2)).alloc (.cells #[.bool false, .slice none 0 0, .bool false, .slice none 0 0] 27)
  have p2 := Quad.new ((w.alloc (.cells #[.bool n1, .slice A xs.length c, .bool n2, .slice B ys.length e0] 27)).alloc (.cells #[.bool n3, .slice A2 us.length c2, .bool n4, .slice B2 vs.length e2] 27)) (.bool false) (.slice none 0 0) (.bool false) (.slice none 0 0)
  simp only [World.size_alloc] at p1 p2
  have PX := Hd p0
  have PY := Hd p1
  have PR := Hd p2
  have RX := Hd (hx.below b0)
  have KX := Hd (kx.below b0)
  have RY := Hd (hy.below b0)
  have KY := Hd (ky.below b0)
  have PG := Hd (hg.below b0 hg.lt)
  have HB := Hd b0
  clear b0 p0 p1 p2 hx kx hy ky hg
  go_enter Tryz.func193, Tryz.ntmps193
  obtain ⟨W, E⟩ : ∃ W, W = (((w.alloc (.cells #[.bool n1, .slice A xs.length c, .bool n2, .slice B ys.length e0] 27)).alloc (.cells #[.bool n3, .slice A2 us.length c2, .bool n4, .slice B2 vs.length e2] 27)).alloc (.cells #[.bool false, .slice none 0 0, .bool false, .slice none 0 0] 27)) := ⟨_, rfl⟩
  go_upto_region 1 with fail
  rw [← E] at PX PY PR RX KX RY KY PG HB ⊢
  clear E
  have HS0 := Hd (show w.heap.size ≤ W.heap.size from HB.out.size)
  obtain ⟨l_x, x0, x1, x2, x3, -, -, -, -⟩ := PX.out.facts
  obtain ⟨l_y, y0, y1, y2, y3, -, -, -, -⟩ := PY.out.facts
  have g0 := PG.out.cell 0
  simp at g0
  go_wp2_with fail
  refine (H2.out W RX.out KX.out RY.out KY.out).mono ?_
  rintro e wx1 ⟨v, rfl, hI, hb⟩
  clear l_x x0 x1 x2 x3
  clear l_y y0 y1 y2 y3
  clear g0
  obtain ⟨A7, c7, B7, e7, rfl, -⟩ := hI.form
  have O7 := Hd hI
  clear hI
  have HS_wx1 := Hd (show W.heap.size ≤ wx1.heap.size from hb.size)
  have PX := Hd (PX.out.below hb)
  have PY := Hd (PY.out.below hb)
  have PR := Hd (PR.out.below hb)
  have RX := Hd (RX.out.below hb)
  have KX := Hd (KX.out.below hb)
  have RY := Hd (RY.out.below hb)
  have KY := Hd (KY.out.below hb)
  have HB := Hd (belowTo HB.out hb)
  obtain ⟨l_r, r0, r1, r2, r3, fr0, fr1, fr2, fr3⟩ := PR.out.facts
  have HQ := Hd (PR.out.store (.bool (decide (N < 0))) (.slice A7 (natL N.natAbs).length c7) (.bool (decide (D < 0))) (.slice B7 (natL D.natAbs).length e7))
  have HF := Hd (below4 HB.out (show w.heap.size ≤ w.heap.size + 1 + 1 by omega) (.bool (decide (N < 0))) (.slice A7 (natL N.natAbs).length c7) (.bool (decide (D < 0))) (.slice B7 (natL D.natAbs).length e7))
  have HO := Hd (O7.out.quad PR.out (.bool (decide (N < 0))) (.slice A7 (natL N.natAbs).length c7) (.bool (decide (D < 0))) (.slice B7 (natL D.natAbs).length e7))
  go_wp2_with fail
  obtain ⟨_, k0, k1, k2, k3, _⟩ := HQ.out.facts
  exact bodyPost_ret (by simp [results, Tryz.results193, go_sem, k0, k1, k2, k3]) rfl ⟨_, rfl, HO.out, HF.out⟩

theorem clos_mul (n1 n2 n3 n4 : Bool) (A B A2 B2 : Option Addr) (c e0 c2 e2 : Nat) (xs ys us vs : List Nat) (N D : Int) (C : ∀ (V : World), Raw V A c xs → Raw V B e0 ys → Raw V A2 c2 us → Raw V B2 e2 vs → Calls Tryz.prog 115 #[.agg #[.bool n1, .slice A xs.length c, .bool n2, .slice B ys.length e0], .agg #[.bool n3, .slice A2 us.length c2, .bool n4, .slice B2 vs.length e2]] V (RetFracIn V N D)) (g : Nat) (w : World) (hg : Blk w g 98 #[.func (.func 115) #[] #[]]) (hx : Raw w A c xs) (kx : Raw w B e0 ys) (hy : Raw w A2 c2 us) (ky : Raw w B2 e2 vs) :
    Calls Tryz.prog 193 #[.agg #[.bool n1, .slice A xs.length c, .bool n2, .slice B ys.length e0], .agg #[.bool n3, .slice A2 us.length c2, .bool n4, .slice B2 vs.length e2], .pointer (some ⟨g, 0, none⟩)] w (RetFracB w N D true) := by
  have H2 := Hd C
  clear C
  have b0 := ((((Below.refl w.heap.size w).alloc (Nat.le_refl _) (.cells #[.bool n1, .slice A xs.length c, .bool n2, .slice B ys.length e0] 27)).alloc (by simp) (.cells #[.bool n3, .slice A2 us.length c2, .bool n4, .slice B2 vs.length e2] 27)).alloc (by simp; omega) (.cells #[.bool false, .slice none 0 0, .bool false, .slice none 0 0] 27))
  have p0 := ((Quad.new w (.bool n1) (.slice A xs.length c) (.bool n2) (.slice B ys.length e0)).alloc (.cells #[.bool n3, .slice A2 us.length c2, .bool n4, .slice B2 vs.length e2] 27)).alloc (.cells #[.bool false, .slice none 0 0, .bool false, .slice none 0 0] 27)
  have p1 := (Quad.new (w.alloc (.cells #[.bool n1, .slice A xs.length c, .bool n2, .slice B ys.length e0] 27)) (.bool n3) (.slice A2 us.length c2) (.bool n4) (.slice B2 vs.length e2)).alloc (.cells #[.bool false, .slice none 0 0, .bool false, .slice none 0 0] 27)
  have p2 := Quad.new ((w.alloc (.cells #[.bool n1, .slice A xs.length c, .bool n2, .slice B ys.length e0] 27)).alloc (.cells #[.bool n3, .slice A2 us.length c2, .bool n4, .slice B2 vs.length e2] 27)) (.bool false) (.slice none 0 0) (.bool false) (.slice none 0 0)
  simp only [World.size_alloc] at p1 p2
  have PX := Hd p0
  have PY := Hd p1
  have PR := Hd p2
  have RX := Hd (hx.below b0)
  have KX := Hd (kx.below b0)
  have RY := Hd (hy.below b0)
  have KY := Hd (ky.below b0)
  have PG := Hd (hg.below b0 hg.lt)
  have HB := Hd b0
  clear b0 p0 p1 p2 hx kx hy ky hg
  go_enter Tryz.func193, Tryz.ntmps193
  obtain ⟨W, E⟩ : ∃ W, W = (((w.alloc (.cells #[.bool n1, .slice A xs.length c, .bool n2, .slice B ys.length e0] 27)).alloc (.cells #[.bool n3, .slice A2 us.length c2, .bool n4, .slice B2 vs.length e2] 27)).alloc (.cells #[.bool false, .slice none 0 0, .bool false, .slice none 0 0] 27)) := ⟨_, rfl⟩
  go_upto_region 1 with fail
  rw [← E] at PX PY PR RX KX RY KY PG HB ⊢
  clear E
  have HS0 := Hd (show w.heap.size ≤ W.heap.size from HB.out.size)
  obtain ⟨l_x, x0, x1, x2, x3, -, -, -, -⟩ := PX.out.facts
  obtain ⟨l_y, y0, y1, y2, y3, -, -, -, -⟩ := PY.out.facts
  have g0 := PG.out.cell 0
  simp at g0
  go_wp2_with fail
  refine (H2.out W RX.out KX.out RY.out KY.out).mono ?_
  rintro e wx1 ⟨v, rfl, hI, hb⟩
  clear l_x x0 x1 x2 x3
  clear l_y y0 y1 y2 y3
  clear g0
  obtain ⟨A7, c7, B7, e7, rfl, -⟩ := hI.form
  have O7 := Hd hI
  clear hI
  have HS_wx1 := Hd (show W.heap.size ≤ wx1.heap.size from hb.size)
  have PX := Hd (PX.out.below hb)
  have PY := Hd (PY.out.below hb)
  have PR := Hd (PR.out.below hb)
  have RX := Hd (RX.out.below hb)
  have KX := Hd (KX.out.below hb)
  have RY := Hd (RY.out.below hb)
  have KY := Hd (KY.out.below hb)
  have HB := Hd (belowTo HB.out hb)
  obtain ⟨l_r, r0, r1, r2, r3, fr0, fr1, fr2, fr3⟩ := PR.out.facts
  have HQ := Hd (PR.out.store (.bool (decide (N < 0))) (.slice A7 (natL N.natAbs).length c7) (.bool (decide (D < 0))) (.slice B7 (natL D.natAbs).length e7))
  have HF := Hd (below4 HB.out (show w.heap.size ≤ w.heap.size + 1 + 1 by omega) (.bool (decide (N < 0))) (.slice A7 (natL N.natAbs).length c7) (.bool (decide (D < 0))) (.slice B7 (natL D.natAbs).length e7))
  have HO := Hd (O7.out.quad PR.out (.bool (decide (N < 0))) (.slice A7 (natL N.natAbs).length c7) (.bool (decide (D < 0))) (.slice B7 (natL D.natAbs).length e7))
  go_wp2_with fail
  obtain ⟨_, k0, k1, k2, k3, _⟩ := HQ.out.facts
  exact bodyPost_ret (by simp [results, Tryz.results193, go_sem, k0, k1, k2, k3]) rfl ⟨_, rfl, HO.out, HF.out⟩

theorem do_always (k : FuncId) (g : Nat) (n1 n2 n3 n4 : Bool) (A B A2 B2 : Option Addr) (c e0 c2 e2 : Nat) (xs ys us vs : List Nat) (N D : Int) (C : ∀ (V : World), Blk V g 98 #[.func (.func k) #[] #[]] → Raw V A c xs → Raw V B e0 ys → Raw V A2 c2 us → Raw V B2 e2 vs → Calls Tryz.prog 193 #[.agg #[.bool n1, .slice A xs.length c, .bool n2, .slice B ys.length e0], .agg #[.bool n3, .slice A2 us.length c2, .bool n4, .slice B2 vs.length e2], .pointer (some ⟨g, 0, none⟩)] V (RetFracB V N D true)) (w : World) (hx : Raw w A c xs) (kx : Raw w B e0 ys) (hy : Raw w A2 c2 us) (ky : Raw w B2 e2 vs) (hc : (chkE n1 n2 xs ys == 0 && chkE n3 n4 us vs == 0) = true) (hg : Blk w g 98 #[.func (.func k) #[] #[]]) :
    Calls Tryz.prog 116 #[.func (.func 193) #[] #[.pointer (some ⟨g, 0, none⟩)], .agg #[.bool n1, .slice A xs.length c, .bool n2, .slice B ys.length e0], .agg #[.bool n3, .slice A2 us.length c2, .bool n4, .slice B2 vs.length e2]] w (RetFracOwn2 w.heap.size w (ansN N D) (ansD N D) (ansK N D)) := by
  have C1 := fun (V : World) (g' : Nat) (a1 : Raw V A c xs) (a2 : Raw V B e0 ys) (a3 : Raw V A2 c2 us) (a4 : Raw V B2 e2 vs) (hg : V.heap.size = g') => checks_two n1 n2 n3 n4 A B A2 B2 c e0 c2 e2 xs ys us vs V g' a1 a2 a3 a4 hg
  rw [hc] at C1
  have H1 := Hd C1
  clear C1
  have C3 := fun (V : World) (A' B' : Option Addr) (c' e' : Nat) (h : Raw V A' c' (natL N.natAbs)) (g : Raw V B' e' (natL D.natAbs)) => frac_answered N D A' B' c' e' V h g
  obtain ⟨N9, hN9⟩ : ∃ k : Int, k = ansN N D := ⟨_, rfl⟩
  obtain ⟨D9, hD9⟩ : ∃ k : Int, k = ansD N D := ⟨_, rfl⟩
  obtain ⟨K9, hK9⟩ : ∃ k : Int, k = ansK N D := ⟨_, rfl⟩
  rw [← hN9, ← hD9, ← hK9] at C3 ⊢
  have H3 := Hd C3
  clear hN9 hD9 hK9 C3
  have H2 := Hd C
  clear C hc
  have b0 := ((((Below.refl w.heap.size w).alloc (Nat.le_refl _) (.cells #[.bool n1, .slice A xs.length c, .bool n2, .slice B ys.length e0] 27)).alloc (by simp) (.cells #[.bool n3, .slice A2 us.length c2, .bool n4, .slice B2 vs.length e2] 27)).alloc (by simp; omega) (.cells #[.bool false, .slice none 0 0, .bool false, .slice none 0 0] 27))
  have p0 := ((Quad.new w (.bool n1) (.slice A xs.length c) (.bool n2) (.slice B ys.length e0)).alloc (.cells #[.bool n3, .slice A2 us.length c2, .bool n4, .slice B2 vs.length e2] 27)).alloc (.cells #[.bool false, .slice none 0 0, .bool false, .slice none 0 0] 27)
  have p1 := (Quad.new (w.alloc (.cells #[.bool n1, .slice A xs.length c, .bool n2, .slice B ys.length e0] 27)) (.bool n3) (.slice A2 us.length c2) (.bool n4) (.slice B2 vs.length e2)).alloc (.cells #[.bool false, .slice none 0 0, .bool false, .slice none 0 0] 27)
  have p2 := Quad.new ((w.alloc (.cells #[.bool n1, .slice A xs.length c, .bool n2, .slice B ys.length e0] 27)).alloc (.cells #[.bool n3, .slice A2 us.length c2, .bool n4, .slice B2 vs.length e2] 27)) (.bool false) (.slice none 0 0) (.bool false) (.slice none 0 0)
  simp only [World.size_alloc] at p1 p2
  have PX := Hd p0
  have PY := Hd p1
  have PR := Hd p2
  have RX := Hd (hx.below b0)
  have KX := Hd (kx.below b0)
  have RY := Hd (hy.below b0)
  have KY := Hd (ky.below b0)
  have PG := Hd (hg.below b0 hg.lt)
  have HB := Hd b0
  clear b0 p0 p1 p2 hx kx hy ky hg
  go_enter Tryz.func116, Tryz.ntmps116
  obtain ⟨W, E⟩ : ∃ W, W = (((w.alloc (.cells #[.bool n1, .slice A xs.length c, .bool n2, .slice B ys.length e0] 27)).alloc (.cells #[.bool n3, .slice A2 us.length c2, .bool n4, .slice B2 vs.length e2] 27)).alloc (.cells #[.bool false, .slice none 0 0, .bool false, .slice none 0 0] 27)) := ⟨_, rfl⟩
  go_upto_region 1 with fail
  rw [← E] at PX PY PR RX KX RY KY PG HB ⊢
  clear E
  have HS0 := Hd (show w.heap.size ≤ W.heap.size from HB.out.size)
  have PG := Hd (BlkH.mk PG.out)
  obtain ⟨l_x, x0, x1, x2, x3, -, -, -, -⟩ := PX.out.facts
  obtain ⟨l_y, y0, y1, y2, y3, -, -, -, -⟩ := PY.out.facts
  go_wp2_with fail
  refine (H1.out W _ RX.out KX.out RY.out KY.out rfl).mono ?_
  rintro e wx1 ⟨rfl, hb⟩
  clear l_x x0 x1 x2 x3
  clear l_y y0 y1 y2 y3
  have hb := ((Below.refl W.heap.size W).alloc (Nat.le_refl _) (.cells #[.bool n1, .slice A xs.length c, .bool n2, .slice B ys.length e0, .bool n3, .slice A2 us.length c2, .bool n4, .slice B2 vs.length e2] 27)).trans (hb.mono (by simp))
  have HS_wx1 := Hd (show W.heap.size ≤ wx1.heap.size from hb.size)
  have PX := Hd (PX.out.below hb)
  have PY := Hd (PY.out.below hb)
  have PR := Hd (PR.out.below hb)
  have RX := Hd (RX.out.below hb)
  have KX := Hd (KX.out.below hb)
  have RY := Hd (RY.out.below hb)
  have KY := Hd (KY.out.below hb)
  have PG := Hd (PG.out.below hb)
  have HB := Hd (belowTo HB.out hb)
  obtain ⟨l_x, x0, x1, x2, x3, -, -, -, -⟩ := PX.out.facts
  obtain ⟨l_y, y0, y1, y2, y3, -, -, -, -⟩ := PY.out.facts
  go_wp2_with fail
  refine (H2.out wx1 PG.out.blk RX.out KX.out RY.out KY.out).mono ?_
  rintro e wx2 ⟨v, rfl, hI, hb⟩
  clear l_x x0 x1 x2 x3
  clear l_y y0 y1 y2 y3
  obtain ⟨A7, c7, B7, e7, rfl, -⟩ := hI.form
  have O7 := Hd hI
  clear hI
  have HS_wx2 := Hd (show wx1.heap.size ≤ wx2.heap.size from hb.size)
  have PX := Hd (PX.out.below hb)
  have PY := Hd (PY.out.below hb)
  have PR := Hd (PR.out.below hb)
  have RX := Hd (RX.out.below hb)
  have KX := Hd (KX.out.below hb)
  have RY := Hd (RY.out.below hb)
  have KY := Hd (KY.out.below hb)
  have PG := Hd (PG.out.below hb)
  have HB := Hd (belowTo HB.out hb)
  have ha := (Below.refl wx2.heap.size wx2).alloc (Nat.le_refl _) (.cells #[.bool (decide (N < 0)), .slice A7 (natL N.natAbs).length c7, .bool (decide (D < 0)), .slice B7 (natL D.natAbs).length e7] 27)
  have hn := Quad.new wx2 (.bool (decide (N < 0))) (.slice A7 (natL N.natAbs).length c7) (.bool (decide (D < 0))) (.slice B7 (natL D.natAbs).length e7)
  have hz : (wx2.alloc (.cells #[.bool (decide (N < 0)), .slice A7 (natL N.natAbs).length c7, .bool (decide (D < 0)), .slice B7 (natL D.natAbs).length e7] 27)).heap.size = wx2.heap.size + 1 := by simp
  go_upto_region 4 with fail
  obtain ⟨wy3, E⟩ : ∃ W, W = wx2.alloc (.cells #[.bool (decide (N < 0)), .slice A7 (natL N.natAbs).length c7, .bool (decide (D < 0)), .slice B7 (natL D.natAbs).length e7] 27) := ⟨_, rfl⟩
  obtain ⟨q3, hq⟩ : ∃ q, q = wx2.heap.size := ⟨_, rfl⟩
  rw [← E] at ha
  rw [← E, ← hq] at hn hz ⊢
  have HZ_wy3 := Hd (And.intro hq hz)
  have P7 := Hd hn
  have PR := Hd (PR.out.below ha)
  have O7 := Hd (O7.out.below ha)
  have HB := Hd (belowTo HB.out ha)
  clear ha hn hz hq E
  have R7 := Hd O7.out.at_
  obtain ⟨A0, c0, B0, e9, he, r71, r72⟩ := R7.out.form
  simp only [Value.agg.injEq, Array.mk.injEq, List.cons.injEq, Value.slice.injEq, and_true, true_and] at he
  obtain ⟨⟨rfl, rfl⟩, rfl, rfl⟩ := he
  have R71 := Hd r71
  have R72 := Hd r72
  clear R7 r71 r72
  have hsy := Hd (show w.heap.size ≤ wy3.heap.size from HB.out.size)
  obtain ⟨l_z, z0, z1, z2, z3, -, -, -, -⟩ := P7.out.facts
  go_wp2_with fail
  refine (H3.out wy3 A7 B7 c7 e7 R71.out R72.out).mono ?_
  rintro e wx4 ⟨v, rfl, hI, hb⟩
  clear l_z z0 z1 z2 z3
  obtain ⟨A8, c8, B8, e8, rfl, -⟩ := hI.form
  have O8 := Hd hI
  clear hI R71 R72
  have HS_wx4 := Hd (show wy3.heap.size ≤ wx4.heap.size from hb.size)
  have PR := Hd (PR.out.below hb)
  have HB := Hd (belowTo HB.out hb)
  obtain ⟨l_r, r0, r1, r2, r3, fr0, fr1, fr2, fr3⟩ := PR.out.facts
  have HQ := Hd (PR.out.store (.bool (decide (N9 < 0))) (.slice A8 (natL N9.natAbs).length c8) (.bool (decide (D9 < 0))) (.slice B8 (natL D9.natAbs).length e8))
  have HF := Hd (below4 HB.out (show w.heap.size ≤ w.heap.size + 1 + 1 by omega) (.bool (decide (N9 < 0))) (.slice A8 (natL N9.natAbs).length c8) (.bool (decide (D9 < 0))) (.slice B8 (natL D9.natAbs).length e8))
  have HO := Hd (O8.out.quad PR.out (.bool (decide (N9 < 0))) (.slice A8 (natL N9.natAbs).length c8) (.bool (decide (D9 < 0))) (.slice B8 (natL D9.natAbs).length e8))
  go_wp2_with fail
  obtain ⟨_, k0, k1, k2, k3, _⟩ := HQ.out.facts
  exact bodyPost_ret (by simp [results, Tryz.results116, go_sem, k0, k1, k2, k3]) rfl ⟨_, rfl, HO.out.base hsy.out, HF.out⟩

theorem frac_Sub_any (n1 n2 n3 n4 : Bool) (A B A2 B2 : Option Addr) (c e0 c2 e2 : Nat) (xs ys us vs : List Nat) (N D K : Int) (C : ∀ (g : Nat) (V : World), Blk V g 98 #[.func (.func 119) #[] #[]] → Raw V A c xs → Raw V B e0 ys → Raw V A2 c2 us → Raw V B2 e2 vs → Calls Tryz.prog 116 #[.func (.func 193) #[] #[.pointer (some ⟨g, 0, none⟩)], .agg #[.bool n1, .slice A xs.length c, .bool n2, .slice B ys.length e0], .agg #[.bool n3, .slice A2 us.length c2, .bool n4, .slice B2 vs.length e2]] V (RetFracOwn2 V.heap.size V N D K)) (w : World) (hx : Raw w A c xs) (kx : Raw w B e0 ys) (hy : Raw w A2 c2 us) (ky : Raw w B2 e2 vs) :
    Calls Tryz.prog 37 #[.agg #[.bool n1, .slice A xs.length c, .bool n2, .slice B ys.length e0], .agg #[.bool n3, .slice A2 us.length c2, .bool n4, .slice B2 vs.length e2]] w (RetFracOwn2 w.heap.size w N D K) := by
  have RX0 := Hd hx
  have KX0 := Hd kx
  have RY0 := Hd hy
  have KY0 := Hd ky
  have H2 := Hd C
  clear C
  have b0 := ((((Below.refl w.heap.size w).alloc (Nat.le_refl _) (.cells #[.bool n1, .slice A xs.length c, .bool n2, .slice B ys.length e0] 27)).alloc (by simp) (.cells #[.bool n3, .slice A2 us.length c2, .bool n4, .slice B2 vs.length e2] 27)).alloc (by simp; omega) (.cells #[.bool false, .slice none 0 0, .bool false, .slice none 0 0] 27))
  have p0 := ((Quad.new w (.bool n1) (.slice A xs.length c) (.bool n2) (.slice B ys.length e0)).alloc (.cells #[.bool n3, .slice A2 us.length c2, .bool n4, .slice B2 vs.length e2] 27)).alloc (.cells #[.bool false, .slice none 0 0, .bool false, .slice none 0 0] 27)
  have p1 := (Quad.new (w.alloc (.cells #[.bool n1, .slice A xs.length c, .bool n2, .slice B ys.length e0] 27)) (.bool n3) (.slice A2 us.length c2) (.bool n4) (.slice B2 vs.length e2)).alloc (.cells #[.bool false, .slice none 0 0, .bool false, .slice none 0 0] 27)
  have p2 := Quad.new ((w.alloc (.cells #[.bool n1, .slice A xs.length c, .bool n2, .slice B ys.length e0] 27)).alloc (.cells #[.bool n3, .slice A2 us.length c2, .bool n4, .slice B2 vs.length e2] 27)) (.bool false) (.slice none 0 0) (.bool false) (.slice none 0 0)
  simp only [World.size_alloc] at p1 p2
  have PX := Hd p0
  have PY := Hd p1
  have PR := Hd p2
  have RX := Hd (hx.below b0)
  have KX := Hd (kx.below b0)
  have RY := Hd (hy.below b0)
  have KY := Hd (ky.below b0)
  have HB := Hd b0
  clear b0 p0 p1 p2 hx kx hy ky
  go_enter Tryz.func37, Tryz.ntmps37
  obtain ⟨W, E⟩ : ∃ W, W = (((w.alloc (.cells #[.bool n1, .slice A xs.length c, .bool n2, .slice B ys.length e0] 27)).alloc (.cells #[.bool n3, .slice A2 us.length c2, .bool n4, .slice B2 vs.length e2] 27)).alloc (.cells #[.bool false, .slice none 0 0, .bool false, .slice none 0 0] 27)) := ⟨_, rfl⟩
  go_upto_region 1 with fail
  rw [← E] at PX PY PR RX KX RY KY  HB ⊢
  clear E
  have HS0 := Hd (show w.heap.size ≤ W.heap.size from HB.out.size)
  have hsz := PR.out.blk.lt
  go_wp2_with fail
  refine wp_region_free [.any false (AlwaysAt 119) [], .val (.agg #[.bool n1, .slice A xs.length c, .bool n2, .slice B ys.length e0]) [], .val (.agg #[.bool n3, .slice A2 us.length c2, .bool n4, .slice B2 vs.length e2]) [], .any false (TupF w.heap.size N D K) [0], .any false (fun u V => FracOwn V w.heap.size u N D) [3], .val (.int .i64 K) [3], .old (w.heap.size + 1 + 1) 27 #[.bool false, .slice none 0 0, .bool false, .slice none 0 0] 0 4 4 [], .val (.int .i64 K) []] (w.heap.size + 1 + 1) W [27] blkInt _ mixedOrders2 (by omega) (Below.refl _ _) (KeptV.refl _ _ _) rfl (by kernel_rfl) (by kernel_rfl) (by kernel_rfl) (by kernel_rfl) (by kernel_rfl) (by kernel_rfl) (by kernel_rfl) (by kernel_rfl) rfl (by simp [oldsF]) ?_ ?_ ?_ ?_
  · simp only [StableF, and_true]
    exact ⟨fun u V V' h k => h.kept k (by decide), fun u V V' h k => h.kept k (by decide), fun u V V' h k => h.kept k (by decide)⟩
  · simp only [OldsF, and_true]
    exact ⟨Nat.le_refl _, PR.out.blk.lt, PR.out.blk, by simp⟩
  · simp (maxSteps := 4000000) [StepsF, DepF, freeAct, fill, pairs]
    repeat' (first | apply And.intro | (intro (u : Value)) | (intro (u : Nat)))
    all_goals try exact ⟨_, _, _, rfl, rfl, rfl, rfl, fracInfo⟩
    all_goals first
    | (intro V hV hK
       have qx : Quad V (w.heap.size) _ _ _ _ := ⟨PX.out.blk.below hV (by omega)⟩
       have qy : Quad V (w.heap.size + 1) _ _ _ _ := ⟨PY.out.blk.below hV (by omega)⟩
       obtain ⟨-, a_x, b_x, c_x, d_x, -, -, -, -⟩ := qx.facts
       obtain ⟨-, a_y, b_y, c_y, d_y, -, -, -, -⟩ := qy.facts
       clear hV hK qx qy
       go_simp
       first
       | exact Below.refl _ _
       | ((with_reducible refine (always_any 119 V).mono ?_); rintro e w' ⟨v, rfl, hv, hb⟩; exact ⟨hv, hb⟩))
    | (intro V hV hK h1
       have hb0 := HB.out.trans (hV.mono (by omega))
       have r1 := RX0.out.below hb0
       have r2 := KX0.out.below hb0
       have r3 := RY0.out.below hb0
       have r4 := KY0.out.below hb0
       have hvs : w.heap.size ≤ V.heap.size := hb0.size
       first
       | (obtain ⟨g, rfl, hg⟩ := h1.form
          clear hV hK h1 hb0
          go_simp
          (with_reducible refine (H2.out g V hg r1 r2 r3 r4).mono ?_)
          rintro e w' ⟨v, rfl, hv, hb⟩
          exact ⟨⟨v, rfl, hv.base hvs⟩, hb⟩)
       | (obtain ⟨v, rfl, hv⟩ := h1.form
          clear hV hK h1 hb0
          go_simp
          first
          | exact ⟨hv, Below.refl _ _⟩
          | exact Below.refl _ _))
    | exact fun _ _ _ (h : FracOwn _ _ _ _ _) => h.cells
  · simp [EndF, FactsF, freeAct, fill, pairs]
    intro u1 u2 u3 V hV hK h1 h2 h3 bq _ _ _
    have HF := Hd h3
    obtain ⟨A6, c6, A7, c7, rfl, -⟩ := h3.form
    simp [setAll, Value.cells] at bq
    have k0 := bq.cell 0
    have k1 := bq.cell 1
    have k2 := bq.cell 2
    have k3 := bq.cell 3
    simp at k0 k1 k2 k3
    have HB9 := Hd (HB.out.trans (hV.mono (by omega)))
    clear h1 h2 h3 hV hK bq
    go_wp2_with fail
    exact bodyPost_ret (by simp [results, Tryz.results37, go_sem, k0, k1, k2, k3]) rfl ⟨_, rfl, HF.out, HB9.out⟩
theorem frac_Sub_good (n d m f : Int) (A B A2 B2 : Option Addr) (c e0 c2 e2 : Nat) (w : World) (hx : Raw w A c (natL n.natAbs)) (kx : Raw w B e0 (natL d.natAbs)) (hy : Raw w A2 c2 (natL m.natAbs)) (ky : Raw w B2 e2 (natL f.natAbs)) (f1 : Fine n d) (f2 : Fine m f) :
    Calls Tryz.prog 37 #[.agg #[.bool (decide (n < 0)), .slice A (natL n.natAbs).length c, .bool (decide (d < 0)), .slice B (natL d.natAbs).length e0], .agg #[.bool (decide (m < 0)), .slice A2 (natL m.natAbs).length c2, .bool (decide (f < 0)), .slice B2 (natL f.natAbs).length e2]] w (RetFracOwn2 w.heap.size w (ansN (subN n d m f) (subD n d m f)) (ansD (subN n d m f) (subD n d m f)) (ansK (subN n d m f) (subD n d m f))) := by
  have hl1 : lz n ≤ 2048 := f1.num
  have hl2 : lz d ≤ 2048 := f1.den
  have hl3 : lz m ≤ 2048 := f2.num
  have hl4 : lz f ≤ 2048 := f2.den
  have hp1 := f1.pos
  have hp2 := f2.pos
  exact frac_Sub_any _ _ _ _ A B A2 B2 c e0 c2 e2 _ _ _ _ _ _ _ (fun g V hg a1 a2 a3 a4 => do_always 119 g _ _ _ _ A B A2 B2 c e0 c2 e2 _ _ _ _ _ _ (fun V hg a1 a2 a3 a4 => clos_sub _ _ _ _ A B A2 B2 c e0 c2 e2 _ _ _ _ _ _ (fun V a1 a2 a3 a4 => ratio_Minus n d m f A B A2 B2 c e0 c2 e2 V a1 a2 a3 a4 (by omega) (by omega) (by omega) (by omega) (by omega) (by omega)) g V hg a1 a2 a3 a4) V a1 a2 a3 a4 (by rw [f1.chk, f2.chk]; rfl) hg) w hx kx hy ky

theorem frac_Mul_any (n1 n2 n3 n4 : Bool) (A B A2 B2 : Option Addr) (c e0 c2 e2 : Nat) (xs ys us vs : List Nat) (N D K : Int) (C : ∀ (g : Nat) (V : World), Blk V g 98 #[.func (.func 115) #[] #[]] → Raw V A c xs → Raw V B e0 ys → Raw V A2 c2 us → Raw V B2 e2 vs → Calls Tryz.prog 116 #[.func (.func 193) #[] #[.pointer (some ⟨g, 0, none⟩)], .agg #[.bool n1, .slice A xs.length c, .bool n2, .slice B ys.length e0], .agg #[.bool n3, .slice A2 us.length c2, .bool n4, .slice B2 vs.length e2]] V (RetFracOwn2 V.heap.size V N D K)) (w : World) (hx : Raw w A c xs) (kx : Raw w B e0 ys) (hy : Raw w A2 c2 us) (ky : Raw w B2 e2 vs) :
    Calls Tryz.prog 34 #[.agg #[.bool n1, .slice A xs.length c, .bool n2, .slice B ys.length e0], .agg #[.bool n3, .slice A2 us.length c2, .bool n4, .slice B2 vs.length e2]] w (RetFracOwn2 w.heap.size w N D K) := by
  have RX0 := Hd hx
  have KX0 := Hd kx
  have RY0 := Hd hy
  have KY0 := Hd ky
  have H2 := Hd C
  clear C
  have b0 := ((((Below.refl w.heap.size w).alloc (Nat.le_refl _) (.cells #[.bool n1, .slice A xs.length c, .bool n2, .slice B ys.length e0] 27)).alloc (by simp) (.cells #[.bool n3, .slice A2 us.length c2, .bool n4, .slice B2 vs.length e2] 27)).alloc (by simp; omega) (.cells #[.bool false, .slice none 0 0, .bool false, .slice none 0 0] 27))
  have p0 := ((Quad.new w (.bool n1) (.slice A xs.length c) (.bool n2) (.slice B ys.length e0)).alloc (.cells #[.bool n3, .slice A2 us.length c2, .bool n4, .slice B2 vs.length e2] 27)).alloc (.cells #[.bool false, .slice none 0 0, .bool false, .slice none 0 0] 27)
  have p1 := (Quad.new (w.alloc (.cells #[.bool n1, .slice A xs.length c, .bool n2, .slice B ys.length e0] 27)) (.bool n3) (.slice A2 us.length c2) (.bool n4) (.slice B2 vs.length e2)).alloc (.cells #[.bool false, .slice none 0 0, .bool false, .slice none 0 0] 27)
  have p2 := Quad.new ((w.alloc (.cells #[.bool n1, .slice A xs.length c, .bool n2, .slice B ys.length e0] 27)).alloc (.cells #[.bool n3, .slice A2 us.length c2, .bool n4, .slice B2 vs.length e2] 27)) (.bool false) (.slice none 0 0) (.bool false) (.slice none 0 0)
  simp only [World.size_alloc] at p1 p2
  have PX := Hd p0
  have PY := Hd p1
  have PR := Hd p2
  have RX := Hd (hx.below b0)
  have KX := Hd (kx.below b0)
  have RY := Hd (hy.below b0)
  have KY := Hd (ky.below b0)
  have HB := Hd b0
  clear b0 p0 p1 p2 hx kx hy ky
  go_enter Tryz.func34, Tryz.ntmps34
  obtain ⟨W, E⟩ : ∃ W, W = (((w.alloc (.cells #[.bool n1, .slice A xs.length c, .bool n2, .slice B ys.length e0] 27)).alloc (.cells #[.bool n3, .slice A2 us.length c2, .bool n4, .slice B2 vs.length e2] 27)).alloc (.cells #[.bool false, .slice none 0 0, .bool false, .slice none 0 0] 27)) := ⟨_, rfl⟩
  go_upto_region 1 with fail
  rw [← E] at PX PY PR RX KX RY KY  HB ⊢
  clear E
  have HS0 := Hd (show w.heap.size ≤ W.heap.size from HB.out.size)
  have hsz := PR.out.blk.lt
  go_wp2_with fail
  refine wp_region_free [.any false (AlwaysAt 115) [], .val (.agg #[.bool n1, .slice A xs.length c, .bool n2, .slice B ys.length e0]) [], .val (.agg #[.bool n3, .slice A2 us.length c2, .bool n4, .slice B2 vs.length e2]) [], .any false (TupF w.heap.size N D K) [0], .any false (fun u V => FracOwn V w.heap.size u N D) [3], .val (.int .i64 K) [3], .old (w.heap.size + 1 + 1) 27 #[.bool false, .slice none 0 0, .bool false, .slice none 0 0] 0 4 4 [], .val (.int .i64 K) []] (w.heap.size + 1 + 1) W [27] blkInt _ mixedOrders2 (by omega) (Below.refl _ _) (KeptV.refl _ _ _) rfl (by kernel_rfl) (by kernel_rfl) (by kernel_rfl) (by kernel_rfl) (by kernel_rfl) (by kernel_rfl) (by kernel_rfl) (by kernel_rfl) rfl (by simp [oldsF]) ?_ ?_ ?_ ?_
  · simp only [StableF, and_true]
    exact ⟨fun u V V' h k => h.kept k (by decide), fun u V V' h k => h.kept k (by decide), fun u V V' h k => h.kept k (by decide)⟩
  · simp only [OldsF, and_true]
    exact ⟨Nat.le_refl _, PR.out.blk.lt, PR.out.blk, by simp⟩
  · simp (maxSteps := 4000000) [StepsF, DepF, freeAct, fill, pairs]
    repeat' (first | apply And.intro | (intro (u : Value)) | (intro (u : Nat)))
    all_goals try exact ⟨_, _, _, rfl, rfl, rfl, rfl, fracInfo⟩
    all_goals first
    | (intro V hV hK
       have qx : Quad V (w.heap.size) _ _ _ _ := ⟨PX.out.blk.below hV (by omega)⟩
       have qy : Quad V (w.heap.size + 1) _ _ _ _ := ⟨PY.out.blk.below hV (by omega)⟩
       obtain ⟨-, a_x, b_x, c_x, d_x, -, -, -, -⟩ := qx.facts
       obtain ⟨-, a_y, b_y, c_y, d_y, -, -, -, -⟩ := qy.facts
       clear hV hK qx qy
       go_simp
       first
       | exact Below.refl _ _
       | ((with_reducible refine (always_any 115 V).mono ?_); rintro e w' ⟨v, rfl, hv, hb⟩; exact ⟨hv, hb⟩))
    | (intro V hV hK h1
       have hb0 := HB.out.trans (hV.mono (by omega))
       have r1 := RX0.out.below hb0
       have r2 := KX0.out.below hb0
       have r3 := RY0.out.below hb0
       have r4 := KY0.out.below hb0
       have hvs : w.heap.size ≤ V.heap.size := hb0.size
       first
       | (obtain ⟨g, rfl, hg⟩ := h1.form
          clear hV hK h1 hb0
          go_simp
          (with_reducible refine (H2.out g V hg r1 r2 r3 r4).mono ?_)
          rintro e w' ⟨v, rfl, hv, hb⟩
          exact ⟨⟨v, rfl, hv.base hvs⟩, hb⟩)
       | (obtain ⟨v, rfl, hv⟩ := h1.form
          clear hV hK h1 hb0
          go_simp
          first
          | exact ⟨hv, Below.refl _ _⟩
          | exact Below.refl _ _))
    | exact fun _ _ _ (h : FracOwn _ _ _ _ _) => h.cells
  · simp [EndF, FactsF, freeAct, fill, pairs]
    intro u1 u2 u3 V hV hK h1 h2 h3 bq _ _ _
    have HF := Hd h3
    obtain ⟨A6, c6, A7, c7, rfl, -⟩ := h3.form
    simp [setAll, Value.cells] at bq
    have k0 := bq.cell 0
    have k1 := bq.cell 1
    have k2 := bq.cell 2
    have k3 := bq.cell 3
    simp at k0 k1 k2 k3
    have HB9 := Hd (HB.out.trans (hV.mono (by omega)))
    clear h1 h2 h3 hV hK bq
    go_wp2_with fail
    exact bodyPost_ret (by simp [results, Tryz.results34, go_sem, k0, k1, k2, k3]) rfl ⟨_, rfl, HF.out, HB9.out⟩
theorem frac_Mul_bad (n1 n2 n3 n4 : Bool) (A B A2 B2 : Option Addr) (c e0 c2 e2 : Nat) (xs ys us vs : List Nat) (w : World) (hx : Raw w A c xs) (kx : Raw w B e0 ys) (hy : Raw w A2 c2 us) (ky : Raw w B2 e2 vs) (hc : (chkE n1 n2 xs ys == 0 && chkE n3 n4 us vs == 0) = false) :
    Calls Tryz.prog 34 #[.agg #[.bool n1, .slice A xs.length c, .bool n2, .slice B ys.length e0], .agg #[.bool n3, .slice A2 us.length c2, .bool n4, .slice B2 vs.length e2]] w (RetFracOwn2 w.heap.size w 0 0 1) :=
  frac_Mul_any n1 n2 n3 n4 A B A2 B2 c e0 c2 e2 xs ys us vs 0 0 1 (fun _ V _ a1 a2 a3 a4 => do_bad _ n1 n2 n3 n4 A B A2 B2 c e0 c2 e2 xs ys us vs V a1 a2 a3 a4 hc) w hx kx hy ky
theorem frac_Mul_good (n d m f : Int) (A B A2 B2 : Option Addr) (c e0 c2 e2 : Nat) (w : World) (hx : Raw w A c (natL n.natAbs)) (kx : Raw w B e0 (natL d.natAbs)) (hy : Raw w A2 c2 (natL m.natAbs)) (ky : Raw w B2 e2 (natL f.natAbs)) (f1 : Fine n d) (f2 : Fine m f) :
    Calls Tryz.prog 34 #[.agg #[.bool (decide (n < 0)), .slice A (natL n.natAbs).length c, .bool (decide (d < 0)), .slice B (natL d.natAbs).length e0], .agg #[.bool (decide (m < 0)), .slice A2 (natL m.natAbs).length c2, .bool (decide (f < 0)), .slice B2 (natL f.natAbs).length e2]] w (RetFracOwn2 w.heap.size w (ansN (mulN n d m f) (mulD n d m f)) (ansD (mulN n d m f) (mulD n d m f)) (ansK (mulN n d m f) (mulD n d m f))) := by
  have hl1 : lz n ≤ 2048 := f1.num
  have hl2 : lz d ≤ 2048 := f1.den
  have hl3 : lz m ≤ 2048 := f2.num
  have hl4 : lz f ≤ 2048 := f2.den
  have hp1 := f1.pos
  have hp2 := f2.pos
  exact frac_Mul_any _ _ _ _ A B A2 B2 c e0 c2 e2 _ _ _ _ _ _ _ (fun g V hg a1 a2 a3 a4 => do_always 115 g _ _ _ _ A B A2 B2 c e0 c2 e2 _ _ _ _ _ _ (fun V hg a1 a2 a3 a4 => clos_mul _ _ _ _ A B A2 B2 c e0 c2 e2 _ _ _ _ _ _ (fun V a1 a2 a3 a4 => ratio_Times n d m f A B A2 B2 c e0 c2 e2 V a1 a2 a3 a4 (by omega) (by omega) (by omega) (by omega) (by omega) (by omega)) g V hg a1 a2 a3 a4) V a1 a2 a3 a4 (by rw [f1.chk, f2.chk]; rfl) hg) w hx kx hy ky

/- Do of the references of chapter 02; do of the laws. (Written by wip/frac/genfrefdo.py.) -/

/- Text of whatever comes in, and Parse, of package frac and of the references. (Written by wip/frac/genparse.py.) -/

def txtT (b : Bool) (t : ByteArray) : ByteArray := if b then (if t.size ≤ 65536 then t else ⟨#[]⟩) else ⟨#[]⟩
def txtK (b : Bool) (t : ByteArray) : Int := if b then (if t.size ≤ 65536 then 0 else 4) else 1
theorem txt_bad (t : ByteArray) : txtT false t = ⟨#[]⟩ ∧ txtK false t = 1 := ⟨rfl, rfl⟩
theorem txt_good {t : ByteArray} (h : t.size ≤ 65536) : txtT true t = t ∧ txtK true t = 0 := by unfold txtT txtK; simp [h]
theorem txt_long {t : ByteArray} (h : ¬ t.size ≤ 65536) : txtT true t = ⟨#[]⟩ ∧ txtK true t = 4 := by unfold txtT txtK; simp [h]
def fprN (s : List UInt8) : Int := if 65536 < s.length then 0 else match readF s with
  | none => 0
  | some p => ansN p.1 p.2
def fprD (s : List UInt8) : Int := if 65536 < s.length then 0 else match readF s with
  | none => 0
  | some p => ansD p.1 p.2
def fprK (s : List UInt8) : Int := if 65536 < s.length then 4 else match readF s with
  | none => 5
  | some p => ansK p.1 p.2

theorem frac_Text_all (n1 n2 b : Bool) (A B : Option Addr) (c e0 : Nat) (xs ys : List Nat) (t : ByteArray) (hc : (chkE n1 n2 xs ys == 0) = b) (w : World) (h : Raw w A c xs) (g : Raw w B e0 ys) (htab : powTab w) (C2 : b = true → ∀ V, Raw V A c xs → Raw V B e0 ys → powTab V → Calls Tryz.prog 107 #[.agg #[.bool n1, .slice A xs.length c, .bool n2, .slice B ys.length e0]] V fun e w' => e = .returned (.string t) ∧ Below V.heap.size V w') :
    Calls Tryz.prog 28 #[.agg #[.bool n1, .slice A xs.length c, .bool n2, .slice B ys.length e0]] w fun e w' => e = .returned (.tuple #[.string (txtT b t), .int .i64 (txtK b t)]) ∧ Below w.heap.size w w' := by
  have C1 := fun (V : World) (g' : Nat) (h : Raw V A c xs) (g : Raw V B e0 ys) (hg : V.heap.size = g') => checks_new n1 n2 A B c e0 xs ys V g' h g hg
  rw [hc] at C1
  have H1 := Hd C1
  have H2 := Hd C2
  have px := Quad.new w (.bool n1) (.slice A xs.length c) (.bool n2) (.slice B ys.length e0)
  have b0 := (Below.refl w.heap.size w).alloc (Nat.le_refl _) (.cells #[.bool n1, .slice A xs.length c, .bool n2, .slice B ys.length e0] 27)
  have PX := Hd px
  have B0 := Hd b0
  have RX := Hd (h.below b0)
  have RY := Hd (g.below b0)
  have HTW := Hd htab
  clear px b0 h g C1 C2 htab hc
  go_enter Tryz.func28, Tryz.ntmps28
  obtain ⟨W, E⟩ : ∃ W, W = w.alloc (.cells #[.bool n1, .slice A xs.length c, .bool n2, .slice B ys.length e0] 27) := ⟨_, rfl⟩
  go_upto_region 1 with fail
  rw [← E] at PX B0 RX RY ⊢
  clear E
  obtain ⟨l_x, a_x, b_x, c_x, d_x, -, -, -, -⟩ := PX.out.facts
  go_wp2_with fail
  refine (H1.out W _ RX.out RY.out rfl).mono ?_
  rintro e w1 ⟨rfl, hb⟩
  have PX := Hd ((PX.out.alloc (.cells #[.bool n1, .slice A xs.length c, .bool n2, .slice B ys.length e0] 27)).below hb)
  have BB := Hd (belowTo (B0.out.alloc B0.out.size (.cells #[.bool n1, .slice A xs.length c, .bool n2, .slice B ys.length e0] 27)) hb)
  have RX := Hd ((RX.out.alloc (.cells #[.bool n1, .slice A xs.length c, .bool n2, .slice B ys.length e0] 27)).below hb)
  have RY := Hd ((RY.out.alloc (.cells #[.bool n1, .slice A xs.length c, .bool n2, .slice B ys.length e0] 27)).below hb)
  clear B0 hb l_x a_x b_x c_x d_x
  cases b
  case false =>
    have HX := Hd (txt_bad t)
    clear H2
    go_wp2_with fail
    go_ret2
    exact ⟨by rw [HX.out.1, HX.out.2]; rfl, BB.out⟩
  case true =>
    have H3 := Hd (H2.out rfl)
    clear H2
    obtain ⟨l_x, a_x, b_x, c_x, d_x, -, -, -, -⟩ := PX.out.facts
    go_wp2_with fail
    refine (H3.out w1 RX.out RY.out (HTW.out.below2 BB.out)).mono ?_
    rintro e w2 ⟨rfl, hb⟩
    have HF := Hd (belowTo BB.out hb)
    clear hb l_x a_x b_x c_x d_x
    by_cases hs : t.size ≤ 65536
    · have HX := Hd (txt_good hs)
      have hz : (t.size : Int) ≤ 65536 := by omega
      clear hs
      go_wp2_with fail
      go_ret2
      exact ⟨by rw [HX.out.1, HX.out.2]; rfl, HF.out⟩
    · have HX := Hd (txt_long hs)
      have hz : (65536 : Int) < (t.size : Int) := by omega
      clear hs
      go_wp2_with fail
      go_ret2
      exact ⟨by rw [HX.out.1, HX.out.2]; rfl, HF.out⟩
def RetPrsO (w : World) (T : Int → Int → Int → Prop) (e : Ending) (w' : World) : Prop := ∃ N D K, RetFracOwn2 w.heap.size w N D K e w' ∧ T N D K

theorem frac_Parse_all (s : ByteArray) (o : Option (Int × Int)) (w : World)  (ho : s.size ≤ 65536 → ∀ V, Calls Tryz.prog 109 #[.string s] V (RetReadF V o)) (T : Int → Int → Int → Prop) (t1 : 65536 < s.size → T 0 0 4) (t2 : s.size ≤ 65536 → o = none → T 0 0 5) (t3 : s.size ≤ 65536 → ∀ p, o = some p → T (ansN p.1 p.2) (ansD p.1 p.2) (ansK p.1 p.2)) :
    Calls Tryz.prog 30 #[.string s] w (RetPrsO w T) := by
  have H0 := Hd ho
  have T1 := Hd t1
  have T2 := Hd t2
  have T3 := Hd t3
  clear ho t1 t2 t3
  have b0 := ((Below.refl w.heap.size w).alloc (Nat.le_refl _) (.cells #[.bool false, .slice none 0 0, .bool false, .slice none 0 0] 27))
  have p0 := Quad.new w (.bool false) (.slice none 0 0) (.bool false) (.slice none 0 0)
  have P_r0 := Hd p0
  have HBW := Hd b0
  clear b0 p0 
  go_enter Tryz.func30, Tryz.ntmps30
  obtain ⟨W, E⟩ : ∃ W, W = (w.alloc (.cells #[.bool false, .slice none 0 0, .bool false, .slice none 0 0] 27)) := ⟨_, rfl⟩
  go_upto_region 1 with fail
  rw [← E] at P_r0 HBW ⊢
  clear E
  by_cases hl : 65536 < s.size
  · have hz : (65536 : Int) < (s.size : Int) := by omega
    have TT := Hd (T1.out hl)
    clear T1 T2 T3 H0 hl
    obtain ⟨l_r0, a_r0, b_r0, f_r0, g_r0⟩ := P_r0.out.facts
    have HQ := Hd (P_r0.out.store (.bool false) (.slice none 0 0) (.bool false) (.slice none 0 0))
    have HB := Hd (below4 HBW.out (show w.heap.size ≤ w.heap.size by omega) (.bool false) (.slice none 0 0) (.bool false) (.slice none 0 0))
    go_wp2_with fail
    obtain ⟨_, k0, k1, k2, k3, _, _, _, _⟩ := HQ.out.facts
    exact bodyPost_ret (by simp [results, Tryz.results30, go_sem, k0, k1, k2, k3]) rfl ⟨0, 0, _, ⟨_, rfl, FracOwn.nought _ _, HB.out⟩, TT.out⟩
  · have hz : (s.size : Int) ≤ 65536 := by omega
    have hz2 : ¬ (65536 : Int) < (s.size : Int) := by omega
    have H1 := Hd (H0.out (by omega))
    have U2 := Hd (T2.out (by omega))
    have U3 := Hd (T3.out (by omega))
    clear T1 T2 T3 H0 hl
    have hw0 := P_r0.out.blk.lt
    go_wp2_with fail
    refine (H1.out W).mono ?_
    rintro e x1 ⟨n, d, ⟨v, rfl, hF, hb⟩, hp⟩
    obtain ⟨A5, c5, A6, c6, rfl, hF1, hF2⟩ := hF.form
    have P_r0 := Hd (P_r0.out.below hb)
    have HBW := Hd (belowTo HBW.out hb)
    have ha := (Below.refl x1.heap.size x1).alloc (Nat.le_refl _) (.cells #[.bool (decide (n < 0)), .slice A5 (natL n.natAbs).length c5, .bool (decide (d < 0)), .slice A6 (natL d.natAbs).length c6] 27)
    have pp := Quad.new x1 (.bool (decide (n < 0))) (.slice A5 (natL n.natAbs).length c5) (.bool (decide (d < 0))) (.slice A6 (natL d.natAbs).length c6)
    go_upto_region 4 with fail
    obtain ⟨y1, E⟩ : ∃ Y, Y = x1.alloc (.cells #[.bool (decide (n < 0)), .slice A5 (natL n.natAbs).length c5, .bool (decide (d < 0)), .slice A6 (natL d.natAbs).length c6] 27) := ⟨_, rfl⟩
    rw [← E] at ha pp ⊢
    have P_r0 := Hd (P_r0.out.below ha)
    have HBW := Hd (belowTo HBW.out ha)
    have V_x := Hd (FV.mk pp (hF1.rawAt.below ha) (hF2.rawAt.below ha))
    have HPP := Hd hp
    obtain ⟨gx, hg⟩ : ∃ q, q = x1.heap.size := ⟨_, rfl⟩
    rw [← hg] at V_x ⊢
    clear E ha pp hb hF hF1 hF2 hp hg hw0
    cases o
    case none =>
      have TT := Hd (U2.out rfl)
      clear U2 U3 HPP
      obtain ⟨l_r0, a_r0, b_r0, f_r0, g_r0⟩ := P_r0.out.facts
      have HQ := Hd (P_r0.out.store (.bool false) (.slice none 0 0) (.bool false) (.slice none 0 0))
      have HB := Hd (below4 HBW.out (show w.heap.size ≤ w.heap.size by omega) (.bool false) (.slice none 0 0) (.bool false) (.slice none 0 0))
      go_wp2_with fail
      obtain ⟨_, k0, k1, k2, k3, _, _, _, _⟩ := HQ.out.facts
      exact bodyPost_ret (by simp [results, Tryz.results30, go_sem, k0, k1, k2, k3]) rfl ⟨0, 0, _, ⟨_, rfl, FracOwn.nought _ _, HB.out⟩, TT.out⟩
    case some p =>
      obtain rfl := HPP.out p rfl
      have TT := Hd (U3.out (n, d) rfl)
      clear U2 U3 HPP
      obtain ⟨l_x, a_x, b_x, c_x, d_x, -, -, -, -⟩ := V_x.out.quad.facts
      go_wp2_with fail
      refine (frac_answered n d A5 A6 c5 c6 y1 V_x.out.num V_x.out.den).mono ?_
      rintro e x2 ⟨v, rfl, hI, hb⟩
      obtain ⟨N, hN⟩ : ∃ k : Int, k = ansN n d := ⟨_, rfl⟩
      obtain ⟨D, hD⟩ : ∃ k : Int, k = ansD n d := ⟨_, rfl⟩
      obtain ⟨K, hK⟩ : ∃ k : Int, k = ansK n d := ⟨_, rfl⟩
      have TU := Hd (show T N D K by rw [hN, hD, hK]; exact TT.out)
      rw [← hN, ← hD] at hI
      rw [← hK]
      obtain ⟨A7, c7, A8, c8, rfl, -⟩ := hI.form
      have hy1 := HBW.out.size
      have P_r0 := Hd (P_r0.out.below hb)
      have HBW := Hd (belowTo HBW.out hb)
      have HI := Hd hI
      clear hI hb l_x a_x b_x c_x d_x V_x TT hN hD hK
      obtain ⟨l_r0, a_r0, b_r0, f_r0, g_r0⟩ := P_r0.out.facts
      have HQ := Hd (P_r0.out.store (.bool (decide (N < 0))) (.slice A7 (natL N.natAbs).length c7) (.bool (decide (D < 0))) (.slice A8 (natL D.natAbs).length c8))
      have HB := Hd (below4 HBW.out (show w.heap.size ≤ w.heap.size by omega) (.bool (decide (N < 0))) (.slice A7 (natL N.natAbs).length c7) (.bool (decide (D < 0))) (.slice A8 (natL D.natAbs).length c8))
      have HF9 := Hd ((HI.out.quad P_r0.out (.bool (decide (N < 0))) (.slice A7 (natL N.natAbs).length c7) (.bool (decide (D < 0))) (.slice A8 (natL D.natAbs).length c8)).base hy1)
      go_wp2_with fail
      obtain ⟨_, k0, k1, k2, k3, _, _, _, _⟩ := HQ.out.facts
      exact bodyPost_ret (by simp [results, Tryz.results30, go_sem, k0, k1, k2, k3]) rfl ⟨N, D, K, ⟨_, rfl, HF9.out, HB.out⟩, TU.out⟩

theorem frac_Parse (s : ByteArray) (w : World) :
    Calls Tryz.prog 30 #[.string s] w (RetFracOwn2 w.heap.size w (fprN s.data.toList) (fprD s.data.toList) (fprK s.data.toList)) := by
  have hsz : s.data.toList.length = s.size := by rw [Lib.size_eq]
  refine (frac_Parse_all s (readF s.data.toList) w (fun hs V => ratio_Read s hs V) (fun N D K => N = fprN s.data.toList ∧ D = fprD s.data.toList ∧ K = fprK s.data.toList) ?_ ?_ ?_).mono fun e w' ⟨N, D, K, h, e1, e2, e3⟩ => by rw [← e1, ← e2, ← e3]; exact h
  · intro h
    unfold fprN fprD fprK
    rw [if_pos (by omega), if_pos (by omega), if_pos (by omega)]
    exact ⟨rfl, rfl, rfl⟩
  · intro h ho
    unfold fprN fprD fprK
    rw [if_neg (by omega), if_neg (by omega), if_neg (by omega), ho]
    exact ⟨rfl, rfl, rfl⟩
  · intro h p ho
    unfold fprN fprD fprK
    rw [if_neg (by omega), if_neg (by omega), if_neg (by omega), ho]
    exact ⟨rfl, rfl, rfl⟩

def RetPrsR (w : World) (T : Int → Int → Int → Prop) (e : Ending) (w' : World) : Prop := ∃ N D K, RetFrac2 w N D K e w' ∧ T N D K

/- The root by Newton's steps: plain Lean. -/

def IsRoot (x r : Nat) : Prop := r * r ≤ x ∧ x < (r + 1) * (r + 1)
theorem root_above {x r n : Nat} (hr : 0 < r) (h : n = (r + x / r) / 2) : x < (n + 1) * (n + 1) := by
  obtain ⟨q, hq⟩ : ∃ q, q = x / r := ⟨_, rfl⟩
  rw [← hq] at h
  have h1 : x < r * (q + 1) := by
    rw [hq]; exact Nat.lt_mul_div_succ x hr
  have h2 : r + (q + 1) ≤ 2 * (n + 1) := by omega
  have h3 : 4 * (r * (q + 1)) ≤ (r + (q + 1)) * (r + (q + 1)) := by
    generalize q + 1 = s
    have e : ((r : Int) - s) * (r - s) ≥ 0 := by
      rcases Int.le_total 0 ((r : Int) - s) with h | h
      · exact Int.mul_nonneg h h
      · exact Int.mul_nonneg_of_nonpos_of_nonpos h h
    have e2 : (4 * ((r : Int) * s)) ≤ ((r : Int) + s) * (r + s) := by grind
    exact_mod_cast e2
  have h4 : (r + (q + 1)) * (r + (q + 1)) ≤ (2 * (n + 1)) * (2 * (n + 1)) := Nat.mul_le_mul h2 h2
  have h5 : (2 * (n + 1)) * (2 * (n + 1)) = 4 * ((n + 1) * (n + 1)) := by grind
  omega
theorem root_stop {x r n : Nat} (h : n = (r + x / r) / 2) (hn : r ≤ n) : r * r ≤ x := by
  have h1 : r ≤ x / r := by omega
  calc r * r ≤ r * (x / r) := Nat.mul_le_mul_left _ h1
    _ ≤ x := Nat.mul_div_le x r
theorem root_pos {x r n : Nat} (hx : 0 < x) (hr : 0 < r) (h : n = (r + x / r) / 2) : 0 < n := by
  rcases (by omega : r = 1 ∨ 2 ≤ r) with h1 | h1
  · subst h1; rw [Nat.div_one] at h; omega
  · generalize x / r = q at h
    omega
theorem root_one {x r s : Nat} (h : IsRoot x r) (g : IsRoot x s) : r = s := by
  have lem : ∀ a b : Nat, IsRoot x a → IsRoot x b → a ≤ b := fun a b ha hb => by
    rcases Nat.lt_or_ge b a with hl | hl
    · have h1 := Nat.mul_le_mul hl hl
      have h2 := ha.1
      have h3 := hb.2
      have h4 : (b + 1) * (b + 1) = b.succ * b.succ := rfl
      omega
    · exact hl
  exact Nat.le_antisymm (lem r s h g) (lem s r g h)
theorem root_start {x b k : Nat} (h : x < 2 ^ b) (hk : b ≤ 2 * k) : x < (2 ^ k + 1) * (2 ^ k + 1) := by
  have h1 : 2 ^ b ≤ 2 ^ (2 * k) := Nat.pow_le_pow_right (by omega) hk
  have h2 : 2 ^ (2 * k) = 2 ^ k * 2 ^ k := by rw [Nat.two_mul, Nat.pow_add]
  have h3 : 2 ^ k * 2 ^ k ≤ (2 ^ k + 1) * (2 ^ k + 1) := Nat.mul_le_mul (Nat.le_succ _) (Nat.le_succ _)
  omega
end Go.Proofs.YtipmkkobdbgphaaGreatDoor
