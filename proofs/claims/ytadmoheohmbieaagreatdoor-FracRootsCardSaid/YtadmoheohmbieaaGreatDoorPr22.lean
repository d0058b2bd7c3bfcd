/- Several texts in one: FMake, RefInt64, FOf, FCheck. -/
import Derived.Test.YtadmoheohmbieaaGreatDoorPr20
import Derived.Test.YtadmoheohmbieaaGreatDoorPr21
import Derived.Deep.RegionWith
/- Make of package frac. (Written by wip/frac/genfmake.py.) -/
namespace Go.Proofs.YtadmoheohmbieaaGreatDoor
open Go.RowKit

theorem lowN_lz (n d : Int) : lz (lowN n d) ≤ lz n := by
  unfold lowN
  split
  · rw [show lz (-(n.tdiv (gcdZ n d))) = lz (n.tdiv (gcdZ n d)) by unfold lz; rw [Int.natAbs_neg]]; exact tdiv_lz _ _
  · exact tdiv_lz _ _
theorem lowD_lz (n d : Int) : lz (lowD n d) ≤ lz d := by
  unfold lowD
  split
  · rw [show lz (-(d.tdiv (gcdZ n d))) = lz (d.tdiv (gcdZ n d)) by unfold lz; rw [Int.natAbs_neg]]; exact tdiv_lz _ _
  · exact tdiv_lz _ _

set_option maxRecDepth 100000 in
set_option maxHeartbeats 1000000 in
theorem frac_Make_good (n d : Int) (A B : Option Addr) (c e0 : Nat) (w : World) (h : Raw w A c (natL n.natAbs)) (g : Raw w B e0 (natL d.natAbs)) (hn : Fit n) (hd : Fit d) (hd0 : d ≠ 0) :
    Calls Tryz.prog 15 #[.agg #[.bool (decide (n < 0)), .slice A (natL n.natAbs).length c], .agg #[.bool (decide (d < 0)), .slice B (natL d.natAbs).length e0]] w (RetFracOwn2 w.heap.size w (lowN n d) (lowD n d) 0) := by
  have C1 := fun (V : World) (h : Raw V A c (natL n.natAbs)) => exact_Check_any (decide (n < 0)) A c _ V h
  have C2 := fun (V : World) (h : Raw V B e0 (natL d.natAbs)) => exact_Check_any (decide (d < 0)) B e0 _ V h
  unfold errI at C1 C2
  rw [if_pos hn.ok] at C1
  rw [if_pos hd.ok] at C2
  have hln : lz n ≤ 2048 := hn
  have hld : lz d ≤ 2048 := hd
  obtain ⟨s, hs⟩ : ∃ k : Int, k = d.sign := ⟨_, rfl⟩
  have C3 := fun (V : World) (h : Raw V B e0 (natL d.natAbs)) => esign d s B e0 V h hs
  have C4 := fun (V : World) (h : Raw V A c (natL n.natAbs)) (g : Raw V B e0 (natL d.natAbs)) => elowest n d A B c e0 V h g (by omega) (by omega) hd0
  have hl1 : lz (lowN n d) ≤ 2048 := Nat.le_trans (lowN_lz n d) hln
  have hl2 : lz (lowD n d) ≤ 2048 := Nat.le_trans (lowD_lz n d) hld
  have C5 := fun (V : World) (A' B' : Option Addr) (c' e' : Nat) (h : Raw V A' c' (natL (lowN n d).natAbs)) (g : Raw V B' e' (natL (lowD n d).natAbs)) => frac_answered_fits (lowN n d) (lowD n d) A' B' c' e' V h g hl1 hl2
  obtain ⟨p, hp⟩ : ∃ k : Int, k = lowN n d := ⟨_, rfl⟩
  obtain ⟨q, hq⟩ : ∃ k : Int, k = lowD n d := ⟨_, rfl⟩
  rw [← hp, ← hq] at C4 C5 ⊢
  have H1 := Lib.hid C1
  have H2 := Lib.hid C2
  have H3 := Lib.hid C3
  have H4 := Lib.hid C4
  have H5 := Lib.hid C5
  have hs1 : decide (s = 0) = false := decide_eq_false (by rw [hs]; intro e; exact hd0 (Int.sign_eq_zero_iff_zero.1 e))
  have hs0 : (s == 0) = false := by simpa using hs1
  clear C1 C2 C3 C4 C5 hn hd hd0 hs hln hld hl1 hl2 hp hq
  have px := ((Pair.new w 24 (.bool (decide (n < 0))) (.slice A (natL n.natAbs).length c)).alloc (.cells #[.bool (decide (d < 0)), .slice B (natL d.natAbs).length e0] 24)).alloc (.cells #[.bool false, .slice none 0 0, .bool false, .slice none 0 0] 30)
  have py := (Pair.new (w.alloc (.cells #[.bool (decide (n < 0)), .slice A (natL n.natAbs).length c] 24)) 24 (.bool (decide (d < 0))) (.slice B (natL d.natAbs).length e0)).alloc (.cells #[.bool false, .slice none 0 0, .bool false, .slice none 0 0] 30)
  have pr := Quad.new ((w.alloc (.cells #[.bool (decide (n < 0)), .slice A (natL n.natAbs).length c] 24)).alloc (.cells #[.bool (decide (d < 0)), .slice B (natL d.natAbs).length e0] 24)) (.bool false) (.slice none 0 0) (.bool false) (.slice none 0 0)
  have b0 := (((Below.refl w.heap.size w).alloc (Nat.le_refl _) (.cells #[.bool (decide (n < 0)), .slice A (natL n.natAbs).length c] 24)).alloc (by simp) (.cells #[.bool (decide (d < 0)), .slice B (natL d.natAbs).length e0] 24)).alloc (by simp; omega) (.cells #[.bool false, .slice none 0 0, .bool false, .slice none 0 0] 30)
  simp only [World.size_alloc] at py pr
  have h1 := h.below b0
  have g1 := g.below b0
  have PX := Lib.hid px
  have PY := Lib.hid py
  have PR := Lib.hid pr
  have B0 := Lib.hid b0
  have RX := Lib.hid h1
  have RY := Lib.hid g1
  clear px py pr b0 h g h1 g1
  go_enter Tryz.func15, Tryz.ntmps15
  go_wp2_with fail
  obtain ⟨W, E⟩ : ∃ W, W = ((w.alloc (.cells #[.bool (decide (n < 0)), .slice A (natL n.natAbs).length c] 24)).alloc (.cells #[.bool (decide (d < 0)), .slice B (natL d.natAbs).length e0] 24)).alloc (.cells #[.bool false, .slice none 0 0, .bool false, .slice none 0 0] 30) := ⟨_, rfl⟩
  rw [← E] at PX PY PR B0 RX RY ⊢
  clear E
  have T0 := Below.refl W.heap.size W
  obtain ⟨l0, x0, x1, -, -⟩ := (PX.out.below T0).facts
  obtain ⟨m0, y0, y1, -, -⟩ := (PY.out.below T0).facts
  go_wp2_with fail
  refine (H1.out _ (RX.out.below T0)).mono ?_
  rintro e w1 ⟨rfl, h⟩
  have T1 := belowTo T0 h
  clear h x0 x1 y0 y1 l0 m0
  obtain ⟨l1, x0, x1, -, -⟩ := (PX.out.below T1).facts
  obtain ⟨m1, y0, y1, -, -⟩ := (PY.out.below T1).facts
  go_wp2_with fail
  refine (H2.out _ (RY.out.below T1)).mono ?_
  rintro e w2 ⟨rfl, h⟩
  have T2 := belowTo T1 h
  clear h x0 x1 y0 y1 l1 m1
  obtain ⟨l2, x0, x1, -, -⟩ := (PX.out.below T2).facts
  obtain ⟨m2, y0, y1, -, -⟩ := (PY.out.below T2).facts
  go_wp2_with fail
  refine (H3.out _ (RY.out.below T2)).mono ?_
  rintro e w3 ⟨rfl, h⟩
  have T3 := belowTo T2 h
  clear h x0 x1 y0 y1 l2 m2
  obtain ⟨l3, x0, x1, -, -⟩ := (PX.out.below T3).facts
  obtain ⟨m3, y0, y1, -, -⟩ := (PY.out.below T3).facts
  go_wp2_with fail
  refine (H4.out _ ((RX.out.below T3)) ((RY.out.below T3))).mono ?_
  rintro e w4 ⟨v, rfl, hF, h⟩
  have T4 := belowTo T3 h
  clear h x0 x1 y0 y1 l3 m3
  obtain ⟨A', c', B', e', rfl, r1, r2⟩ := hF.form
  clear hF
  go_wp2_with fail
  refine (H5.out _ A' B' c' e' r1 r2).mono ?_
  rintro e w5 ⟨v, rfl, hI, h⟩
  have T5 := belowTo T4 h
  have pr2 := PR.out.below T5
  have BB := belowTo B0.out T5
  have hsz := belowTo B0.out T4
  obtain ⟨A1, c1, A2, c2, rfl, -⟩ := hI.form
  obtain ⟨l5, z0, z1, z2, z3, f0, f1, f2, f3⟩ := pr2.facts
  clear r1 r2 h
  go_wp2_with fail
  have hq := pr2.store (.bool (decide (p < 0))) (.slice A1 (natL p.natAbs).length c1) (.bool (decide (q < 0))) (.slice A2 (natL q.natAbs).length c2)
  obtain ⟨_, k0, k1, k2, k3, _⟩ := hq.facts
  have hs9 := hsz.size
  exact bodyPost_ret (by simp [results, Tryz.results15, go_sem, k0, k1, k2, k3]) rfl ⟨_, rfl, (hI.quad pr2 _ _ _ _).base hs9, below4 BB (by omega) _ _ _ _⟩

set_option maxRecDepth 100000 in
set_option maxHeartbeats 1000000 in
theorem frac_Make_nought (n d : Int) (A B : Option Addr) (c e0 : Nat) (w : World) (h : Raw w A c (natL n.natAbs)) (g : Raw w B e0 (natL d.natAbs)) (hn : Fit n) (hd : Fit d) (hd0 : d = 0) :
    Calls Tryz.prog 15 #[.agg #[.bool (decide (n < 0)), .slice A (natL n.natAbs).length c], .agg #[.bool (decide (d < 0)), .slice B (natL d.natAbs).length e0]] w (RetFracOwn2 w.heap.size w 0 0 3) := by
  have C1 := fun (V : World) (h : Raw V A c (natL n.natAbs)) => exact_Check_any (decide (n < 0)) A c _ V h
  have C2 := fun (V : World) (h : Raw V B e0 (natL d.natAbs)) => exact_Check_any (decide (d < 0)) B e0 _ V h
  unfold errI at C1 C2
  rw [if_pos hn.ok] at C1
  rw [if_pos hd.ok] at C2
  have C3 := fun (V : World) (h : Raw V B e0 (natL d.natAbs)) => esign d 0 B e0 V h (by rw [hd0]; rfl)
  have H1 := Lib.hid C1
  have H2 := Lib.hid C2
  have H3 := Lib.hid C3
  clear C1 C2 C3 hn hd hd0
  have px := ((Pair.new w 24 (.bool (decide (n < 0))) (.slice A (natL n.natAbs).length c)).alloc (.cells #[.bool (decide (d < 0)), .slice B (natL d.natAbs).length e0] 24)).alloc (.cells #[.bool false, .slice none 0 0, .bool false, .slice none 0 0] 30)
  have py := (Pair.new (w.alloc (.cells #[.bool (decide (n < 0)), .slice A (natL n.natAbs).length c] 24)) 24 (.bool (decide (d < 0))) (.slice B (natL d.natAbs).length e0)).alloc (.cells #[.bool false, .slice none 0 0, .bool false, .slice none 0 0] 30)
  have pr := Quad.new ((w.alloc (.cells #[.bool (decide (n < 0)), .slice A (natL n.natAbs).length c] 24)).alloc (.cells #[.bool (decide (d < 0)), .slice B (natL d.natAbs).length e0] 24)) (.bool false) (.slice none 0 0) (.bool false) (.slice none 0 0)
  have b0 := (((Below.refl w.heap.size w).alloc (Nat.le_refl _) (.cells #[.bool (decide (n < 0)), .slice A (natL n.natAbs).length c] 24)).alloc (by simp) (.cells #[.bool (decide (d < 0)), .slice B (natL d.natAbs).length e0] 24)).alloc (by simp; omega) (.cells #[.bool false, .slice none 0 0, .bool false, .slice none 0 0] 30)
  simp only [World.size_alloc] at py pr
  have h1 := h.below b0
  have g1 := g.below b0
  have PX := Lib.hid px
  have PY := Lib.hid py
  have PR := Lib.hid pr
  have B0 := Lib.hid b0
  have RX := Lib.hid h1
  have RY := Lib.hid g1
  clear px py pr b0 h g h1 g1
  go_enter Tryz.func15, Tryz.ntmps15
  go_wp2_with fail
  obtain ⟨W, E⟩ : ∃ W, W = ((w.alloc (.cells #[.bool (decide (n < 0)), .slice A (natL n.natAbs).length c] 24)).alloc (.cells #[.bool (decide (d < 0)), .slice B (natL d.natAbs).length e0] 24)).alloc (.cells #[.bool false, .slice none 0 0, .bool false, .slice none 0 0] 30) := ⟨_, rfl⟩
  rw [← E] at PX PY PR B0 RX RY ⊢
  clear E
  have T0 := Below.refl W.heap.size W
  obtain ⟨l0, x0, x1, -, -⟩ := (PX.out.below T0).facts
  obtain ⟨m0, y0, y1, -, -⟩ := (PY.out.below T0).facts
  go_wp2_with fail
  refine (H1.out _ (RX.out.below T0)).mono ?_
  rintro e w1 ⟨rfl, h⟩
  have T1 := belowTo T0 h
  clear h x0 x1 y0 y1 l0 m0
  obtain ⟨l1, x0, x1, -, -⟩ := (PX.out.below T1).facts
  obtain ⟨m1, y0, y1, -, -⟩ := (PY.out.below T1).facts
  go_wp2_with fail
  refine (H2.out _ (RY.out.below T1)).mono ?_
  rintro e w2 ⟨rfl, h⟩
  have T2 := belowTo T1 h
  clear h x0 x1 y0 y1 l1 m1
  obtain ⟨l2, x0, x1, -, -⟩ := (PX.out.below T2).facts
  obtain ⟨m2, y0, y1, -, -⟩ := (PY.out.below T2).facts
  go_wp2_with fail
  refine (H3.out _ (RY.out.below T2)).mono ?_
  rintro e w3 ⟨rfl, h⟩
  have T3 := belowTo T2 h
  clear h x0 x1 y0 y1 l2 m2
  have pr2 := PR.out.below T3
  have BB := belowTo B0.out T3
  have BX := B0.out.size
  obtain ⟨l5, z0, z1, z2, z3, f0, f1, f2, f3⟩ := pr2.facts
  go_wp2_with fail
  have hq := pr2.store (.bool false) (.slice none 0 0) (.bool false) (.slice none 0 0)
  obtain ⟨_, k0, k1, k2, k3, _⟩ := hq.facts
  exact bodyPost_ret (by simp [results, Tryz.results15, go_sem, k0, k1, k2, k3]) rfl ⟨_, rfl, FracOwn.nought _ _, below4 BB (by omega) _ _ _ _⟩

/-- What Make answers. -/
def mkOk (n1 n2 : Bool) (xs ys : List Nat) : Bool := okI n1 xs && okI n2 ys
def mkE (n1 n2 : Bool) (xs ys : List Nat) : Int := if mkOk n1 n2 xs ys then (if ival n2 ys = 0 then 3 else 0) else 1
def mkN (n1 n2 : Bool) (xs ys : List Nat) : Int := if mkOk n1 n2 xs ys then (if ival n2 ys = 0 then 0 else lowN (ival n1 xs) (ival n2 ys)) else 0
def mkD (n1 n2 : Bool) (xs ys : List Nat) : Int := if mkOk n1 n2 xs ys then (if ival n2 ys = 0 then 0 else lowD (ival n1 xs) (ival n2 ys)) else 0
end Go.Proofs.YtadmoheohmbieaaGreatDoor

/- Int64 of the references. -/
namespace Go.Proofs.YtadmoheohmbieaaGreatDoor
open Go.RowKit

theorem ok64' (n : Int) (h1 : -9223372036854775808 ≤ n) (h2 : n ≤ 9223372036854775807) : okI (decide (n < 0)) (natL n.natAbs) = true := by
  refine okI_true.2 ⟨?_, canon_natL _, fun h => ?_⟩
  · have := (natL_length_le (n := n.natAbs) (k := 2)).2 (by omega); omega
  · have := natL_eq_nil.1 h
    simp; omega
end Go.Proofs.YtadmoheohmbieaaGreatDoor

/- Of of package frac. -/
namespace Go.Proofs.YtadmoheohmbieaaGreatDoor
open Go.RowKit

def zN (n d : Int) : Int := if d = 0 then 0 else lowN n d
def zD (n d : Int) : Int := if d = 0 then 0 else lowD n d
def zE (d : Int) : Int := if d = 0 then 3 else 0
theorem frac_Make_z (n d : Int) (A B : Option Addr) (c e0 : Nat) (w : World) (h : Raw w A c (natL n.natAbs)) (g : Raw w B e0 (natL d.natAbs)) (hn : Fit n) (hd : Fit d) :
    Calls Tryz.prog 15 #[.agg #[.bool (decide (n < 0)), .slice A (natL n.natAbs).length c], .agg #[.bool (decide (d < 0)), .slice B (natL d.natAbs).length e0]] w (RetFracOwn2 w.heap.size w (zN n d) (zD n d) (zE d)) := by
  unfold zN zD zE
  by_cases hy : d = 0
  · simp only [if_pos hy]
    exact frac_Make_nought n d A B c e0 w h g hn hd hy
  · simp only [if_neg hy]
    exact frac_Make_good n d A B c e0 w h g hn hd hy

set_option maxRecDepth 100000 in
set_option maxHeartbeats 1000000 in
theorem frac_Of (n d : Int) (n1 : -9223372036854775808 ≤ n) (n2 : n ≤ 9223372036854775807) (d1 : -9223372036854775808 ≤ d) (d2 : d ≤ 9223372036854775807) (w : World) :
    Calls Tryz.prog 17 #[.int .i64 n, .int .i64 d] w (RetFracOwn2 w.heap.size w (zN n d) (zD n d) (zE d)) := by
  have fn : Fit n := (okI_true.1 (ok64' n n1 n2)).1
  have fd : Fit d := (okI_true.1 (ok64' d d1 d2)).1
  have C3 := fun (V : World) (A B : Option Addr) (c e0 : Nat) (h : Raw V A c (natL n.natAbs)) (g : Raw V B e0 (natL d.natAbs)) => frac_Make_z n d A B c e0 V h g fn fd
  have C1 := fun (V : World) => eof n n rfl n1 n2 V
  have C2 := fun (V : World) => eof d d rfl d1 d2 V
  obtain ⟨p, hp⟩ : ∃ k : Int, k = zN n d := ⟨_, rfl⟩
  obtain ⟨q, hq⟩ : ∃ k : Int, k = zD n d := ⟨_, rfl⟩
  obtain ⟨k, hk⟩ : ∃ k : Int, k = zE d := ⟨_, rfl⟩
  rw [← hp, ← hq, ← hk] at C3 ⊢
  have H1 := Lib.hid C1
  have H2 := Lib.hid C2
  have H3 := Lib.hid C3
  clear C1 C2 C3 fn fd n1 n2 d1 d2 hp hq hk
  have pr := Quad.new w (.bool false) (.slice none 0 0) (.bool false) (.slice none 0 0)
  have b0 := (Below.refl w.heap.size w).alloc (Nat.le_refl _) (.cells #[.bool false, .slice none 0 0, .bool false, .slice none 0 0] 30)
  have PR := Lib.hid pr
  have B0 := Lib.hid b0
  clear pr b0
  go_enter Tryz.func17, Tryz.ntmps17
  go_wp2_with fail
  refine (H1.out _).mono ?_
  rintro e w1 ⟨v, rfl, i1, h⟩
  have T1 := belowTo B0.out h
  have p1 := PR.out.below h
  obtain ⟨A, c, rfl, r1⟩ := i1.raw
  clear h i1
  go_wp2_with fail
  refine (H2.out _).mono ?_
  rintro e w2 ⟨v, rfl, i2, h⟩
  have T2 := belowTo T1 h
  have p2 := p1.below h
  obtain ⟨B, e0, rfl, r2⟩ := i2.raw
  have r3 := r1.below h
  clear h i2 r1 p1 T1
  go_wp2_with fail
  refine (H3.out _ A B c e0 r3 r2).mono ?_
  rintro e w3 ⟨v, rfl, hI, h⟩
  have T3 := belowTo T2 h
  have p3 := p2.below h
  have hsz := T2.size
  obtain ⟨A1, c1, A2, c2, rfl, -⟩ := hI.form
  obtain ⟨l5, z0, z1, z2, z3, f0, f1, f2, f3⟩ := p3.facts
  clear h r3 r2 p2 T2
  go_wp2_with fail
  have hq := p3.store (.bool (decide (p < 0))) (.slice A1 (natL p.natAbs).length c1) (.bool (decide (q < 0))) (.slice A2 (natL q.natAbs).length c2)
  obtain ⟨_, k0, k1, k2, k3, _⟩ := hq.facts
  exact bodyPost_ret (by simp [results, Tryz.results17, go_sem, k0, k1, k2, k3]) rfl ⟨_, rfl, (hI.quad p3 _ _ _ _).base hsz, below4 T3 (by omega) _ _ _ _⟩
end Go.Proofs.YtadmoheohmbieaaGreatDoor

/- Check of package ratio. (Written by wip/frac/genfcheck.py.) -/
namespace Go.Proofs.YtadmoheohmbieaaGreatDoor
open Go.RowKit

set_option maxRecDepth 100000 in
set_option maxHeartbeats 1000000 in
theorem ratio_Check_bad_one (n1 n2 : Bool) (A B : Option Addr) (c e0 : Nat) (xs ys : List Nat) (o : okI n1 xs = false) (w : World) (h : Raw w A c xs) (g : Raw w B e0 ys) :
    Calls Tryz.prog 68 #[.agg #[.bool n1, .slice A xs.length c, .bool n2, .slice B ys.length e0]] w fun e w' => e = .returned (.int .i64 1) ∧ Below w.heap.size w w' := by
  have C1 := fun (V : World) (h : Raw V A c xs) => exact_Check_any n1 A c _ V h
  unfold errI at C1
  rw [if_neg (by rw [o]; decide)] at C1
  have H1 := Lib.hid C1
  clear C1 o
  have px := Quad.new w (.bool n1) (.slice A xs.length c) (.bool n2) (.slice B ys.length e0)
  have b0 := (Below.refl w.heap.size w).alloc (Nat.le_refl _) (.cells #[.bool n1, .slice A xs.length c, .bool n2, .slice B ys.length e0] 30)
  have h1 := h.below b0
  have g1 := g.below b0
  have PX := Lib.hid px
  have B0 := Lib.hid b0
  have RX := Lib.hid h1
  have RY := Lib.hid g1
  clear px b0 h g h1 g1
  go_enter Tryz.func68, Tryz.ntmps68
  go_wp2_with fail
  obtain ⟨W, E⟩ : ∃ W, W = w.alloc (.cells #[.bool n1, .slice A xs.length c, .bool n2, .slice B ys.length e0] 30) := ⟨_, rfl⟩
  rw [← E] at PX B0 RX RY ⊢
  clear E
  have T0 := Below.refl W.heap.size W
  obtain ⟨l0, x0, x1, x2, x3, -, -, -, -⟩ := (PX.out.below T0).facts
  go_wp2_with fail
  refine (H1.out _ (RX.out.below T0)).mono ?_
  rintro e w1 ⟨rfl, h⟩
  have T1 := belowTo T0 h
  clear h x0 x1 x2 x3 l0
  have BB := belowTo B0.out T1
  go_wp2_with fail
  go_ret
  exact ⟨rfl, BB⟩

set_option maxRecDepth 100000 in
set_option maxHeartbeats 1000000 in
theorem ratio_Check_bad_two (n1 n2 : Bool) (A B : Option Addr) (c e0 : Nat) (xs ys : List Nat) (o1 : okI n1 xs = true) (o : okI n2 ys = false) (w : World) (h : Raw w A c xs) (g : Raw w B e0 ys) :
    Calls Tryz.prog 68 #[.agg #[.bool n1, .slice A xs.length c, .bool n2, .slice B ys.length e0]] w fun e w' => e = .returned (.int .i64 1) ∧ Below w.heap.size w w' := by
  have C1 := fun (V : World) (h : Raw V A c xs) => exact_Check_any n1 A c _ V h
  unfold errI at C1
  rw [if_pos o1] at C1
  have H1 := Lib.hid C1
  have C2 := fun (V : World) (h : Raw V B e0 ys) => exact_Check_any n2 B e0 _ V h
  unfold errI at C2
  rw [if_neg (by rw [o]; decide)] at C2
  have H2 := Lib.hid C2
  clear C2 o1
  clear C1 o
  have px := Quad.new w (.bool n1) (.slice A xs.length c) (.bool n2) (.slice B ys.length e0)
  have b0 := (Below.refl w.heap.size w).alloc (Nat.le_refl _) (.cells #[.bool n1, .slice A xs.length c, .bool n2, .slice B ys.length e0] 30)
  have h1 := h.below b0
  have g1 := g.below b0
  have PX := Lib.hid px
  have B0 := Lib.hid b0
  have RX := Lib.hid h1
  have RY := Lib.hid g1
  clear px b0 h g h1 g1
  go_enter Tryz.func68, Tryz.ntmps68
  go_wp2_with fail
  obtain ⟨W, E⟩ : ∃ W, W = w.alloc (.cells #[.bool n1, .slice A xs.length c, .bool n2, .slice B ys.length e0] 30) := ⟨_, rfl⟩
  rw [← E] at PX B0 RX RY ⊢
  clear E
  have T0 := Below.refl W.heap.size W
  obtain ⟨l0, x0, x1, x2, x3, -, -, -, -⟩ := (PX.out.below T0).facts
  go_wp2_with fail
  refine (H1.out _ (RX.out.below T0)).mono ?_
  rintro e w1 ⟨rfl, h⟩
  have T1 := belowTo T0 h
  clear h x0 x1 x2 x3 l0
  obtain ⟨l1, x0, x1, x2, x3, -, -, -, -⟩ := (PX.out.below T1).facts
  go_wp2_with fail
  refine (H2.out _ (RY.out.below T1)).mono ?_
  rintro e w2 ⟨rfl, h⟩
  have T2 := belowTo T1 h
  clear h x0 x1 x2 x3 l1
  have BB := belowTo B0.out T2
  go_wp2_with fail
  go_ret
  exact ⟨rfl, BB⟩

set_option maxRecDepth 100000 in
set_option maxHeartbeats 1000000 in
theorem ratio_Check_low (n d : Int) (A B : Option Addr) (c e0 : Nat) (w : World) (h : Raw w A c (natL n.natAbs)) (g : Raw w B e0 (natL d.natAbs)) (hn : Fit n) (hd : Fit d) (hd0 : d ≤ 0) :
    Calls Tryz.prog 68 #[.agg #[.bool (decide (n < 0)), .slice A (natL n.natAbs).length c, .bool (decide (d < 0)), .slice B (natL d.natAbs).length e0]] w fun e w' => e = .returned (.int .i64 1) ∧ Below w.heap.size w w' := by
  have C1 := fun (V : World) (h : Raw V A c (natL n.natAbs)) => exact_Check_any (decide (n < 0)) A c _ V h
  have C2 := fun (V : World) (h : Raw V B e0 (natL d.natAbs)) => exact_Check_any (decide (d < 0)) B e0 _ V h
  unfold errI at C1 C2
  rw [if_pos hn.ok] at C1
  rw [if_pos hd.ok] at C2
  have hln : lz n ≤ 2048 := hn
  have hld : lz d ≤ 2048 := hd
  obtain ⟨s, hs⟩ : ∃ k : Int, k = d.sign := ⟨_, rfl⟩
  have C3 := fun (V : World) (h : Raw V B e0 (natL d.natAbs)) => esign d s B e0 V h hs
  have hs1 : s ≤ 0 := by rw [hs]; exact Int.sign_nonpos_iff.2 hd0
  have H1 := Lib.hid C1
  have H2 := Lib.hid C2
  have H3 := Lib.hid C3
  clear C1 C2 C3 hn hd hd0 hs hln hld
  have px := Quad.new w (.bool (decide (n < 0))) (.slice A (natL n.natAbs).length c) (.bool (decide (d < 0))) (.slice B (natL d.natAbs).length e0)
  have b0 := (Below.refl w.heap.size w).alloc (Nat.le_refl _) (.cells #[.bool (decide (n < 0)), .slice A (natL n.natAbs).length c, .bool (decide (d < 0)), .slice B (natL d.natAbs).length e0] 30)
  have h1 := h.below b0
  have g1 := g.below b0
  have PX := Lib.hid px
  have B0 := Lib.hid b0
  have RX := Lib.hid h1
  have RY := Lib.hid g1
  clear px b0 h g h1 g1
  go_enter Tryz.func68, Tryz.ntmps68
  go_wp2_with fail
  obtain ⟨W, E⟩ : ∃ W, W = w.alloc (.cells #[.bool (decide (n < 0)), .slice A (natL n.natAbs).length c, .bool (decide (d < 0)), .slice B (natL d.natAbs).length e0] 30) := ⟨_, rfl⟩
  rw [← E] at PX B0 RX RY ⊢
  clear E
  have T0 := Below.refl W.heap.size W
  obtain ⟨l0, x0, x1, x2, x3, -, -, -, -⟩ := (PX.out.below T0).facts
  go_wp2_with fail
  refine (H1.out _ (RX.out.below T0)).mono ?_
  rintro e w1 ⟨rfl, h⟩
  have T1 := belowTo T0 h
  clear h x0 x1 x2 x3 l0
  obtain ⟨l1, x0, x1, x2, x3, -, -, -, -⟩ := (PX.out.below T1).facts
  go_wp2_with fail
  refine (H2.out _ (RY.out.below T1)).mono ?_
  rintro e w2 ⟨rfl, h⟩
  have T2 := belowTo T1 h
  clear h x0 x1 x2 x3 l1
  obtain ⟨l2, x0, x1, x2, x3, -, -, -, -⟩ := (PX.out.below T2).facts
  go_wp2_with fail
  refine (H3.out _ (RY.out.below T2)).mono ?_
  rintro e w3 ⟨rfl, h⟩
  have T3 := belowTo T2 h
  clear h x0 x1 x2 x3 l2
  have BB := belowTo B0.out T3
  go_wp2_with fail
  go_ret
  exact ⟨rfl, BB⟩

set_option maxRecDepth 100000 in
set_option maxHeartbeats 1000000 in
theorem ratio_Check_fine (n d : Int) (A B : Option Addr) (c e0 : Nat) (w : World) (h : Raw w A c (natL n.natAbs)) (g : Raw w B e0 (natL d.natAbs)) (hn : Fit n) (hd : Fit d) (hd0 : 0 < d) (hg : gcdZ n d = 1) :
    Calls Tryz.prog 68 #[.agg #[.bool (decide (n < 0)), .slice A (natL n.natAbs).length c, .bool (decide (d < 0)), .slice B (natL d.natAbs).length e0]] w fun e w' => e = .returned (.int .i64 0) ∧ Below w.heap.size w w' := by
  have C1 := fun (V : World) (h : Raw V A c (natL n.natAbs)) => exact_Check_any (decide (n < 0)) A c _ V h
  have C2 := fun (V : World) (h : Raw V B e0 (natL d.natAbs)) => exact_Check_any (decide (d < 0)) B e0 _ V h
  unfold errI at C1 C2
  rw [if_pos hn.ok] at C1
  rw [if_pos hd.ok] at C2
  have hln : lz n ≤ 2048 := hn
  have hld : lz d ≤ 2048 := hd
  obtain ⟨s, hs⟩ : ∃ k : Int, k = d.sign := ⟨_, rfl⟩
  have C3 := fun (V : World) (h : Raw V B e0 (natL d.natAbs)) => esign d s B e0 V h hs
  have hs1 : 0 < s := by rw [hs]; exact Int.sign_pos_iff.2 hd0
  have H1 := Lib.hid C1
  have H2 := Lib.hid C2
  have H3 := Lib.hid C3
  obtain ⟨m, hm⟩ : ∃ k : Int, k = gcdZ n d := ⟨_, rfl⟩
  have hml : lz m ≤ 2048 := by rw [hm]; exact Nat.le_trans (gcdZ_lz (by omega)) hld
  have hm0 : m = 1 := by rw [hm]; exact hg
  obtain ⟨r, hr⟩ : ∃ k : Int, k = cmpz m 1 := ⟨_, rfl⟩
  have C4 := fun (V : World) (h : Raw V A c (natL n.natAbs)) (g : Raw V B e0 (natL d.natAbs)) => ecommon n d m A B c e0 V h g (by omega) (by omega) hm
  have C5 := fun (V : World) => eof 1 1 rfl (by decide) (by decide) V
  have C6 := fun (V : World) (A' B' : Option Addr) (c' e' : Nat) (h : Raw V A' c' (natL m.natAbs)) (g : Raw V B' e' (natL (1 : Int).natAbs)) => ecmp m 1 r A' B' c' e' V h g (by omega) (by decide) hr
  obtain ⟨u, hu⟩ : ∃ k : Int, k = 1 := ⟨_, rfl⟩
  have hr0 : r = 0 := by rw [hr]; unfold cmpz; rw [hm0]; decide
  have H4 := Lib.hid C4
  have H5 := Lib.hid C5
  have H6 := Lib.hid C6
  clear C1 C2 C3 C4 C5 C6 hn hd hd0 hg hs hln hld hm hml hm0 hr hu
  have px := Quad.new w (.bool (decide (n < 0))) (.slice A (natL n.natAbs).length c) (.bool (decide (d < 0))) (.slice B (natL d.natAbs).length e0)
  have b0 := (Below.refl w.heap.size w).alloc (Nat.le_refl _) (.cells #[.bool (decide (n < 0)), .slice A (natL n.natAbs).length c, .bool (decide (d < 0)), .slice B (natL d.natAbs).length e0] 30)
  have h1 := h.below b0
  have g1 := g.below b0
  have PX := Lib.hid px
  have B0 := Lib.hid b0
  have RX := Lib.hid h1
  have RY := Lib.hid g1
  clear px b0 h g h1 g1
  go_enter Tryz.func68, Tryz.ntmps68
  go_wp2_with fail
  obtain ⟨W, E⟩ : ∃ W, W = w.alloc (.cells #[.bool (decide (n < 0)), .slice A (natL n.natAbs).length c, .bool (decide (d < 0)), .slice B (natL d.natAbs).length e0] 30) := ⟨_, rfl⟩
  rw [← E] at PX B0 RX RY ⊢
  clear E
  have T0 := Below.refl W.heap.size W
  obtain ⟨l0, x0, x1, x2, x3, -, -, -, -⟩ := (PX.out.below T0).facts
  go_wp2_with fail
  refine (H1.out _ (RX.out.below T0)).mono ?_
  rintro e w1 ⟨rfl, h⟩
  have T1 := belowTo T0 h
  clear h x0 x1 x2 x3 l0
  obtain ⟨l1, x0, x1, x2, x3, -, -, -, -⟩ := (PX.out.below T1).facts
  go_wp2_with fail
  refine (H2.out _ (RY.out.below T1)).mono ?_
  rintro e w2 ⟨rfl, h⟩
  have T2 := belowTo T1 h
  clear h x0 x1 x2 x3 l1
  obtain ⟨l2, x0, x1, x2, x3, -, -, -, -⟩ := (PX.out.below T2).facts
  go_wp2_with fail
  refine (H3.out _ (RY.out.below T2)).mono ?_
  rintro e w3 ⟨rfl, h⟩
  have T3 := belowTo T2 h
  clear h x0 x1 x2 x3 l2
  obtain ⟨l3, x0, x1, x2, x3, -, -, -, -⟩ := (PX.out.below T3).facts
  go_wp2_with fail
  refine (H4.out _ (RX.out.below T3) (RY.out.below T3)).mono ?_
  rintro e w4 ⟨v, rfl, i4, h⟩
  have T4 := belowTo T3 h
  obtain ⟨A4, c4, rfl, r4⟩ := i4.raw
  clear i4
  clear h x0 x1 x2 x3 l3
  obtain ⟨l4, x0, x1, x2, x3, -, -, -, -⟩ := (PX.out.below T4).facts
  go_wp2_with fail
  refine (H5.out _).mono ?_
  rintro e w5 ⟨v, rfl, i5, h⟩
  have T5 := belowTo T4 h
  obtain ⟨A5, c5, rfl, r5⟩ := i5.raw
  have r45 := r4.below h
  clear i5 r4
  clear h x0 x1 x2 x3 l4
  obtain ⟨l5, x0, x1, x2, x3, -, -, -, -⟩ := (PX.out.below T5).facts
  go_wp2_with fail
  refine (H6.out _ A4 A5 c4 c5 r45 r5).mono ?_
  rintro e w6 ⟨rfl, h⟩
  have T6 := belowTo T5 h
  clear h x0 x1 x2 x3 l5
  have BB := belowTo B0.out T6
  go_wp2_with fail
  go_ret
  exact ⟨rfl, BB⟩

set_option maxRecDepth 100000 in
set_option maxHeartbeats 1000000 in
theorem ratio_Check_more (n d : Int) (A B : Option Addr) (c e0 : Nat) (w : World) (h : Raw w A c (natL n.natAbs)) (g : Raw w B e0 (natL d.natAbs)) (hn : Fit n) (hd : Fit d) (hd0 : 0 < d) (hg : gcdZ n d ≠ 1) :
    Calls Tryz.prog 68 #[.agg #[.bool (decide (n < 0)), .slice A (natL n.natAbs).length c, .bool (decide (d < 0)), .slice B (natL d.natAbs).length e0]] w fun e w' => e = .returned (.int .i64 1) ∧ Below w.heap.size w w' := by
  have C1 := fun (V : World) (h : Raw V A c (natL n.natAbs)) => exact_Check_any (decide (n < 0)) A c _ V h
  have C2 := fun (V : World) (h : Raw V B e0 (natL d.natAbs)) => exact_Check_any (decide (d < 0)) B e0 _ V h
  unfold errI at C1 C2
  rw [if_pos hn.ok] at C1
  rw [if_pos hd.ok] at C2
  have hln : lz n ≤ 2048 := hn
  have hld : lz d ≤ 2048 := hd
  obtain ⟨s, hs⟩ : ∃ k : Int, k = d.sign := ⟨_, rfl⟩
  have C3 := fun (V : World) (h : Raw V B e0 (natL d.natAbs)) => esign d s B e0 V h hs
  have hs1 : 0 < s := by rw [hs]; exact Int.sign_pos_iff.2 hd0
  have H1 := Lib.hid C1
  have H2 := Lib.hid C2
  have H3 := Lib.hid C3
  obtain ⟨m, hm⟩ : ∃ k : Int, k = gcdZ n d := ⟨_, rfl⟩
  have hml : lz m ≤ 2048 := by rw [hm]; exact Nat.le_trans (gcdZ_lz (by omega)) hld
  have hm0 : m ≠ 1 := by rw [hm]; exact hg
  obtain ⟨r, hr⟩ : ∃ k : Int, k = cmpz m 1 := ⟨_, rfl⟩
  have C4 := fun (V : World) (h : Raw V A c (natL n.natAbs)) (g : Raw V B e0 (natL d.natAbs)) => ecommon n d m A B c e0 V h g (by omega) (by omega) hm
  have C5 := fun (V : World) => eof 1 1 rfl (by decide) (by decide) V
  have C6 := fun (V : World) (A' B' : Option Addr) (c' e' : Nat) (h : Raw V A' c' (natL m.natAbs)) (g : Raw V B' e' (natL (1 : Int).natAbs)) => ecmp m 1 r A' B' c' e' V h g (by omega) (by decide) hr
  obtain ⟨u, hu⟩ : ∃ k : Int, k = 1 := ⟨_, rfl⟩
  have hr0 : r ≠ 0 := by rw [hr]; unfold cmpz; split <;> (try split) <;> omega
  have H4 := Lib.hid C4
  have H5 := Lib.hid C5
  have H6 := Lib.hid C6
  clear C1 C2 C3 C4 C5 C6 hn hd hd0 hg hs hln hld hm hml hm0 hr hu
  have px := Quad.new w (.bool (decide (n < 0))) (.slice A (natL n.natAbs).length c) (.bool (decide (d < 0))) (.slice B (natL d.natAbs).length e0)
  have b0 := (Below.refl w.heap.size w).alloc (Nat.le_refl _) (.cells #[.bool (decide (n < 0)), .slice A (natL n.natAbs).length c, .bool (decide (d < 0)), .slice B (natL d.natAbs).length e0] 30)
  have h1 := h.below b0
  have g1 := g.below b0
  have PX := Lib.hid px
  have B0 := Lib.hid b0
  have RX := Lib.hid h1
  have RY := Lib.hid g1
  clear px b0 h g h1 g1
  go_enter Tryz.func68, Tryz.ntmps68
  go_wp2_with fail
  obtain ⟨W, E⟩ : ∃ W, W = w.alloc (.cells #[.bool (decide (n < 0)), .slice A (natL n.natAbs).length c, .bool (decide (d < 0)), .slice B (natL d.natAbs).length e0] 30) := ⟨_, rfl⟩
  rw [← E] at PX B0 RX RY ⊢
  clear E
  have T0 := Below.refl W.heap.size W
  obtain ⟨l0, x0, x1, x2, x3, -, -, -, -⟩ := (PX.out.below T0).facts
  go_wp2_with fail
  refine (H1.out _ (RX.out.below T0)).mono ?_
  rintro e w1 ⟨rfl, h⟩
  have T1 := belowTo T0 h
  clear h x0 x1 x2 x3 l0
  obtain ⟨l1, x0, x1, x2, x3, -, -, -, -⟩ := (PX.out.below T1).facts
  go_wp2_with fail
  refine (H2.out _ (RY.out.below T1)).mono ?_
  rintro e w2 ⟨rfl, h⟩
  have T2 := belowTo T1 h
  clear h x0 x1 x2 x3 l1
  obtain ⟨l2, x0, x1, x2, x3, -, -, -, -⟩ := (PX.out.below T2).facts
  go_wp2_with fail
  refine (H3.out _ (RY.out.below T2)).mono ?_
  rintro e w3 ⟨rfl, h⟩
  have T3 := belowTo T2 h
  clear h x0 x1 x2 x3 l2
  obtain ⟨l3, x0, x1, x2, x3, -, -, -, -⟩ := (PX.out.below T3).facts
  go_wp2_with fail
  refine (H4.out _ (RX.out.below T3) (RY.out.below T3)).mono ?_
  rintro e w4 ⟨v, rfl, i4, h⟩
  have T4 := belowTo T3 h
  obtain ⟨A4, c4, rfl, r4⟩ := i4.raw
  clear i4
  clear h x0 x1 x2 x3 l3
  obtain ⟨l4, x0, x1, x2, x3, -, -, -, -⟩ := (PX.out.below T4).facts
  go_wp2_with fail
  refine (H5.out _).mono ?_
  rintro e w5 ⟨v, rfl, i5, h⟩
  have T5 := belowTo T4 h
  obtain ⟨A5, c5, rfl, r5⟩ := i5.raw
  have r45 := r4.below h
  clear i5 r4
  clear h x0 x1 x2 x3 l4
  obtain ⟨l5, x0, x1, x2, x3, -, -, -, -⟩ := (PX.out.below T5).facts
  go_wp2_with fail
  refine (H6.out _ A4 A5 c4 c5 r45 r5).mono ?_
  rintro e w6 ⟨rfl, h⟩
  have T6 := belowTo T5 h
  clear h x0 x1 x2 x3 l5
  have BB := belowTo B0.out T6
  go_wp2_with fail
  go_ret
  exact ⟨rfl, BB⟩

/-- What Check answers. -/
def chkE (n1 n2 : Bool) (xs ys : List Nat) : Int := if mkOk n1 n2 xs ys then (if 0 < ival n2 ys ∧ gcdZ (ival n1 xs) (ival n2 ys) = 1 then 0 else 1) else 1
theorem ratio_Check (n1 n2 : Bool) (A B : Option Addr) (c e0 : Nat) (xs ys : List Nat) (w : World) (h : Raw w A c xs) (g : Raw w B e0 ys) :
    Calls Tryz.prog 68 #[.agg #[.bool n1, .slice A xs.length c, .bool n2, .slice B ys.length e0]] w fun e w' => e = .returned (.int .i64 (chkE n1 n2 xs ys)) ∧ Below w.heap.size w w' := by
  unfold chkE mkOk
  cases o1 : okI n1 xs with
  | false => exact ratio_Check_bad_one n1 n2 A B c e0 xs ys o1 w h g
  | true =>
    cases o2 : okI n2 ys with
    | false => exact ratio_Check_bad_two n1 n2 A B c e0 xs ys o1 o2 w h g
    | true =>
      obtain ⟨a1, a2, a3⟩ := ok_num h.limbs o1
      obtain ⟨b1, b2, b3⟩ := ok_num g.limbs o2
      generalize ival n1 xs = x at a1 a2 a3 ⊢
      generalize ival n2 ys = y at b1 b2 b3 ⊢
      subst a1 a2 b1 b2
      simp only [Bool.and_self, if_true]
      by_cases hy : 0 < y
      · by_cases hg : gcdZ x y = 1
        · rw [if_pos ⟨hy, hg⟩]
          exact ratio_Check_fine x y A B c e0 w h g a3 b3 hy hg
        · rw [if_neg fun q => hg q.2]
          exact ratio_Check_more x y A B c e0 w h g a3 b3 hy hg
      · rw [if_neg fun q => hy q.1]
        exact ratio_Check_low x y A B c e0 w h g a3 b3 (by omega)
end Go.Proofs.YtadmoheohmbieaaGreatDoor
