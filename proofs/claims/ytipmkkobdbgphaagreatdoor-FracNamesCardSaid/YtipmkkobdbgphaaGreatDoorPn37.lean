/- Several texts in one: FRootZ, FRoot, Lives3, FRefMake. -/
import Derived.Test.YtipmkkobdbgphaaGreatDoorPn36
import Derived.Test.YtipmkkobdbgphaaGreatDoorPn27
import Derived.Test.YtipmkkobdbgphaaGreatDoorPnHd
import Derived.Test.YtipmkkobdbgphaaGreatDoorPn23
import Derived.Test.YtipmkkobdbgphaaGreatDoorPn24
import Derived.Test.YtipmkkobdbgphaaGreatDoorPn19
import Derived.Test.YtipmkkobdbgphaaGreatDoorPn21
import Derived.Test.YtipmkkobdbgphaaGreatDoorPn18
import Derived.Test.YtipmkkobdbgphaaGreatDoorPn14
set_option maxRecDepth 100000
set_option maxHeartbeats 8000000
/- Roots of package exact and of the references, of any number from 0 on. -/
namespace Go.Proofs.YtipmkkobdbgphaaGreatDoor
open Go.RowKit

theorem exact_Root_q (x r : Int) (sq : Bool) (A : Option Addr) (c : Nat) (w : World) (h : Raw w A c (natL x.natAbs)) (hx : lz x ≤ 60000) (h0 : 0 ≤ x) (hr : IsRootZ x r) (hs : sq = decide (r * r = x)) :
    Calls Tryz.prog 118 #[.agg #[.bool (decide (x < 0)), .slice A (natL x.natAbs).length c]] w (RetRoot w.heap.size w r sq) := by
  by_cases hx0 : x = 0
  · have e : r = 0 := rootZ_one h0 hr (by subst hx0; exact ⟨by omega, by omega, by omega⟩)
    have e2 : sq = true := by rw [hs, e, hx0]; rfl
    rw [e, e2]
    exact exact_Root_nought x A c w h hx0
  · by_cases hq : r * r = x
    · have e2 : sq = true := by rw [hs]; exact decide_eq_true hq
      rw [e2]; exact exact_Root_same x r A c w h hx (by omega) hr hq
    · have e2 : sq = false := by rw [hs]; exact decide_eq_false hq
      rw [e2]; exact exact_Root_less x r A c w h hx (by omega) hr hq
/- Root of package frac and of the references of chapter 02. (Written by wip/frac/genfroot.py.) -/

def RetFracOwn3 (base : Nat) (w : World) (n d : Int) (b : Bool) (k : Int) (e : Ending) (w' : World) : Prop := ∃ v, e = .returned (.tuple #[v, .bool b, .int .i64 k]) ∧ FracOwn w' base v n d ∧ Below w.heap.size w w'
theorem IntOwn.top {w : World} {base : Nat} {n : Int} {a : Value} {A : Option Addr} {k c : Nat} (h : IntOwn w base (.agg #[a, .slice A k c]) n) : ∀ x, (Value.slice A k c).ownBlock = some x → base ≤ x ∧ x < w.heap.size := h.mine
theorem FracOwn.of {w : World} {b1 b2 c e : Nat} {n d : Int} {A B : Option Addr} (h1 : IntOwn w b1 (.agg #[.bool (decide (n < 0)), .slice A (natL n.natAbs).length c]) n) (h2 : IntOwn w b2 (.agg #[.bool (decide (d < 0)), .slice B (natL d.natAbs).length e]) d) (hb : b1 ≤ b2)
    (ht : ∀ x, (Value.slice A (natL n.natAbs).length c).ownBlock = some x → x < b2) : FracOwn w b1 (.agg #[.bool (decide (n < 0)), .slice A (natL n.natAbs).length c, .bool (decide (d < 0)), .slice B (natL d.natAbs).length e]) n d := by
  refine ⟨A, c, B, e, rfl, h1, h2.base hb, fun g h h' => ?_⟩
  have := ht g h
  have := (h2.top g h').1
  omega

theorem frac_Root_neg (n d : Int) (A B : Option Addr) (c e0 : Nat) (w : World) (h : Raw w A c (natL n.natAbs)) (g : Raw w B e0 (natL d.natAbs)) (hc : (chkE (decide (n < 0)) (decide (d < 0)) (natL n.natAbs) (natL d.natAbs) == 0) = true) (hn : n < 0) :
    Calls Tryz.prog 35 #[.agg #[.bool (decide (n < 0)), .slice A (natL n.natAbs).length c, .bool (decide (d < 0)), .slice B (natL d.natAbs).length e0]] w (RetFracOwn3 w.heap.size w 0 0 false 1) := by
  have C1 := fun (V : World) (g' : Nat) (h : Raw V A c (natL n.natAbs)) (g : Raw V B e0 (natL d.natAbs)) (hg : V.heap.size = g') => checks_new (decide (n < 0)) (decide (d < 0)) A B c e0 _ _ V g' h g hg
  rw [hc] at C1
  have H1 := Hd C1
  clear C1 hc
  obtain ⟨sg, hsg⟩ : ∃ k : Int, k = n.sign := ⟨_, rfl⟩
  have H2 := Hd (fun (V : World) (h : Raw V A c (natL n.natAbs)) => ratio_Sign n sg d A B c e0 V h hsg)
  have HSG := Hd (show sg < 0 from by rw [hsg, Int.sign_eq_neg_one_of_neg hn]; decide)
  clear hsg hn
  have px := (Quad.new w (.bool (decide (n < 0))) (.slice A (natL n.natAbs).length c) (.bool (decide (d < 0))) (.slice B (natL d.natAbs).length e0)).alloc (.cells #[.bool false, .slice none 0 0, .bool false, .slice none 0 0] 27)
  have pr := Quad.new (w.alloc (.cells #[.bool (decide (n < 0)), .slice A (natL n.natAbs).length c, .bool (decide (d < 0)), .slice B (natL d.natAbs).length e0] 27)) (.bool false) (.slice none 0 0) (.bool false) (.slice none 0 0)
  have b0 := ((Below.refl w.heap.size w).alloc (Nat.le_refl _) (.cells #[.bool (decide (n < 0)), .slice A (natL n.natAbs).length c, .bool (decide (d < 0)), .slice B (natL d.natAbs).length e0] 27)).alloc (by simp) (.cells #[.bool false, .slice none 0 0, .bool false, .slice none 0 0] 27)
  simp only [World.size_alloc] at pr
  have PX := Hd px
  have PR := Hd pr
  have HB := Hd b0
  have RX := Hd (h.below b0)
  have RY := Hd (g.below b0)
  clear px pr b0 h g
  go_enter Tryz.func35, Tryz.ntmps35
  go_upto_region 1 with fail
  obtain ⟨W, E⟩ : ∃ W, W = (w.alloc (.cells #[.bool (decide (n < 0)), .slice A (natL n.natAbs).length c, .bool (decide (d < 0)), .slice B (natL d.natAbs).length e0] 27)).alloc (.cells #[.bool false, .slice none 0 0, .bool false, .slice none 0 0] 27) := ⟨_, rfl⟩
  rw [← E] at PX PR HB RX RY ⊢
  clear E
  have HS0 := Hd (show w.heap.size ≤ W.heap.size from HB.out.size)
  obtain ⟨l_x, x0, x1, x2, x3, -, -, -, -⟩ := PX.out.facts
  go_wp2_with fail
  refine (H1.out W _ RX.out RY.out rfl).mono ?_
  rintro e V ⟨rfl, hb⟩
  have hb := ((Below.refl W.heap.size W).alloc (Nat.le_refl _) (.cells #[.bool (decide (n < 0)), .slice A (natL n.natAbs).length c, .bool (decide (d < 0)), .slice B (natL d.natAbs).length e0] 27)).trans (hb.mono (by simp))
  have PX := Hd (PX.out.below hb)
  have PR := Hd (PR.out.below hb)
  have RX := Hd (RX.out.below hb)
  have RY := Hd (RY.out.below hb)
  have HB := Hd (belowTo HB.out hb)
  clear hb l_x x0 x1 x2 x3
  obtain ⟨l_x, x0, x1, x2, x3, -, -, -, -⟩ := PX.out.facts
  have hs := HSG.out
  go_wp2_with fail
  refine (H2.out V RX.out).mono ?_
  rintro e V' ⟨rfl, hb⟩
  have PX := Hd (PX.out.below hb)
  have PR := Hd (PR.out.below hb)
  have RX := Hd (RX.out.below hb)
  have RY := Hd (RY.out.below hb)
  have HB := Hd (belowTo HB.out hb)
  clear hb l_x x0 x1 x2 x3
  obtain ⟨l_x, x0, x1, x2, x3, -, -, -, -⟩ := PX.out.facts
  obtain ⟨l_r, r0, r1, r2, r3, f0, f1, f2, f3⟩ := PR.out.facts
  have HQ := Hd (PR.out.store (.bool false) (.slice none 0 0) (.bool false) (.slice none 0 0))
  have HF := Hd (below4 HB.out (show w.heap.size ≤ w.heap.size + 1 by omega) (.bool false) (.slice none 0 0) (.bool false) (.slice none 0 0))
  go_wp2_with fail
  obtain ⟨_, k0, k1, k2, k3, _⟩ := HQ.out.facts
  exact bodyPost_ret (by simp [results, Tryz.results35, go_sem, k0, k1, k2, k3]) rfl ⟨_, rfl, FracOwn.nought _ _, HF.out⟩

theorem frac_Root_no2 (n d r s : Int) (A B : Option Addr) (c e0 : Nat) (w : World) (h : Raw w A c (natL n.natAbs)) (g : Raw w B e0 (natL d.natAbs)) (hc : (chkE (decide (n < 0)) (decide (d < 0)) (natL n.natAbs) (natL d.natAbs) == 0) = true) (hn : 0 ≤ n) (hd : 0 ≤ d) (hln : lz n ≤ 60000) (hld : lz d ≤ 60000) (hr : IsRootZ n r) (hs : IsRootZ d s) (h1 : decide (r * r = n) = true) (h2 : decide (s * s = d) = false) :
    Calls Tryz.prog 35 #[.agg #[.bool (decide (n < 0)), .slice A (natL n.natAbs).length c, .bool (decide (d < 0)), .slice B (natL d.natAbs).length e0]] w (RetFracOwn3 w.heap.size w 0 0 false 0) := by
  have C1 := fun (V : World) (g' : Nat) (h : Raw V A c (natL n.natAbs)) (g : Raw V B e0 (natL d.natAbs)) (hg : V.heap.size = g') => checks_new (decide (n < 0)) (decide (d < 0)) A B c e0 _ _ V g' h g hg
  rw [hc] at C1
  have H1 := Hd C1
  clear C1 hc
  obtain ⟨sg, hsg⟩ : ∃ k : Int, k = n.sign := ⟨_, rfl⟩
  have H2 := Hd (fun (V : World) (h : Raw V A c (natL n.natAbs)) => ratio_Sign n sg d A B c e0 V h hsg)
  have HSG := Hd (show ¬ sg < 0 from by rw [hsg]; have := sign_cases n; omega)
  have H3 := Hd (fun (V : World) (h : Raw V A c (natL n.natAbs)) => exact_Root_q n r true A c V h hln hn hr h1.symm)
  have H4 := Hd (fun (V : World) (h : Raw V B e0 (natL d.natAbs)) => exact_Root_q d s false B e0 V h hld hd hs h2.symm)
  clear hsg hn hd hln hld hr hs h1 h2
  have px := (Quad.new w (.bool (decide (n < 0))) (.slice A (natL n.natAbs).length c) (.bool (decide (d < 0))) (.slice B (natL d.natAbs).length e0)).alloc (.cells #[.bool false, .slice none 0 0, .bool false, .slice none 0 0] 27)
  have pr := Quad.new (w.alloc (.cells #[.bool (decide (n < 0)), .slice A (natL n.natAbs).length c, .bool (decide (d < 0)), .slice B (natL d.natAbs).length e0] 27)) (.bool false) (.slice none 0 0) (.bool false) (.slice none 0 0)
  have b0 := ((Below.refl w.heap.size w).alloc (Nat.le_refl _) (.cells #[.bool (decide (n < 0)), .slice A (natL n.natAbs).length c, .bool (decide (d < 0)), .slice B (natL d.natAbs).length e0] 27)).alloc (by simp) (.cells #[.bool false, .slice none 0 0, .bool false, .slice none 0 0] 27)
  simp only [World.size_alloc] at pr
  have PX := Hd px
  have PR := Hd pr
  have HB := Hd b0
  have RX := Hd (h.below b0)
  have RY := Hd (g.below b0)
  clear px pr b0 h g
  go_enter Tryz.func35, Tryz.ntmps35
  go_upto_region 1 with fail
  obtain ⟨W, E⟩ : ∃ W, W = (w.alloc (.cells #[.bool (decide (n < 0)), .slice A (natL n.natAbs).length c, .bool (decide (d < 0)), .slice B (natL d.natAbs).length e0] 27)).alloc (.cells #[.bool false, .slice none 0 0, .bool false, .slice none 0 0] 27) := ⟨_, rfl⟩
  rw [← E] at PX PR HB RX RY ⊢
  clear E
  have HS0 := Hd (show w.heap.size ≤ W.heap.size from HB.out.size)
  obtain ⟨l_x, x0, x1, x2, x3, -, -, -, -⟩ := PX.out.facts
  go_wp2_with fail
  refine (H1.out W _ RX.out RY.out rfl).mono ?_
  rintro e V ⟨rfl, hb⟩
  have hb := ((Below.refl W.heap.size W).alloc (Nat.le_refl _) (.cells #[.bool (decide (n < 0)), .slice A (natL n.natAbs).length c, .bool (decide (d < 0)), .slice B (natL d.natAbs).length e0] 27)).trans (hb.mono (by simp))
  have PX := Hd (PX.out.below hb)
  have PR := Hd (PR.out.below hb)
  have RX := Hd (RX.out.below hb)
  have RY := Hd (RY.out.below hb)
  have HB := Hd (belowTo HB.out hb)
  clear hb l_x x0 x1 x2 x3
  obtain ⟨l_x, x0, x1, x2, x3, -, -, -, -⟩ := PX.out.facts
  have hs := HSG.out
  go_wp2_with fail
  refine (H2.out V RX.out).mono ?_
  rintro e V' ⟨rfl, hb⟩
  have PX := Hd (PX.out.below hb)
  have PR := Hd (PR.out.below hb)
  have RX := Hd (RX.out.below hb)
  have RY := Hd (RY.out.below hb)
  have HB := Hd (belowTo HB.out hb)
  clear hb l_x x0 x1 x2 x3
  clear hs
  have hs := HSG.out
  obtain ⟨l_x, x0, x1, x2, x3, -, -, -, -⟩ := PX.out.facts
  go_wp2_with fail
  refine (H3.out V' RX.out).mono ?_
  rintro e wx1 ⟨v, rfl, hI, hb⟩
  clear l_x x0 x1 x2 x3
  clear hs
  obtain ⟨A1, c1, rfl, -⟩ := hI.raw
  have I1 := Hd hI
  have T1 := Hd hI.top
  clear hI
  have HS_wx1 := Hd (show V'.heap.size ≤ wx1.heap.size from hb.size)
  have PX := Hd (PX.out.below hb)
  have PR := Hd (PR.out.below hb)
  have RX := Hd (RX.out.below hb)
  have RY := Hd (RY.out.below hb)
  have HB := Hd (belowTo HB.out hb)
  have ha := (Below.refl wx1.heap.size wx1).alloc (Nat.le_refl _) (.cells #[.bool (decide (r < 0)), .slice A1 (natL r.natAbs).length c1] 25)
  have hn := Pair.new wx1 25 (.bool (decide (r < 0))) (.slice A1 (natL r.natAbs).length c1)
  have hz : (wx1.alloc (.cells #[.bool (decide (r < 0)), .slice A1 (natL r.natAbs).length c1] 25)).heap.size = wx1.heap.size + 1 := by simp
  go_upto_region 4 with fail
  obtain ⟨wy2, E⟩ : ∃ W, W = wx1.alloc (.cells #[.bool (decide (r < 0)), .slice A1 (natL r.natAbs).length c1] 25) := ⟨_, rfl⟩
  obtain ⟨q2, hq⟩ : ∃ q, q = wx1.heap.size := ⟨_, rfl⟩
  rw [← E] at ha
  rw [← E, ← hq] at hn hz ⊢
  have HZ_wy2 := Hd (And.intro hq hz)
  have P1 := Hd hn
  have PX := Hd (PX.out.below ha)
  have PR := Hd (PR.out.below ha)
  have RX := Hd (RX.out.below ha)
  have RY := Hd (RY.out.below ha)
  have I1 := Hd (I1.out.below ha)
  have HB := Hd (belowTo HB.out ha)
  clear ha hn hz hq E
  obtain ⟨l_x, x0, x1, x2, x3, -, -, -, -⟩ := PX.out.facts
  go_wp2_with fail
  refine (H4.out wy2 RY.out).mono ?_
  rintro e wx3 ⟨v, rfl, hI, hb⟩
  clear l_x x0 x1 x2 x3
  obtain ⟨A2, c2, rfl, -⟩ := hI.raw
  have I2 := Hd hI
  clear hI
  have HS_wx3 := Hd (show wy2.heap.size ≤ wx3.heap.size from hb.size)
  have PX := Hd (PX.out.below hb)
  have PR := Hd (PR.out.below hb)
  have RX := Hd (RX.out.below hb)
  have RY := Hd (RY.out.below hb)
  have I1 := Hd (I1.out.below hb)
  have P1 := Hd (P1.out.below hb)
  have HB := Hd (belowTo HB.out hb)
  have ha := (Below.refl wx3.heap.size wx3).alloc (Nat.le_refl _) (.cells #[.bool (decide (s < 0)), .slice A2 (natL s.natAbs).length c2] 25)
  have hn := Pair.new wx3 25 (.bool (decide (s < 0))) (.slice A2 (natL s.natAbs).length c2)
  have hz : (wx3.alloc (.cells #[.bool (decide (s < 0)), .slice A2 (natL s.natAbs).length c2] 25)).heap.size = wx3.heap.size + 1 := by simp
  go_upto_region 5 with fail
  obtain ⟨wy4, E⟩ : ∃ W, W = wx3.alloc (.cells #[.bool (decide (s < 0)), .slice A2 (natL s.natAbs).length c2] 25) := ⟨_, rfl⟩
  obtain ⟨q4, hq⟩ : ∃ q, q = wx3.heap.size := ⟨_, rfl⟩
  rw [← E] at ha
  rw [← E, ← hq] at hn hz ⊢
  have HZ_wy4 := Hd (And.intro hq hz)
  have P2 := Hd hn
  have PX := Hd (PX.out.below ha)
  have PR := Hd (PR.out.below ha)
  have RX := Hd (RX.out.below ha)
  have RY := Hd (RY.out.below ha)
  have I1 := Hd (I1.out.below ha)
  have P1 := Hd (P1.out.below ha)
  have I2 := Hd (I2.out.below ha)
  have HB := Hd (belowTo HB.out ha)
  clear ha hn hz hq E
  obtain ⟨l_x, x0, x1, x2, x3, -, -, -, -⟩ := PX.out.facts
  obtain ⟨l_r, r0, r1, r2, r3, f0, f1, f2, f3⟩ := PR.out.facts
  have HQ := Hd (PR.out.store (.bool false) (.slice none 0 0) (.bool false) (.slice none 0 0))
  have HF := Hd (below4 HB.out (show w.heap.size ≤ w.heap.size + 1 by omega) (.bool false) (.slice none 0 0) (.bool false) (.slice none 0 0))
  go_wp2_with fail
  obtain ⟨_, k0, k1, k2, k3, _⟩ := HQ.out.facts
  exact bodyPost_ret (by simp [results, Tryz.results35, go_sem, k0, k1, k2, k3]) rfl ⟨_, rfl, FracOwn.nought _ _, HF.out⟩

/- lives of the laws of chapter 02: the answers that the document fixes. (Written by wip/frac/genlives3.py.) -/

theorem frac_Make_ours (n d : Int) (A B : Option Addr) (c e0 : Nat) (w : World) (h : Raw w A c (natL n.natAbs)) (g : Raw w B e0 (natL d.natAbs)) (o1 : IntOwn w 0 (.agg #[.bool (decide (n < 0)), .slice A (natL n.natAbs).length c]) n) (o2 : IntOwn w 0 (.agg #[.bool (decide (d < 0)), .slice B (natL d.natAbs).length e0]) d) (hn : Fit n) (hd : Fit d) (hd0 : d ≠ 0) :
    Calls Tryz.prog 120 #[.agg #[.bool (decide (n < 0)), .slice A (natL n.natAbs).length c], .agg #[.bool (decide (d < 0)), .slice B (natL d.natAbs).length e0]] w (RetFracOwn2 w.heap.size w (lowN n d) (lowD n d) 0) := by
  have C1 := fun (V : World) (h : Raw V A c (natL n.natAbs)) => exact_Check_any (decide (n < 0)) A c _ V h
  have C2 := fun (V : World) (h : Raw V B e0 (natL d.natAbs)) => exact_Check_any (decide (d < 0)) B e0 _ V h
  unfold errI at C1 C2
  rw [if_pos hn.ok] at C1
  rw [if_pos hd.ok] at C2
  have hln : lz n ≤ 2048 := hn
  have hld : lz d ≤ 2048 := hd
  obtain ⟨s, hs⟩ : ∃ k : Int, k = d.sign := ⟨_, rfl⟩
  have C3 := fun (V : World) (h : Raw V B e0 (natL d.natAbs)) => esign d s B e0 V h hs
  have C4 := fun (V : World) (o1 : IntOwn V 0 (.agg #[.bool (decide (n < 0)), .slice A (natL n.natAbs).length c]) n) (o2 : IntOwn V 0 (.agg #[.bool (decide (d < 0)), .slice B (natL d.natAbs).length e0]) d) => elow n d A B c e0 V o1.rawAt o2.rawAt o1 o2 (by omega) (by omega) hd0
  have hl1 : lz (lowN n d) ≤ 2048 := Nat.le_trans (lowN_lz n d) hln
  have hl2 : lz (lowD n d) ≤ 2048 := Nat.le_trans (lowD_lz n d) hld
  have C5 := fun (V : World) (A' B' : Option Addr) (c' e' : Nat) (h : Raw V A' c' (natL (lowN n d).natAbs)) (g : Raw V B' e' (natL (lowD n d).natAbs)) => frac_answered_fits (lowN n d) (lowD n d) A' B' c' e' V h g hl1 hl2
  obtain ⟨p, hp⟩ : ∃ k : Int, k = lowN n d := ⟨_, rfl⟩
  obtain ⟨q, hq⟩ : ∃ k : Int, k = lowD n d := ⟨_, rfl⟩
  rw [← hp, ← hq] at C4 C5 ⊢
  have H1 := Hd C1
  have H2 := Hd C2
  have H3 := Hd C3
  have H4 := Hd C4
  have H5 := Hd C5
  have hs1 : decide (s = 0) = false := decide_eq_false (by rw [hs]; intro e; exact hd0 (Int.sign_eq_zero_iff_zero.1 e))
  have hs0 : (s == 0) = false := by simpa using hs1
  clear C1 C2 C3 C4 C5 hn hd hd0 hs hln hld hl1 hl2 hp hq
  have px := ((Pair.new w 25 (.bool (decide (n < 0))) (.slice A (natL n.natAbs).length c)).alloc (.cells #[.bool (decide (d < 0)), .slice B (natL d.natAbs).length e0] 25)).alloc (.cells #[.bool false, .slice none 0 0, .bool false, .slice none 0 0] 27)
  have py := (Pair.new (w.alloc (.cells #[.bool (decide (n < 0)), .slice A (natL n.natAbs).length c] 25)) 25 (.bool (decide (d < 0))) (.slice B (natL d.natAbs).length e0)).alloc (.cells #[.bool false, .slice none 0 0, .bool false, .slice none 0 0] 27)
  have pr := Quad.new ((w.alloc (.cells #[.bool (decide (n < 0)), .slice A (natL n.natAbs).length c] 25)).alloc (.cells #[.bool (decide (d < 0)), .slice B (natL d.natAbs).length e0] 25)) (.bool false) (.slice none 0 0) (.bool false) (.slice none 0 0)
  have b0 := (((Below.refl w.heap.size w).alloc (Nat.le_refl _) (.cells #[.bool (decide (n < 0)), .slice A (natL n.natAbs).length c] 25)).alloc (by simp) (.cells #[.bool (decide (d < 0)), .slice B (natL d.natAbs).length e0] 25)).alloc (by simp; omega) (.cells #[.bool false, .slice none 0 0, .bool false, .slice none 0 0] 27)
  simp only [World.size_alloc] at py pr
  have OX := Hd (o1.below b0)
  have OY := Hd (o2.below b0)
  have h1 := h.below b0
  have g1 := g.below b0
  have PX := Hd px
  have PY := Hd py
  have PR := Hd pr
  have B0 := Hd b0
  have RX := Hd h1
  have RY := Hd g1
  clear px py pr b0 h g h1 g1 o1 o2
  go_enter Tryz.func120, Tryz.ntmps120
  go_wp2_with fail
  obtain ⟨W, E⟩ : ∃ W, W = ((w.alloc (.cells #[.bool (decide (n < 0)), .slice A (natL n.natAbs).length c] 25)).alloc (.cells #[.bool (decide (d < 0)), .slice B (natL d.natAbs).length e0] 25)).alloc (.cells #[.bool false, .slice none 0 0, .bool false, .slice none 0 0] 27) := ⟨_, rfl⟩
  rw [← E] at PX PY PR B0 RX RY OX OY ⊢
  clear E
  have T0 := Below.refl W.heap.size W
  obtain ⟨l0, x0, x1, -, -⟩ := (PX.out.below T0).facts
  obtain ⟨m0, y0, y1, -, -⟩ := (PY.out.below T0).facts
  go_wp2_with fail
  refine (H1.out _ (RX.out.below T0)).mono ?_
  rintro e w1 ⟨rfl, h⟩
  have T1 := belowTo T0 h
  clear h x0 x1 y0 y1 l0 m0
  obtain ⟨l1, x0, x1, -, -⟩ := (PX.out.below T1).facts
  obtain ⟨m1, y0, y1, -, -⟩ := (PY.out.below T1).facts
  go_wp2_with fail
  refine (H2.out _ (RY.out.below T1)).mono ?_
  rintro e w2 ⟨rfl, h⟩
  have T2 := belowTo T1 h
  clear h x0 x1 y0 y1 l1 m1
  obtain ⟨l2, x0, x1, -, -⟩ := (PX.out.below T2).facts
  obtain ⟨m2, y0, y1, -, -⟩ := (PY.out.below T2).facts
  go_wp2_with fail
  refine (H3.out _ (RY.out.below T2)).mono ?_
  rintro e w3 ⟨rfl, h⟩
  have T3 := belowTo T2 h
  clear h x0 x1 y0 y1 l2 m2
  obtain ⟨l3, x0, x1, -, -⟩ := (PX.out.below T3).facts
  obtain ⟨m3, y0, y1, -, -⟩ := (PY.out.below T3).facts
  go_wp2_with fail
  refine (H4.out _ (OX.out.below T3) (OY.out.below T3)).mono ?_
  rintro e w4 ⟨v, rfl, hF, h⟩
  have T4 := belowTo T3 h
  clear h x0 x1 y0 y1 l3 m3
  obtain ⟨A', c', B', e', rfl, r1, r2⟩ := hF.at_.form
  clear hF
  go_wp2_with fail
  refine (H5.out _ A' B' c' e' r1 r2).mono ?_
  rintro e w5 ⟨v, rfl, hI, h⟩
  have T5 := belowTo T4 h
  have pr2 := PR.out.below T5
  have BB := belowTo B0.out T5
  have hsz := belowTo B0.out T4
  obtain ⟨A1, c1, A2, c2, rfl, -⟩ := hI.form
  obtain ⟨l5, z0, z1, z2, z3, f0, f1, f2, f3⟩ := pr2.facts
  clear r1 r2 h
  go_wp2_with fail
  have hq := pr2.store (.bool (decide (p < 0))) (.slice A1 (natL p.natAbs).length c1) (.bool (decide (q < 0))) (.slice A2 (natL q.natAbs).length c2)
  obtain ⟨_, k0, k1, k2, k3, _⟩ := hq.facts
  have hs9 := hsz.size
  exact bodyPost_ret (by simp [results, Tryz.results120, go_sem, k0, k1, k2, k3]) rfl ⟨_, rfl, (hI.quad pr2 _ _ _ _).base hs9, below4 BB (by omega) _ _ _ _⟩

theorem frac_Make_oz (n d : Int) (A B : Option Addr) (c e0 : Nat) (w : World) (h : Raw w A c (natL n.natAbs)) (g : Raw w B e0 (natL d.natAbs)) (o1 : IntOwn w 0 (.agg #[.bool (decide (n < 0)), .slice A (natL n.natAbs).length c]) n) (o2 : IntOwn w 0 (.agg #[.bool (decide (d < 0)), .slice B (natL d.natAbs).length e0]) d) (hn : Fit n) (hd : Fit d) :
    Calls Tryz.prog 120 #[.agg #[.bool (decide (n < 0)), .slice A (natL n.natAbs).length c], .agg #[.bool (decide (d < 0)), .slice B (natL d.natAbs).length e0]] w (RetFracOwn2 w.heap.size w (zN n d) (zD n d) (zE d)) := by
  unfold zN zD zE
  by_cases hy : d = 0
  · simp only [if_pos hy]
    exact frac_Make_nought n d A B c e0 w h g hn hd hy
  · simp only [if_neg hy]
    exact frac_Make_ours n d A B c e0 w h g o1 o2 hn hd hy

theorem frac_Of_ours (n d : Int) (n1 : -9223372036854775808 ≤ n) (n2 : n ≤ 9223372036854775807) (d1 : -9223372036854775808 ≤ d) (d2 : d ≤ 9223372036854775807) (w : World) :
    Calls Tryz.prog 38 #[.int .i64 n, .int .i64 d] w (RetFracOwn2 w.heap.size w (zN n d) (zD n d) (zE d)) := by
  have fn : Fit n := (okI_true.1 (ok64' n n1 n2)).1
  have fd : Fit d := (okI_true.1 (ok64' d d1 d2)).1
  have C3 := fun (V : World) (A B : Option Addr) (c e0 : Nat) (h : Raw V A c (natL n.natAbs)) (g : Raw V B e0 (natL d.natAbs)) (o1 : IntOwn V 0 (.agg #[.bool (decide (n < 0)), .slice A (natL n.natAbs).length c]) n) (o2 : IntOwn V 0 (.agg #[.bool (decide (d < 0)), .slice B (natL d.natAbs).length e0]) d) => frac_Make_oz n d A B c e0 V h g o1 o2 fn fd
  have C1 := fun (V : World) => eof n n rfl n1 n2 V
  have C2 := fun (V : World) => eof d d rfl d1 d2 V
  obtain ⟨p, hp⟩ : ∃ k : Int, k = zN n d := ⟨_, rfl⟩
  obtain ⟨q, hq⟩ : ∃ k : Int, k = zD n d := ⟨_, rfl⟩
  obtain ⟨k, hk⟩ : ∃ k : Int, k = zE d := ⟨_, rfl⟩
  rw [← hp, ← hq, ← hk] at C3 ⊢
  have H1 := Hd C1
  have H2 := Hd C2
  have H3 := Hd C3
  clear C1 C2 C3 fn fd n1 n2 d1 d2 hp hq hk
  have pr := Quad.new w (.bool false) (.slice none 0 0) (.bool false) (.slice none 0 0)
  have b0 := (Below.refl w.heap.size w).alloc (Nat.le_refl _) (.cells #[.bool false, .slice none 0 0, .bool false, .slice none 0 0] 27)
  have PR := Hd pr
  have B0 := Hd b0
  clear pr b0
  go_enter Tryz.func38, Tryz.ntmps38
  go_wp2_with fail
  refine (H1.out _).mono ?_
  rintro e w1 ⟨v, rfl, i1, h⟩
  have T1 := belowTo B0.out h
  have p1 := PR.out.below h
  obtain ⟨A, c, rfl, r1⟩ := i1.raw
  have o1 := Hd (i1.base (Nat.zero_le _))
  clear h i1
  go_wp2_with fail
  refine (H2.out _).mono ?_
  rintro e w2 ⟨v, rfl, i2, h⟩
  have T2 := belowTo T1 h
  have p2 := p1.below h
  obtain ⟨B, e0, rfl, r2⟩ := i2.raw
  have o1 := Hd (o1.out.below h)
  have o2 := Hd (i2.base (Nat.zero_le _))
  have r3 := r1.below h
  clear h i2 r1 p1 T1
  go_wp2_with fail
  refine (H3.out _ A B c e0 r3 r2 o1.out o2.out).mono ?_
  rintro e w3 ⟨v, rfl, hI, h⟩
  have T3 := belowTo T2 h
  have p3 := p2.below h
  have hsz := T2.size
  obtain ⟨A1, c1, A2, c2, rfl, -⟩ := hI.form
  obtain ⟨l5, z0, z1, z2, z3, f0, f1, f2, f3⟩ := p3.facts
  clear h r3 r2 p2 T2
  go_wp2_with fail
  have hq := p3.store (.bool (decide (p < 0))) (.slice A1 (natL p.natAbs).length c1) (.bool (decide (q < 0))) (.slice A2 (natL q.natAbs).length c2)
  obtain ⟨_, k0, k1, k2, k3, _⟩ := hq.facts
  exact bodyPost_ret (by simp [results, Tryz.results38, go_sem, k0, k1, k2, k3]) rfl ⟨_, rfl, (hI.quad p3 _ _ _ _).base hsz, below4 T3 (by omega) _ _ _ _⟩

theorem frac_text_same : (⟨#[45, 51, 47, 50]⟩ : ByteArray) = ⟨(fracText (-3) 2).toArray⟩ := by
  have h3 : Lib.itoa (-3) = [45, 51] := by
    rw [show (-3 : Int) = -((3 : Nat) : Int) from rfl, Lib.itoa_neg _ (by decide), Lib.decDigits_one (by omega)]; rfl
  have h2 : Lib.itoa 2 = [50] := by
    rw [show (2 : Int) = ((2 : Nat) : Int) from rfl, Lib.itoa_nonneg, Lib.decDigits_one (by omega)]; rfl
  unfold fracText
  rw [if_neg (by decide), h3, h2]
  rfl

theorem lives_ours (w : World) (htab : powTab w) :
    Calls Tryz.prog 20 #[] w fun e w' => e = .returned (.bool true) ∧ Below w.heap.size w w' := by
  have C1 := fun (V : World) => frac_Of_ours 6 (-4) (by decide) (by decide) (by decide) (by decide) V
  have C2 := fun (V : World) => frac_Of_ours 1 0 (by decide) (by decide) (by decide) (by decide) V
  rw [show zN 6 (-4) = -3 by decide +kernel, show zD 6 (-4) = 2 by decide +kernel, show zE (-4) = 0 by decide] at C1
  rw [show zN 1 0 = 0 by decide +kernel, show zD 1 0 = 0 by decide +kernel, show zE 0 = 3 by decide] at C2
  obtain ⟨n, hn⟩ : ∃ k : Int, k = -3 := ⟨_, rfl⟩
  obtain ⟨d, hd⟩ : ∃ k : Int, k = 2 := ⟨_, rfl⟩
  rw [← hn, ← hd] at C1
  obtain ⟨z, hz⟩ : ∃ k : Int, k = 0 := ⟨_, rfl⟩
  have C2 : ∀ V : World, Calls Tryz.prog 38 #[.int .i64 1, .int .i64 0] V (RetFracOwn2 V.heap.size V z z 3) := by rw [hz]; exact C2
  have fn : Fit n := Fit.small (by rw [hn]; decide)
  have fd : Fit d := Fit.small (by rw [hd]; decide)
  have hc : chkE (decide (n < 0)) (decide (d < 0)) (natL n.natAbs) (natL d.natAbs) = 0 := by
    unfold chkE mkOk
    rw [fn.ok, fd.ok, ival_at, ival_at, hn, hd]
    decide +kernel
  have C3 := fun (V : World) (A B : Option Addr) (c e0 : Nat) (h : Raw V A c (natL n.natAbs)) (g : Raw V B e0 (natL d.natAbs)) (ht : powTab V) => frac_Text_good n d ⟨#[45, 51, 47, 50]⟩ A B c e0 V h g ht fn fd hc (by rw [hn, hd]; exact frac_text_same) (by decide)
  have C4 := fun (V : World) (A B : Option Addr) (c e0 : Nat) (h : Raw V A c (natL n.natAbs)) (g : Raw V B e0 (natL d.natAbs)) => frac_Sign_good n d (-1) A B c e0 V h g hc (by rw [hn]; decide)
  have H1 := Hd C1
  have H2 := Hd C2
  have H3 := Hd C3
  have H4 := Hd C4
  have HT := Hd htab
  clear C1 C2 C3 C4 fn fd hc hn hd hz htab
  go_enter Tryz.func20, Tryz.ntmps20
  go_wp2_with fail
  refine (H1.out w).mono ?_
  rintro e w1 ⟨v, rfl, hI, h1⟩
  have T1 := Hd h1
  obtain ⟨A, c, B, e0, rfl, i1, i2, -⟩ := hI.form
  obtain ⟨gx, hgx⟩ : ∃ k, k = w1.heap.size := ⟨_, rfl⟩
  obtain ⟨W, E⟩ : ∃ W, W = w1.alloc (.cells #[.bool (decide (n < 0)), .slice A (natL n.natAbs).length c, .bool (decide (d < 0)), .slice B (natL d.natAbs).length e0] 27) := ⟨_, rfl⟩
  have px := Quad.new w1 (.bool (decide (n < 0))) (.slice A (natL n.natAbs).length c) (.bool (decide (d < 0))) (.slice B (natL d.natAbs).length e0)
  have r1 := i1.rawAt.alloc (.cells #[.bool (decide (n < 0)), .slice A (natL n.natAbs).length c, .bool (decide (d < 0)), .slice B (natL d.natAbs).length e0] 27)
  have r2 := i2.rawAt.alloc (.cells #[.bool (decide (n < 0)), .slice A (natL n.natAbs).length c, .bool (decide (d < 0)), .slice B (natL d.natAbs).length e0] 27)
  have T2 := T1.out.alloc T1.out.size (.cells #[.bool (decide (n < 0)), .slice A (natL n.natAbs).length c, .bool (decide (d < 0)), .slice B (natL d.natAbs).length e0] 27)
  clear hI i1 i2 h1
  go_upto_region 2 with fail
  rw [← E, ← hgx] at px ⊢
  rw [← E] at r1 r2 T2
  have PX := Hd px
  have R1 := Hd r1
  have R2 := Hd r2
  have T2 := Hd T2
  clear E hgx px r1 r2 T1
  go_wp2_with fail
  refine (H2.out W).mono ?_
  rintro e w2 ⟨v, rfl, hI, h2⟩
  obtain ⟨A9, c9, B9, e9, rfl, -⟩ := hI.form
  obtain ⟨Y, E⟩ : ∃ Y, Y = w2.alloc (.cells #[.bool (decide (z < 0)), .slice A9 (natL z.natAbs).length c9, .bool (decide (z < 0)), .slice B9 (natL z.natAbs).length e9] 27) := ⟨_, rfl⟩
  have h3 := h2.alloc h2.size (.cells #[.bool (decide (z < 0)), .slice A9 (natL z.natAbs).length c9, .bool (decide (z < 0)), .slice B9 (natL z.natAbs).length e9] 27)
  go_upto_region 3 with fail
  rw [← E] at h3 ⊢
  have PX := Hd (PX.out.below h3)
  have R1 := Hd (R1.out.below h3)
  have R2 := Hd (R2.out.below h3)
  have T3 := Hd (belowTo T2.out h3)
  have HT := Hd (HT.out.below2 T3.out)
  clear E hI h2 h3 T2
  obtain ⟨l_x, a_x, b_x, c_x, d_x, -, -, -, -⟩ := PX.out.facts
  go_wp2_with fail
  refine (H3.out Y A B c e0 R1.out R2.out HT.out).mono ?_
  rintro e w3 ⟨rfl, h4⟩
  have PX := Hd (PX.out.below h4)
  have R1 := Hd (R1.out.below h4)
  have R2 := Hd (R2.out.below h4)
  have T4 := Hd (belowTo T3.out h4)
  clear h4 T3 HT l_x a_x b_x c_x d_x
  obtain ⟨l_x, a_x, b_x, c_x, d_x, -, -, -, -⟩ := PX.out.facts
  go_wp2_with fail
  refine (H4.out w3 A B c e0 R1.out R2.out).mono ?_
  rintro e w4 ⟨rfl, h5⟩
  have HF := Hd (belowTo T4.out h5)
  clear h5 T4 l_x a_x b_x c_x d_x
  go_wp2_with fail
  go_ret
  exact ⟨rfl, HF.out⟩
/- Make of the references of chapter 02. (Written by wip/frac/genfmake.py ref.) -/

def RetFrac2 (w : World) (n d k : Int) (e : Ending) (w' : World) : Prop := ∃ v, e = .returned (.tuple #[v, .int .i64 k]) ∧ FracAt w' v n d ∧ Below w.heap.size w w'
theorem FracAt.quad {w : World} {g : Nat} {v : Value} {n d : Int} (h : FracAt w v n d) {b1 b2 : Bool} {A1 A2 : Option Addr} {n1 n2 c1 c2 : Nat} (q : Quad w g (.bool b1) (.slice A1 n1 c1) (.bool b2) (.slice A2 n2 c2)) (x y z u : Value) : FracAt ((((w.setCell ⟨g, 0, none⟩ x).setCell ⟨g, 1, none⟩ y).setCell ⟨g, 2, none⟩ z).setCell ⟨g, 3, none⟩ u) v n d := by
  obtain ⟨A, k, B, e, h1, h2, h3⟩ := h.form
  exact ⟨A, k, B, e, h1, h2.quad q _ _ _ _, h3.quad q _ _ _ _⟩

end Go.Proofs.YtipmkkobdbgphaaGreatDoor
