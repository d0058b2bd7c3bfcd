/- Several texts in one: FRootZ, FRoot, FSame, FLike. -/
import Derived.Test.YtipmkkobdbgphaaGreatDoorPb37
import Derived.Test.YtipmkkobdbgphaaGreatDoorPb27
import Derived.Test.YtipmkkobdbgphaaGreatDoorPbHd
import Derived.Test.YtipmkkobdbgphaaGreatDoorPb23
import Derived.Test.YtipmkkobdbgphaaGreatDoorPb28
set_option maxRecDepth 100000
set_option maxHeartbeats 8000000
/- Roots of package exact and of the references, of any number from 0 on. -/
namespace Go.Proofs.YtipmkkobdbgphaaGreatDoor
open Go.RowKit

theorem exact_Root_q (x r : Int) (sq : Bool) (A : Option Addr) (c : Nat) (w : World) (h : Raw w A c (natL x.natAbs)) (hx : lz x ≤ 60000) (h0 : 0 ≤ x) (hr : IsRootZ x r) (hs : sq = decide (r * r = x)) :
    Calls Tryz.prog 118 #[.agg #[.bool (decide (x < 0)), .slice A (natL x.natAbs).length c]] w (RetRoot w.heap.size w r sq) := by
  by_cases hx0 : x = 0
  · have e : r = 0 := rootZ_one h0 hr (by subst hx0; exact ⟨by omega, by omega, by omega⟩)
    have e2 : sq = true := by rw [hs, e, hx0]; rfl
    rw [e, e2]
    exact exact_Root_nought x A c w h hx0
  · by_cases hq : r * r = x
    · have e2 : sq = true := by rw [hs]; exact decide_eq_true hq
      rw [e2]; exact exact_Root_same x r A c w h hx (by omega) hr hq
    · have e2 : sq = false := by rw [hs]; exact decide_eq_false hq
      rw [e2]; exact exact_Root_less x r A c w h hx (by omega) hr hq
/- Root of package frac and of the references of chapter 02. (Written by wip/frac/genfroot.py.) -/

def RetFracOwn3 (base : Nat) (w : World) (n d : Int) (b : Bool) (k : Int) (e : Ending) (w' : World) : Prop := ∃ v, e = .returned (.tuple #[v, .bool b, .int .i64 k]) ∧ FracOwn w' base v n d ∧ Below w.heap.size w w'
theorem IntOwn.top {w : World} {base : Nat} {n : Int} {a : Value} {A : Option Addr} {k c : Nat} (h : IntOwn w base (.agg #[a, .slice A k c]) n) : ∀ x, (Value.slice A k c).ownBlock = some x → base ≤ x ∧ x < w.heap.size := h.mine
theorem FracOwn.of {w : World} {b1 b2 c e : Nat} {n d : Int} {A B : Option Addr} (h1 : IntOwn w b1 (.agg #[.bool (decide (n < 0)), .slice A (natL n.natAbs).length c]) n) (h2 : IntOwn w b2 (.agg #[.bool (decide (d < 0)), .slice B (natL d.natAbs).length e]) d) (hb : b1 ≤ b2)
    (ht : ∀ x, (Value.slice A (natL n.natAbs).length c).ownBlock = some x → x < b2) : FracOwn w b1 (.agg #[.bool (decide (n < 0)), .slice A (natL n.natAbs).length c, .bool (decide (d < 0)), .slice B (natL d.natAbs).length e]) n d := by
  refine ⟨A, c, B, e, rfl, h1, h2.base hb, fun g h h' => ?_⟩
  have := ht g h
  have := (h2.top g h').1
  omega

theorem frac_Root_yes (n d r s : Int) (A B : Option Addr) (c e0 : Nat) (w : World) (h : Raw w A c (natL n.natAbs)) (g : Raw w B e0 (natL d.natAbs)) (hc : (chkE (decide (n < 0)) (decide (d < 0)) (natL n.natAbs) (natL d.natAbs) == 0) = true) (hn : 0 ≤ n) (hd : 0 ≤ d) (hln : lz n ≤ 60000) (hld : lz d ≤ 60000) (hr : IsRootZ n r) (hs : IsRootZ d s) (h1 : decide (r * r = n) = true) (h2 : decide (s * s = d) = true) :
    Calls Tryz.prog 35 #[.agg #[.bool (decide (n < 0)), .slice A (natL n.natAbs).length c, .bool (decide (d < 0)), .slice B (natL d.natAbs).length e0]] w (RetFracOwn3 w.heap.size w r s true 0) := by
  have C1 := fun (V : World) (g' : Nat) (h : Raw V A c (natL n.natAbs)) (g : Raw V B e0 (natL d.natAbs)) (hg : V.heap.size = g') => checks_new (decide (n < 0)) (decide (d < 0)) A B c e0 _ _ V g' h g hg
  rw [hc] at C1
  have H1 := Hd C1
  clear C1 hc
  obtain ⟨sg, hsg⟩ : ∃ k : Int, k = n.sign := ⟨_, rfl⟩
  have H2 := Hd (fun (V : World) (h : Raw V A c (natL n.natAbs)) => ratio_Sign n sg d A B c e0 V h hsg)
  have HSG := Hd (show ¬ sg < 0 from by rw [hsg]; have := sign_cases n; omega)
  have H3 := Hd (fun (V : World) (h : Raw V A c (natL n.natAbs)) => exact_Root_q n r true A c V h hln hn hr h1.symm)
  have H4 := Hd (fun (V : World) (h : Raw V B e0 (natL d.natAbs)) => exact_Root_q d s true B e0 V h hld hd hs h2.symm)
  clear hsg hn hd hln hld hr hs h1 h2
  have px := (Quad.new w (.bool (decide (n < 0))) (.slice A (natL n.natAbs).length c) (.bool (decide (d < 0))) (.slice B (natL d.natAbs).length e0)).alloc (.cells #[.bool false, .slice none 0 0, .bool false, .slice none 0 0] 27)
  have pr := Quad.new (w.alloc (.cells #[.bool (decide (n < 0)), .slice A (natL n.natAbs).length c, .bool (decide (d < 0)), .slice B (natL d.natAbs).length e0] 27)) (.bool false) (.slice none 0 0) (.bool false) (.slice none 0 0)
  have b0 := ((Below.refl w.heap.size w).alloc (Nat.le_refl _) (.cells #[.bool (decide (n < 0)), .slice A (natL n.natAbs).length c, .bool (decide (d < 0)), .slice B (natL d.natAbs).length e0] 27)).alloc (by simp) (.cells #[.bool false, .slice none 0 0, .bool false, .slice none 0 0] 27)
  simp only [World.size_alloc] at pr
  have PX := Hd px
  have PR := Hd pr
  have HB := Hd b0
  have RX := Hd (h.below b0)
  have RY := Hd (g.below b0)
  clear px pr b0 h g
  go_enter Tryz.func35, Tryz.ntmps35
  go_upto_region 1 with fail
  obtain ⟨W, E⟩ : ∃ W, W = (w.alloc (.cells #[.bool (decide (n < 0)), .slice A (natL n.natAbs).length c, .bool (decide (d < 0)), .slice B (natL d.natAbs).length e0] 27)).alloc (.cells #[.bool false, .slice none 0 0, .bool false, .slice none 0 0] 27) := ⟨_, rfl⟩
  rw [← E] at PX PR HB RX RY ⊢
  clear E
  have HS0 := Hd (show w.heap.size ≤ W.heap.size from HB.out.size)
  obtain ⟨l_x, x0, x1, x2, x3, -, -, -, -⟩ := PX.out.facts
  go_wp2_with fail
  refine (H1.out W _ RX.out RY.out rfl).mono ?_
  rintro e V ⟨rfl, hb⟩
  have hb := ((Below.refl W.heap.size W).alloc (Nat.le_refl _) (.cells #[.bool (decide (n < 0)), .slice A (natL n.natAbs).length c, .bool (decide (d < 0)), .slice B (natL d.natAbs).length e0] 27)).trans (hb.mono (by simp))
  have PX := Hd (PX.out.below hb)
  have PR := Hd (PR.out.below hb)
  have RX := Hd (RX.out.below hb)
  have RY := Hd (RY.out.below hb)
  have HB := Hd (belowTo HB.out hb)
  clear hb l_x x0 x1 x2 x3
  obtain ⟨l_x, x0, x1, x2, x3, -, -, -, -⟩ := PX.out.facts
  have hs := HSG.out
  go_wp2_with fail
  refine (H2.out V RX.out).mono ?_
  rintro e V' ⟨rfl, hb⟩
  have PX := Hd (PX.out.below hb)
  have PR := Hd (PR.out.below hb)
  have RX := Hd (RX.out.below hb)
  have RY := Hd (RY.out.below hb)
  have HB := Hd (belowTo HB.out hb)
  clear hb l_x x0 x1 x2 x3
  have HSV := Hd (show w.heap.size ≤ V'.heap.size from HB.out.size)
  clear hs
  have hs := HSG.out
  obtain ⟨l_x, x0, x1, x2, x3, -, -, -, -⟩ := PX.out.facts
  go_wp2_with fail
  refine (H3.out V' RX.out).mono ?_
  rintro e wx1 ⟨v, rfl, hI, hb⟩
  clear l_x x0 x1 x2 x3
  clear hs
  obtain ⟨A1, c1, rfl, -⟩ := hI.raw
  have I1 := Hd hI
  have T1 := Hd hI.top
  clear hI
  have HS_wx1 := Hd (show V'.heap.size ≤ wx1.heap.size from hb.size)
  have PX := Hd (PX.out.below hb)
  have PR := Hd (PR.out.below hb)
  have RX := Hd (RX.out.below hb)
  have RY := Hd (RY.out.below hb)
  have HB := Hd (belowTo HB.out hb)
  have ha := (Below.refl wx1.heap.size wx1).alloc (Nat.le_refl _) (.cells #[.bool (decide (r < 0)), .slice A1 (natL r.natAbs).length c1] 25)
  have hn := Pair.new wx1 25 (.bool (decide (r < 0))) (.slice A1 (natL r.natAbs).length c1)
  have hz : (wx1.alloc (.cells #[.bool (decide (r < 0)), .slice A1 (natL r.natAbs).length c1] 25)).heap.size = wx1.heap.size + 1 := by simp
  go_upto_region 4 with fail
  obtain ⟨wy2, E⟩ : ∃ W, W = wx1.alloc (.cells #[.bool (decide (r < 0)), .slice A1 (natL r.natAbs).length c1] 25) := ⟨_, rfl⟩
  obtain ⟨q2, hq⟩ : ∃ q, q = wx1.heap.size := ⟨_, rfl⟩
  rw [← E] at ha
  rw [← E, ← hq] at hn hz ⊢
  have HZ_wy2 := Hd (And.intro hq hz)
  have P1 := Hd hn
  have PX := Hd (PX.out.below ha)
  have PR := Hd (PR.out.below ha)
  have RX := Hd (RX.out.below ha)
  have RY := Hd (RY.out.below ha)
  have I1 := Hd (I1.out.below ha)
  have HB := Hd (belowTo HB.out ha)
  clear ha hn hz hq E
  obtain ⟨l_x, x0, x1, x2, x3, -, -, -, -⟩ := PX.out.facts
  go_wp2_with fail
  refine (H4.out wy2 RY.out).mono ?_
  rintro e wx3 ⟨v, rfl, hI, hb⟩
  clear l_x x0 x1 x2 x3
  obtain ⟨A2, c2, rfl, -⟩ := hI.raw
  have I2 := Hd hI
  clear hI
  have HS_wx3 := Hd (show wy2.heap.size ≤ wx3.heap.size from hb.size)
  have PX := Hd (PX.out.below hb)
  have PR := Hd (PR.out.below hb)
  have RX := Hd (RX.out.below hb)
  have RY := Hd (RY.out.below hb)
  have I1 := Hd (I1.out.below hb)
  have P1 := Hd (P1.out.below hb)
  have HB := Hd (belowTo HB.out hb)
  have ha := (Below.refl wx3.heap.size wx3).alloc (Nat.le_refl _) (.cells #[.bool (decide (s < 0)), .slice A2 (natL s.natAbs).length c2] 25)
  have hn := Pair.new wx3 25 (.bool (decide (s < 0))) (.slice A2 (natL s.natAbs).length c2)
  have hz : (wx3.alloc (.cells #[.bool (decide (s < 0)), .slice A2 (natL s.natAbs).length c2] 25)).heap.size = wx3.heap.size + 1 := by simp
  go_upto_region 5 with fail
  obtain ⟨wy4, E⟩ : ∃ W, W = wx3.alloc (.cells #[.bool (decide (s < 0)), .slice A2 (natL s.natAbs).length c2] 25) := ⟨_, rfl⟩
  obtain ⟨q4, hq⟩ : ∃ q, q = wx3.heap.size := ⟨_, rfl⟩
  rw [← E] at ha
  rw [← E, ← hq] at hn hz ⊢
  have HZ_wy4 := Hd (And.intro hq hz)
  have P2 := Hd hn
  have PX := Hd (PX.out.below ha)
  have PR := Hd (PR.out.below ha)
  have RX := Hd (RX.out.below ha)
  have RY := Hd (RY.out.below ha)
  have I1 := Hd (I1.out.below ha)
  have P1 := Hd (P1.out.below ha)
  have I2 := Hd (I2.out.below ha)
  have HB := Hd (belowTo HB.out ha)
  clear ha hn hz hq E
  have HO := Hd (show FracOwn wy4 w.heap.size (.agg #[.bool (decide (r < 0)), .slice A1 (natL r.natAbs).length c1, .bool (decide (s < 0)), .slice A2 (natL s.natAbs).length c2]) r s from by
    have k_HS_wx1 := HS_wx1.out
    have k_HZ_wy2 := HZ_wy2.out
    have k_HS_wx3 := HS_wx3.out
    have k_HZ_wy4 := HZ_wy4.out
    have hs0 := HS0.out
    have hs1 := HSV.out
    refine (FracOwn.of I1.out I2.out (by omega) (fun x hx => ?_)).base (by omega)
    have := (T1.out x hx).2
    omega)
  obtain ⟨l_a, a0, a1, -, -⟩ := P1.out.facts
  obtain ⟨l_b, b0, b1, -, -⟩ := P2.out.facts
  obtain ⟨l_r, r0, r1, r2, r3, f0, f1, f2, f3⟩ := PR.out.facts
  have HQ := Hd (PR.out.store (.bool (decide (r < 0))) (.slice A1 (natL r.natAbs).length c1) (.bool (decide (s < 0))) (.slice A2 (natL s.natAbs).length c2))
  have HF := Hd (below4 HB.out (show w.heap.size ≤ w.heap.size + 1 by omega) (.bool (decide (r < 0))) (.slice A1 (natL r.natAbs).length c1) (.bool (decide (s < 0))) (.slice A2 (natL s.natAbs).length c2))
  have HOQ := Hd (HO.out.quad PR.out (.bool (decide (r < 0))) (.slice A1 (natL r.natAbs).length c1) (.bool (decide (s < 0))) (.slice A2 (natL s.natAbs).length c2))
  go_wp2_with fail
  obtain ⟨_, k0, k1, k2, k3, _⟩ := HQ.out.facts
  exact bodyPost_ret (by simp [results, Tryz.results35, go_sem, k0, k1, k2, k3]) rfl ⟨_, rfl, HOQ.out, HF.out⟩

/- SameFrac of the laws, of any two fractions. (Written by wip/frac/genfsame.py.) -/

/- like of the laws of chapter 02. (Written by wip/frac/genflike.py.) -/

theorem Fine.mk_low {n d : Int} (hp : 0 < d) (h1 : gcdZ n d = 1) (hn : lz n ≤ 2048) (hd : lz d ≤ 2048) : Fine n d := by
  have f1 : Fit n := hn
  have f2 : Fit d := hd
  refine ⟨?_, hn, hd, hp, h1⟩
  unfold chkE mkOk
  rw [f1.ok, f2.ok, ival_at, ival_at]
  simp only [Bool.and_self, if_true]
  rw [if_pos ⟨hp, h1⟩]
end Go.Proofs.YtipmkkobdbgphaaGreatDoor
