/- Several texts in one: FRootZ, FRoot, Lives2. -/
import Derived.Test.YtkncbenhfcpgkaaGreatDoorPu37
import Derived.Test.YtkncbenhfcpgkaaGreatDoorPu38
import Derived.Test.YtkncbenhfcpgkaaGreatDoorPu17
import Derived.Test.YtkncbenhfcpgkaaGreatDoorPu34
import Derived.Test.YtkncbenhfcpgkaaGreatDoorPu14
import Derived.Test.YtkncbenhfcpgkaaGreatDoorPu24
import Derived.Test.YtkncbenhfcpgkaaGreatDoorPu07
import Derived.Test.YtkncbenhfcpgkaaGreatDoorPu33
import Derived.Test.YtkncbenhfcpgkaaGreatDoorPu12
import Derived.Test.YtkncbenhfcpgkaaGreatDoorPu23
import Derived.Test.YtkncbenhfcpgkaaGreatDoorPu05
import Derived.Test.YtkncbenhfcpgkaaGreatDoorPu04
import Derived.Test.YtkncbenhfcpgkaaGreatDoorPu22
import Derived.Test.YtkncbenhfcpgkaaGreatDoorPu01
import Derived.Test.YtkncbenhfcpgkaaGreatDoorPu03
import Derived.Test.YtkncbenhfcpgkaaGreatDoorPu02
import Derived.Test.YtkncbenhfcpgkaaGreatDoorPu06
import Derived.Test.YtkncbenhfcpgkaaGreatDoorPu15
import Derived.Test.YtkncbenhfcpgkaaGreatDoorPu16
import Derived.Test.YtkncbenhfcpgkaaGreatDoorPu08
import Derived.Test.YtkncbenhfcpgkaaGreatDoorPu11
import Derived.Test.YtkncbenhfcpgkaaGreatDoorPu13
import Derived.Test.YtkncbenhfcpgkaaGreatDoorPu18
import Derived.Test.YtkncbenhfcpgkaaGreatDoorPu25
import Derived.Test.YtkncbenhfcpgkaaGreatDoorPu36
import Derived.Test.YtkncbenhfcpgkaaGreatDoorPu19
import Derived.Test.YtkncbenhfcpgkaaGreatDoorPu20
import Derived.Test.YtkncbenhfcpgkaaGreatDoorPu35
import Derived.Test.YtkncbenhfcpgkaaGreatDoorPu09
import Derived.Test.YtkncbenhfcpgkaaGreatDoorPu30
import Derived.Test.YtkncbenhfcpgkaaGreatDoorPuHd
import Derived.Test.YtkncbenhfcpgkaaGreatDoorPu40
import Derived.Test.YtkncbenhfcpgkaaGreatDoorPu31
import Derived.Test.YtkncbenhfcpgkaaGreatDoorPu29
import Derived.Test.YtkncbenhfcpgkaaGreatDoorPu28
import Derived.Test.YtkncbenhfcpgkaaGreatDoorPu27
import Derived.Test.YtkncbenhfcpgkaaGreatDoorPu26
import Derived.Test.YtkncbenhfcpgkaaGreatDoorPu10
set_option maxRecDepth 100000
set_option maxHeartbeats 8000000
/- Roots of package exact and of the references, of any number from 0 on. -/
namespace Go.Proofs.YtkncbenhfcpgkaaGreatDoor
open Go.RowKit

theorem exact_Root_q (x r : Int) (sq : Bool) (A : Option Addr) (c : Nat) (w : World) (h : Raw w A c (natL x.natAbs)) (hx : lz x ≤ 60000) (h0 : 0 ≤ x) (hr : IsRootZ x r) (hs : sq = decide (r * r = x)) :
    Calls Tryz.prog 30 #[.agg #[.bool (decide (x < 0)), .slice A (natL x.natAbs).length c]] w (RetRoot w.heap.size w r sq) := by
  by_cases hx0 : x = 0
  · have e : r = 0 := rootZ_one h0 hr (by subst hx0; exact ⟨by omega, by omega, by omega⟩)
    have e2 : sq = true := by rw [hs, e, hx0]; rfl
    rw [e, e2]
    exact exact_Root_nought x A c w h hx0
  · by_cases hq : r * r = x
    · have e2 : sq = true := by rw [hs]; exact decide_eq_true hq
      rw [e2]; exact exact_Root_same x r A c w h hx (by omega) hr hq
    · have e2 : sq = false := by rw [hs]; exact decide_eq_false hq
      rw [e2]; exact exact_Root_less x r A c w h hx (by omega) hr hq
theorem ref_Root_q (x r : Int) (sq : Bool) (A : Option Addr) (c : Nat) (w : World) (h : Raw w A c (natL x.natAbs)) (hx : lz x ≤ 60000) (h0 : 0 ≤ x) (hr : IsRootZ x r) (hs : sq = decide (r * r = x)) :
    Calls Tryz.prog 35 #[.agg #[.bool (decide (x < 0)), .slice A (natL x.natAbs).length c]] w (RetRoot w.heap.size w r sq) := by
  by_cases hx0 : x = 0
  · have e : r = 0 := rootZ_one h0 hr (by subst hx0; exact ⟨by omega, by omega, by omega⟩)
    have e2 : sq = true := by rw [hs, e, hx0]; rfl
    rw [e, e2]
    exact ref_Root_nought x A c w h hx0
  · by_cases hq : r * r = x
    · have e2 : sq = true := by rw [hs]; exact decide_eq_true hq
      rw [e2]; exact ref_Root_same x r A c w h hx (by omega) hr hq
    · have e2 : sq = false := by rw [hs]; exact decide_eq_false hq
      rw [e2]; exact ref_Root_less x r A c w h hx (by omega) hr hq
theorem root_lz {x r : Int} (h : IsRootZ x r) : lz r ≤ lz x := by
  obtain ⟨h0, h1, -⟩ := h
  refine lz_mono ?_
  have : r.natAbs ≤ r.natAbs * r.natAbs := by
    rcases Nat.eq_zero_or_pos r.natAbs with e | e
    · rw [e]; omega
    · exact Nat.le_mul_of_pos_left _ e
  have h2 : (r * r).natAbs ≤ x.natAbs := by
    have : 0 ≤ r * r := Int.mul_nonneg h0 h0
    omega
  rw [Int.natAbs_mul] at h2
  omega
/- Root of package frac and of the references of chapter 02. (Written by wip/frac/genfroot.py.) -/

def RetFracOwn3 (base : Nat) (w : World) (n d : Int) (b : Bool) (k : Int) (e : Ending) (w' : World) : Prop := ∃ v, e = .returned (.tuple #[v, .bool b, .int .i64 k]) ∧ FracOwn w' base v n d ∧ Below w.heap.size w w'
theorem IntOwn.top {w : World} {base : Nat} {n : Int} {a : Value} {A : Option Addr} {k c : Nat} (h : IntOwn w base (.agg #[a, .slice A k c]) n) : ∀ x, (Value.slice A k c).ownBlock = some x → base ≤ x ∧ x < w.heap.size := h.mine
theorem FracOwn.of {w : World} {b1 b2 c e : Nat} {n d : Int} {A B : Option Addr} (h1 : IntOwn w b1 (.agg #[.bool (decide (n < 0)), .slice A (natL n.natAbs).length c]) n) (h2 : IntOwn w b2 (.agg #[.bool (decide (d < 0)), .slice B (natL d.natAbs).length e]) d) (hb : b1 ≤ b2)
    (ht : ∀ x, (Value.slice A (natL n.natAbs).length c).ownBlock = some x → x < b2) : FracOwn w b1 (.agg #[.bool (decide (n < 0)), .slice A (natL n.natAbs).length c, .bool (decide (d < 0)), .slice B (natL d.natAbs).length e]) n d := by
  refine ⟨A, c, B, e, rfl, h1, h2.base hb, fun g h h' => ?_⟩
  have := ht g h
  have := (h2.top g h').1
  omega

theorem frac_Root_bad (n1 n2 : Bool) (A B : Option Addr) (c e0 : Nat) (xs ys : List Nat) (w : World) (h : Raw w A c xs) (g : Raw w B e0 ys) (hc : (chkE n1 n2 xs ys == 0) = false) :
    Calls Tryz.prog 19 #[.agg #[.bool n1, .slice A xs.length c, .bool n2, .slice B ys.length e0]] w (RetFracOwn3 w.heap.size w 0 0 false 1) := by
  have C1 := fun (V : World) (g' : Nat) (h : Raw V A c xs) (g : Raw V B e0 ys) (hg : V.heap.size = g') => checks_new n1 n2 A B c e0 xs ys V g' h g hg
  rw [hc] at C1
  have H1 := Hd C1
  clear C1 hc
  have px := (Quad.new w (.bool n1) (.slice A xs.length c) (.bool n2) (.slice B ys.length e0)).alloc (.cells #[.bool false, .slice none 0 0, .bool false, .slice none 0 0] 56)
  have pr := Quad.new (w.alloc (.cells #[.bool n1, .slice A xs.length c, .bool n2, .slice B ys.length e0] 56)) (.bool false) (.slice none 0 0) (.bool false) (.slice none 0 0)
  have b0 := ((Below.refl w.heap.size w).alloc (Nat.le_refl _) (.cells #[.bool n1, .slice A xs.length c, .bool n2, .slice B ys.length e0] 56)).alloc (by simp) (.cells #[.bool false, .slice none 0 0, .bool false, .slice none 0 0] 56)
  simp only [World.size_alloc] at pr
  have PX := Hd px
  have PR := Hd pr
  have HB := Hd b0
  have RX := Hd (h.below b0)
  have RY := Hd (g.below b0)
  clear px pr b0 h g
  go_enter Tryz.func19, Tryz.ntmps19
  go_upto_region 1 with fail
  obtain ⟨W, E⟩ : ∃ W, W = (w.alloc (.cells #[.bool n1, .slice A xs.length c, .bool n2, .slice B ys.length e0] 56)).alloc (.cells #[.bool false, .slice none 0 0, .bool false, .slice none 0 0] 56) := ⟨_, rfl⟩
  rw [← E] at PX PR HB RX RY ⊢
  clear E
  have HS0 := Hd (show w.heap.size ≤ W.heap.size from HB.out.size)
  obtain ⟨l_x, x0, x1, x2, x3, -, -, -, -⟩ := PX.out.facts
  go_wp2_with fail
  refine (H1.out W _ RX.out RY.out rfl).mono ?_
  rintro e V ⟨rfl, hb⟩
  have hb := ((Below.refl W.heap.size W).alloc (Nat.le_refl _) (.cells #[.bool n1, .slice A xs.length c, .bool n2, .slice B ys.length e0] 56)).trans (hb.mono (by simp))
  have PX := Hd (PX.out.below hb)
  have PR := Hd (PR.out.below hb)
  have RX := Hd (RX.out.below hb)
  have RY := Hd (RY.out.below hb)
  have HB := Hd (belowTo HB.out hb)
  clear hb l_x x0 x1 x2 x3
  obtain ⟨l_x, x0, x1, x2, x3, -, -, -, -⟩ := PX.out.facts
  obtain ⟨l_r, r0, r1, r2, r3, f0, f1, f2, f3⟩ := PR.out.facts
  have HQ := Hd (PR.out.store (.bool false) (.slice none 0 0) (.bool false) (.slice none 0 0))
  have HF := Hd (below4 HB.out (show w.heap.size ≤ w.heap.size + 1 by omega) (.bool false) (.slice none 0 0) (.bool false) (.slice none 0 0))
  go_wp2_with fail
  obtain ⟨_, k0, k1, k2, k3, _⟩ := HQ.out.facts
  exact bodyPost_ret (by simp [results, Tryz.results19, go_sem, k0, k1, k2, k3]) rfl ⟨_, rfl, FracOwn.nought _ _, HF.out⟩

theorem frac_Root_neg (n d : Int) (A B : Option Addr) (c e0 : Nat) (w : World) (h : Raw w A c (natL n.natAbs)) (g : Raw w B e0 (natL d.natAbs)) (hc : (chkE (decide (n < 0)) (decide (d < 0)) (natL n.natAbs) (natL d.natAbs) == 0) = true) (hn : n < 0) :
    Calls Tryz.prog 19 #[.agg #[.bool (decide (n < 0)), .slice A (natL n.natAbs).length c, .bool (decide (d < 0)), .slice B (natL d.natAbs).length e0]] w (RetFracOwn3 w.heap.size w 0 0 false 1) := by
  have C1 := fun (V : World) (g' : Nat) (h : Raw V A c (natL n.natAbs)) (g : Raw V B e0 (natL d.natAbs)) (hg : V.heap.size = g') => checks_new (decide (n < 0)) (decide (d < 0)) A B c e0 _ _ V g' h g hg
  rw [hc] at C1
  have H1 := Hd C1
  clear C1 hc
  obtain ⟨sg, hsg⟩ : ∃ k : Int, k = n.sign := ⟨_, rfl⟩
  have H2 := Hd (fun (V : World) (h : Raw V A c (natL n.natAbs)) => ratio_Sign n sg d A B c e0 V h hsg)
  have HSG := Hd (show sg < 0 from by rw [hsg, Int.sign_eq_neg_one_of_neg hn]; decide)
  clear hsg hn
  have px := (Quad.new w (.bool (decide (n < 0))) (.slice A (natL n.natAbs).length c) (.bool (decide (d < 0))) (.slice B (natL d.natAbs).length e0)).alloc (.cells #[.bool false, .slice none 0 0, .bool false, .slice none 0 0] 56)
  have pr := Quad.new (w.alloc (.cells #[.bool (decide (n < 0)), .slice A (natL n.natAbs).length c, .bool (decide (d < 0)), .slice B (natL d.natAbs).length e0] 56)) (.bool false) (.slice none 0 0) (.bool false) (.slice none 0 0)
  have b0 := ((Below.refl w.heap.size w).alloc (Nat.le_refl _) (.cells #[.bool (decide (n < 0)), .slice A (natL n.natAbs).length c, .bool (decide (d < 0)), .slice B (natL d.natAbs).length e0] 56)).alloc (by simp) (.cells #[.bool false, .slice none 0 0, .bool false, .slice none 0 0] 56)
  simp only [World.size_alloc] at pr
  have PX := Hd px
  have PR := Hd pr
  have HB := Hd b0
  have RX := Hd (h.below b0)
  have RY := Hd (g.below b0)
  clear px pr b0 h g
  go_enter Tryz.func19, Tryz.ntmps19
  go_upto_region 1 with fail
  obtain ⟨W, E⟩ : ∃ W, W = (w.alloc (.cells #[.bool (decide (n < 0)), .slice A (natL n.natAbs).length c, .bool (decide (d < 0)), .slice B (natL d.natAbs).length e0] 56)).alloc (.cells #[.bool false, .slice none 0 0, .bool false, .slice none 0 0] 56) := ⟨_, rfl⟩
  rw [← E] at PX PR HB RX RY ⊢
  clear E
  have HS0 := Hd (show w.heap.size ≤ W.heap.size from HB.out.size)
  obtain ⟨l_x, x0, x1, x2, x3, -, -, -, -⟩ := PX.out.facts
  go_wp2_with fail
  refine (H1.out W _ RX.out RY.out rfl).mono ?_
  rintro e V ⟨rfl, hb⟩
  have hb := ((Below.refl W.heap.size W).alloc (Nat.le_refl _) (.cells #[.bool (decide (n < 0)), .slice A (natL n.natAbs).length c, .bool (decide (d < 0)), .slice B (natL d.natAbs).length e0] 56)).trans (hb.mono (by simp))
  have PX := Hd (PX.out.below hb)
  have PR := Hd (PR.out.below hb)
  have RX := Hd (RX.out.below hb)
  have RY := Hd (RY.out.below hb)
  have HB := Hd (belowTo HB.out hb)
  clear hb l_x x0 x1 x2 x3
  obtain ⟨l_x, x0, x1, x2, x3, -, -, -, -⟩ := PX.out.facts
  have hs := HSG.out
  go_wp2_with fail
  refine (H2.out V RX.out).mono ?_
  rintro e V' ⟨rfl, hb⟩
  have PX := Hd (PX.out.below hb)
  have PR := Hd (PR.out.below hb)
  have RX := Hd (RX.out.below hb)
  have RY := Hd (RY.out.below hb)
  have HB := Hd (belowTo HB.out hb)
  clear hb l_x x0 x1 x2 x3
  obtain ⟨l_x, x0, x1, x2, x3, -, -, -, -⟩ := PX.out.facts
  obtain ⟨l_r, r0, r1, r2, r3, f0, f1, f2, f3⟩ := PR.out.facts
  have HQ := Hd (PR.out.store (.bool false) (.slice none 0 0) (.bool false) (.slice none 0 0))
  have HF := Hd (below4 HB.out (show w.heap.size ≤ w.heap.size + 1 by omega) (.bool false) (.slice none 0 0) (.bool false) (.slice none 0 0))
  go_wp2_with fail
  obtain ⟨_, k0, k1, k2, k3, _⟩ := HQ.out.facts
  exact bodyPost_ret (by simp [results, Tryz.results19, go_sem, k0, k1, k2, k3]) rfl ⟨_, rfl, FracOwn.nought _ _, HF.out⟩

theorem frac_Root_no1 (n d r s : Int) (A B : Option Addr) (c e0 : Nat) (w : World) (h : Raw w A c (natL n.natAbs)) (g : Raw w B e0 (natL d.natAbs)) (hc : (chkE (decide (n < 0)) (decide (d < 0)) (natL n.natAbs) (natL d.natAbs) == 0) = true) (hn : 0 ≤ n) (hd : 0 ≤ d) (hln : lz n ≤ 60000) (hld : lz d ≤ 60000) (hr : IsRootZ n r) (hs : IsRootZ d s) (h1 : decide (r * r = n) = false) :
    Calls Tryz.prog 19 #[.agg #[.bool (decide (n < 0)), .slice A (natL n.natAbs).length c, .bool (decide (d < 0)), .slice B (natL d.natAbs).length e0]] w (RetFracOwn3 w.heap.size w 0 0 false 0) := by
  have C1 := fun (V : World) (g' : Nat) (h : Raw V A c (natL n.natAbs)) (g : Raw V B e0 (natL d.natAbs)) (hg : V.heap.size = g') => checks_new (decide (n < 0)) (decide (d < 0)) A B c e0 _ _ V g' h g hg
  rw [hc] at C1
  have H1 := Hd C1
  clear C1 hc
  obtain ⟨sg, hsg⟩ : ∃ k : Int, k = n.sign := ⟨_, rfl⟩
  have H2 := Hd (fun (V : World) (h : Raw V A c (natL n.natAbs)) => ratio_Sign n sg d A B c e0 V h hsg)
  have HSG := Hd (show ¬ sg < 0 from by rw [hsg]; have := sign_cases n; omega)
  have H3 := Hd (fun (V : World) (h : Raw V A c (natL n.natAbs)) => exact_Root_q n r false A c V h hln hn hr h1.symm)
  obtain ⟨b2, hb2⟩ : ∃ b : Bool, b = decide (s * s = d) := ⟨_, rfl⟩
  have H4 := Hd (fun (V : World) (h : Raw V B e0 (natL d.natAbs)) => exact_Root_q d s b2 B e0 V h hld hd hs hb2)
  clear hsg hn hd hln hld hr hs h1 hb2
  have px := (Quad.new w (.bool (decide (n < 0))) (.slice A (natL n.natAbs).length c) (.bool (decide (d < 0))) (.slice B (natL d.natAbs).length e0)).alloc (.cells #[.bool false, .slice none 0 0, .bool false, .slice none 0 0] 56)
  have pr := Quad.new (w.alloc (.cells #[.bool (decide (n < 0)), .slice A (natL n.natAbs).length c, .bool (decide (d < 0)), .slice B (natL d.natAbs).length e0] 56)) (.bool false) (.slice none 0 0) (.bool false) (.slice none 0 0)
  have b0 := ((Below.refl w.heap.size w).alloc (Nat.le_refl _) (.cells #[.bool (decide (n < 0)), .slice A (natL n.natAbs).length c, .bool (decide (d < 0)), .slice B (natL d.natAbs).length e0] 56)).alloc (by simp) (.cells #[.bool false, .slice none 0 0, .bool false, .slice none 0 0] 56)
  simp only [World.size_alloc] at pr
  have PX := Hd px
  have PR := Hd pr
  have HB := Hd b0
  have RX := Hd (h.below b0)
  have RY := Hd (g.below b0)
  clear px pr b0 h g
  go_enter Tryz.func19, Tryz.ntmps19
  go_upto_region 1 with fail
  obtain ⟨W, E⟩ : ∃ W, W = (w.alloc (.cells #[.bool (decide (n < 0)), .slice A (natL n.natAbs).length c, .bool (decide (d < 0)), .slice B (natL d.natAbs).length e0] 56)).alloc (.cells #[.bool false, .slice none 0 0, .bool false, .slice none 0 0] 56) := ⟨_, rfl⟩
  rw [← E] at PX PR HB RX RY ⊢
  clear E
  have HS0 := Hd (show w.heap.size ≤ W.heap.size from HB.out.size)
  obtain ⟨l_x, x0, x1, x2, x3, -, -, -, -⟩ := PX.out.facts
  go_wp2_with fail
  refine (H1.out W _ RX.out RY.out rfl).mono ?_
  rintro e V ⟨rfl, hb⟩
  have hb := ((Below.refl W.heap.size W).alloc (Nat.le_refl _) (.cells #[.bool (decide (n < 0)), .slice A (natL n.natAbs).length c, .bool (decide (d < 0)), .slice B (natL d.natAbs).length e0] 56)).trans (hb.mono (by simp))
  have PX := Hd (PX.out.below hb)
  have PR := Hd (PR.out.below hb)
  have RX := Hd (RX.out.below hb)
  have RY := Hd (RY.out.below hb)
  have HB := Hd (belowTo HB.out hb)
  clear hb l_x x0 x1 x2 x3
  obtain ⟨l_x, x0, x1, x2, x3, -, -, -, -⟩ := PX.out.facts
  have hs := HSG.out
  go_wp2_with fail
  refine (H2.out V RX.out).mono ?_
  rintro e V' ⟨rfl, hb⟩
  have PX := Hd (PX.out.below hb)
  have PR := Hd (PR.out.below hb)
  have RX := Hd (RX.out.below hb)
  have RY := Hd (RY.out.below hb)
  have HB := Hd (belowTo HB.out hb)
  clear hb l_x x0 x1 x2 x3
  clear hs
  have hs := HSG.out
  obtain ⟨l_x, x0, x1, x2, x3, -, -, -, -⟩ := PX.out.facts
  go_wp2_with fail
  refine (H3.out V' RX.out).mono ?_
  rintro e wx1 ⟨v, rfl, hI, hb⟩
  clear l_x x0 x1 x2 x3
  clear hs
  obtain ⟨A1, c1, rfl, -⟩ := hI.raw
  have I1 := Hd hI
  have T1 := Hd hI.top
  clear hI
  have HS_wx1 := Hd (show V'.heap.size ≤ wx1.heap.size from hb.size)
  have PX := Hd (PX.out.below hb)
  have PR := Hd (PR.out.below hb)
  have RX := Hd (RX.out.below hb)
  have RY := Hd (RY.out.below hb)
  have HB := Hd (belowTo HB.out hb)
  have ha := (Below.refl wx1.heap.size wx1).alloc (Nat.le_refl _) (.cells #[.bool (decide (r < 0)), .slice A1 (natL r.natAbs).length c1] 24)
  have hn := Pair.new wx1 24 (.bool (decide (r < 0))) (.slice A1 (natL r.natAbs).length c1)
  have hz : (wx1.alloc (.cells #[.bool (decide (r < 0)), .slice A1 (natL r.natAbs).length c1] 24)).heap.size = wx1.heap.size + 1 := by simp
  go_upto_region 4 with fail
  obtain ⟨wy2, E⟩ : ∃ W, W = wx1.alloc (.cells #[.bool (decide (r < 0)), .slice A1 (natL r.natAbs).length c1] 24) := ⟨_, rfl⟩
  obtain ⟨q2, hq⟩ : ∃ q, q = wx1.heap.size := ⟨_, rfl⟩
  rw [← E] at ha
  rw [← E, ← hq] at hn hz ⊢
  have HZ_wy2 := Hd (And.intro hq hz)
  have P1 := Hd hn
  have PX := Hd (PX.out.below ha)
  have PR := Hd (PR.out.below ha)
  have RX := Hd (RX.out.below ha)
  have RY := Hd (RY.out.below ha)
  have I1 := Hd (I1.out.below ha)
  have HB := Hd (belowTo HB.out ha)
  clear ha hn hz hq E
  obtain ⟨l_x, x0, x1, x2, x3, -, -, -, -⟩ := PX.out.facts
  go_wp2_with fail
  refine (H4.out wy2 RY.out).mono ?_
  rintro e wx3 ⟨v, rfl, hI, hb⟩
  clear l_x x0 x1 x2 x3
  obtain ⟨A2, c2, rfl, -⟩ := hI.raw
  have I2 := Hd hI
  clear hI
  have HS_wx3 := Hd (show wy2.heap.size ≤ wx3.heap.size from hb.size)
  have PX := Hd (PX.out.below hb)
  have PR := Hd (PR.out.below hb)
  have RX := Hd (RX.out.below hb)
  have RY := Hd (RY.out.below hb)
  have I1 := Hd (I1.out.below hb)
  have P1 := Hd (P1.out.below hb)
  have HB := Hd (belowTo HB.out hb)
  have ha := (Below.refl wx3.heap.size wx3).alloc (Nat.le_refl _) (.cells #[.bool (decide (s < 0)), .slice A2 (natL s.natAbs).length c2] 24)
  have hn := Pair.new wx3 24 (.bool (decide (s < 0))) (.slice A2 (natL s.natAbs).length c2)
  have hz : (wx3.alloc (.cells #[.bool (decide (s < 0)), .slice A2 (natL s.natAbs).length c2] 24)).heap.size = wx3.heap.size + 1 := by simp
  go_upto_region 5 with fail
  obtain ⟨wy4, E⟩ : ∃ W, W = wx3.alloc (.cells #[.bool (decide (s < 0)), .slice A2 (natL s.natAbs).length c2] 24) := ⟨_, rfl⟩
  obtain ⟨q4, hq⟩ : ∃ q, q = wx3.heap.size := ⟨_, rfl⟩
  rw [← E] at ha
  rw [← E, ← hq] at hn hz ⊢
  have HZ_wy4 := Hd (And.intro hq hz)
  have P2 := Hd hn
  have PX := Hd (PX.out.below ha)
  have PR := Hd (PR.out.below ha)
  have RX := Hd (RX.out.below ha)
  have RY := Hd (RY.out.below ha)
  have I1 := Hd (I1.out.below ha)
  have P1 := Hd (P1.out.below ha)
  have I2 := Hd (I2.out.below ha)
  have HB := Hd (belowTo HB.out ha)
  clear ha hn hz hq E
  obtain ⟨l_x, x0, x1, x2, x3, -, -, -, -⟩ := PX.out.facts
  obtain ⟨l_r, r0, r1, r2, r3, f0, f1, f2, f3⟩ := PR.out.facts
  have HQ := Hd (PR.out.store (.bool false) (.slice none 0 0) (.bool false) (.slice none 0 0))
  have HF := Hd (below4 HB.out (show w.heap.size ≤ w.heap.size + 1 by omega) (.bool false) (.slice none 0 0) (.bool false) (.slice none 0 0))
  go_wp2_with fail
  obtain ⟨_, k0, k1, k2, k3, _⟩ := HQ.out.facts
  exact bodyPost_ret (by simp [results, Tryz.results19, go_sem, k0, k1, k2, k3]) rfl ⟨_, rfl, FracOwn.nought _ _, HF.out⟩

theorem frac_Root_no2 (n d r s : Int) (A B : Option Addr) (c e0 : Nat) (w : World) (h : Raw w A c (natL n.natAbs)) (g : Raw w B e0 (natL d.natAbs)) (hc : (chkE (decide (n < 0)) (decide (d < 0)) (natL n.natAbs) (natL d.natAbs) == 0) = true) (hn : 0 ≤ n) (hd : 0 ≤ d) (hln : lz n ≤ 60000) (hld : lz d ≤ 60000) (hr : IsRootZ n r) (hs : IsRootZ d s) (h1 : decide (r * r = n) = true) (h2 : decide (s * s = d) = false) :
    Calls Tryz.prog 19 #[.agg #[.bool (decide (n < 0)), .slice A (natL n.natAbs).length c, .bool (decide (d < 0)), .slice B (natL d.natAbs).length e0]] w (RetFracOwn3 w.heap.size w 0 0 false 0) := by
  have C1 := fun (V : World) (g' : Nat) (h : Raw V A c (natL n.natAbs)) (g : Raw V B e0 (natL d.natAbs)) (hg : V.heap.size = g') => checks_new (decide (n < 0)) (decide (d < 0)) A B c e0 _ _ V g' h g hg
  rw [hc] at C1
  have H1 := Hd C1
  clear C1 hc
  obtain ⟨sg, hsg⟩ : ∃ k : Int, k = n.sign := ⟨_, rfl⟩
  have H2 := Hd (fun (V : World) (h : Raw V A c (natL n.natAbs)) => ratio_Sign n sg d A B c e0 V h hsg)
  have HSG := Hd (show ¬ sg < 0 from by rw [hsg]; have := sign_cases n; omega)
  have H3 := Hd (fun (V : World) (h : Raw V A c (natL n.natAbs)) => exact_Root_q n r true A c V h hln hn hr h1.symm)
  have H4 := Hd (fun (V : World) (h : Raw V B e0 (natL d.natAbs)) => exact_Root_q d s false B e0 V h hld hd hs h2.symm)
  clear hsg hn hd hln hld hr hs h1 h2
  have px := (Quad.new w (.bool (decide (n < 0))) (.slice A (natL n.natAbs).length c) (.bool (decide (d < 0))) (.slice B (natL d.natAbs).length e0)).alloc (.cells #[.bool false, .slice none 0 0, .bool false, .slice none 0 0] 56)
  have pr := Quad.new (w.alloc (.cells #[.bool (decide (n < 0)), .slice A (natL n.natAbs).length c, .bool (decide (d < 0)), .slice B (natL d.natAbs).length e0] 56)) (.bool false) (.slice none 0 0) (.bool false) (.slice none 0 0)
  have b0 := ((Below.refl w.heap.size w).alloc (Nat.le_refl _) (.cells #[.bool (decide (n < 0)), .slice A (natL n.natAbs).length c, .bool (decide (d < 0)), .slice B (natL d.natAbs).length e0] 56)).alloc (by simp) (.cells #[.bool false, .slice none 0 0, .bool false, .slice none 0 0] 56)
  simp only [World.size_alloc] at pr
  have PX := Hd px
  have PR := Hd pr
  have HB := Hd b0
  have RX := Hd (h.below b0)
  have RY := Hd (g.below b0)
  clear px pr b0 h g
  go_enter Tryz.func19, Tryz.ntmps19
  go_upto_region 1 with fail
  obtain ⟨W, E⟩ : ∃ W, W = (w.alloc (.cells #[.bool (decide (n < 0)), .slice A (natL n.natAbs).length c, .bool (decide (d < 0)), .slice B (natL d.natAbs).length e0] 56)).alloc (.cells #[.bool false, .slice none 0 0, .bool false, .slice none 0 0] 56) := ⟨_, rfl⟩
  rw [← E] at PX PR HB RX RY ⊢
  clear E
  have HS0 := Hd (show w.heap.size ≤ W.heap.size from HB.out.size)
  obtain ⟨l_x, x0, x1, x2, x3, -, -, -, -⟩ := PX.out.facts
  go_wp2_with fail
  refine (H1.out W _ RX.out RY.out rfl).mono ?_
  rintro e V ⟨rfl, hb⟩
  have hb := ((Below.refl W.heap.size W).alloc (Nat.le_refl _) (.cells #[.bool (decide (n < 0)), .slice A (natL n.natAbs).length c, .bool (decide (d < 0)), .slice B (natL d.natAbs).length e0] 56)).trans (hb.mono (by simp))
  have PX := Hd (PX.out.below hb)
  have PR := Hd (PR.out.below hb)
  have RX := Hd (RX.out.below hb)
  have RY := Hd (RY.out.below hb)
  have HB := Hd (belowTo HB.out hb)
  clear hb l_x x0 x1 x2 x3
  obtain ⟨l_x, x0, x1, x2, x3, -, -, -, -⟩ := PX.out.facts
  have hs := HSG.out
  go_wp2_with fail
  refine (H2.out V RX.out).mono ?_
  rintro e V' ⟨rfl, hb⟩
  have PX := Hd (PX.out.below hb)
  have PR := Hd (PR.out.below hb)
  have RX := Hd (RX.out.below hb)
  have RY := Hd (RY.out.below hb)
  have HB := Hd (belowTo HB.out hb)
  clear hb l_x x0 x1 x2 x3
  clear hs
  have hs := HSG.out
  obtain ⟨l_x, x0, x1, x2, x3, -, -, -, -⟩ := PX.out.facts
  go_wp2_with fail
  refine (H3.out V' RX.out).mono ?_
  rintro e wx1 ⟨v, rfl, hI, hb⟩
  clear l_x x0 x1 x2 x3
  clear hs
  obtain ⟨A1, c1, rfl, -⟩ := hI.raw
  have I1 := Hd hI
  have T1 := Hd hI.top
  clear hI
  have HS_wx1 := Hd (show V'.heap.size ≤ wx1.heap.size from hb.size)
  have PX := Hd (PX.out.below hb)
  have PR := Hd (PR.out.below hb)
  have RX := Hd (RX.out.below hb)
  have RY := Hd (RY.out.below hb)
  have HB := Hd (belowTo HB.out hb)
  have ha := (Below.refl wx1.heap.size wx1).alloc (Nat.le_refl _) (.cells #[.bool (decide (r < 0)), .slice A1 (natL r.natAbs).length c1] 24)
  have hn := Pair.new wx1 24 (.bool (decide (r < 0))) (.slice A1 (natL r.natAbs).length c1)
  have hz : (wx1.alloc (.cells #[.bool (decide (r < 0)), .slice A1 (natL r.natAbs).length c1] 24)).heap.size = wx1.heap.size + 1 := by simp
  go_upto_region 4 with fail
  obtain ⟨wy2, E⟩ : ∃ W, W = wx1.alloc (.cells #[.bool (decide (r < 0)), .slice A1 (natL r.natAbs).length c1] 24) := ⟨_, rfl⟩
  obtain ⟨q2, hq⟩ : ∃ q, q = wx1.heap.size := ⟨_, rfl⟩
  rw [← E] at ha
  rw [← E, ← hq] at hn hz ⊢
  have HZ_wy2 := Hd (And.intro hq hz)
  have P1 := Hd hn
  have PX := Hd (PX.out.below ha)
  have PR := Hd (PR.out.below ha)
  have RX := Hd (RX.out.below ha)
  have RY := Hd (RY.out.below ha)
  have I1 := Hd (I1.out.below ha)
  have HB := Hd (belowTo HB.out ha)
  clear ha hn hz hq E
  obtain ⟨l_x, x0, x1, x2, x3, -, -, -, -⟩ := PX.out.facts
  go_wp2_with fail
  refine (H4.out wy2 RY.out).mono ?_
  rintro e wx3 ⟨v, rfl, hI, hb⟩
  clear l_x x0 x1 x2 x3
  obtain ⟨A2, c2, rfl, -⟩ := hI.raw
  have I2 := Hd hI
  clear hI
  have HS_wx3 := Hd (show wy2.heap.size ≤ wx3.heap.size from hb.size)
  have PX := Hd (PX.out.below hb)
  have PR := Hd (PR.out.below hb)
  have RX := Hd (RX.out.below hb)
  have RY := Hd (RY.out.below hb)
  have I1 := Hd (I1.out.below hb)
  have P1 := Hd (P1.out.below hb)
  have HB := Hd (belowTo HB.out hb)
  have ha := (Below.refl wx3.heap.size wx3).alloc (Nat.le_refl _) (.cells #[.bool (decide (s < 0)), .slice A2 (natL s.natAbs).length c2] 24)
  have hn := Pair.new wx3 24 (.bool (decide (s < 0))) (.slice A2 (natL s.natAbs).length c2)
  have hz : (wx3.alloc (.cells #[.bool (decide (s < 0)), .slice A2 (natL s.natAbs).length c2] 24)).heap.size = wx3.heap.size + 1 := by simp
  go_upto_region 5 with fail
  obtain ⟨wy4, E⟩ : ∃ W, W = wx3.alloc (.cells #[.bool (decide (s < 0)), .slice A2 (natL s.natAbs).length c2] 24) := ⟨_, rfl⟩
  obtain ⟨q4, hq⟩ : ∃ q, q = wx3.heap.size := ⟨_, rfl⟩
  rw [← E] at ha
  rw [← E, ← hq] at hn hz ⊢
  have HZ_wy4 := Hd (And.intro hq hz)
  have P2 := Hd hn
  have PX := Hd (PX.out.below ha)
  have PR := Hd (PR.out.below ha)
  have RX := Hd (RX.out.below ha)
  have RY := Hd (RY.out.below ha)
  have I1 := Hd (I1.out.below ha)
  have P1 := Hd (P1.out.below ha)
  have I2 := Hd (I2.out.below ha)
  have HB := Hd (belowTo HB.out ha)
  clear ha hn hz hq E
  obtain ⟨l_x, x0, x1, x2, x3, -, -, -, -⟩ := PX.out.facts
  obtain ⟨l_r, r0, r1, r2, r3, f0, f1, f2, f3⟩ := PR.out.facts
  have HQ := Hd (PR.out.store (.bool false) (.slice none 0 0) (.bool false) (.slice none 0 0))
  have HF := Hd (below4 HB.out (show w.heap.size ≤ w.heap.size + 1 by omega) (.bool false) (.slice none 0 0) (.bool false) (.slice none 0 0))
  go_wp2_with fail
  obtain ⟨_, k0, k1, k2, k3, _⟩ := HQ.out.facts
  exact bodyPost_ret (by simp [results, Tryz.results19, go_sem, k0, k1, k2, k3]) rfl ⟨_, rfl, FracOwn.nought _ _, HF.out⟩

theorem frac_Root_yes (n d r s : Int) (A B : Option Addr) (c e0 : Nat) (w : World) (h : Raw w A c (natL n.natAbs)) (g : Raw w B e0 (natL d.natAbs)) (hc : (chkE (decide (n < 0)) (decide (d < 0)) (natL n.natAbs) (natL d.natAbs) == 0) = true) (hn : 0 ≤ n) (hd : 0 ≤ d) (hln : lz n ≤ 60000) (hld : lz d ≤ 60000) (hr : IsRootZ n r) (hs : IsRootZ d s) (h1 : decide (r * r = n) = true) (h2 : decide (s * s = d) = true) :
    Calls Tryz.prog 19 #[.agg #[.bool (decide (n < 0)), .slice A (natL n.natAbs).length c, .bool (decide (d < 0)), .slice B (natL d.natAbs).length e0]] w (RetFracOwn3 w.heap.size w r s true 0) := by
  have C1 := fun (V : World) (g' : Nat) (h : Raw V A c (natL n.natAbs)) (g : Raw V B e0 (natL d.natAbs)) (hg : V.heap.size = g') => checks_new (decide (n < 0)) (decide (d < 0)) A B c e0 _ _ V g' h g hg
  rw [hc] at C1
  have H1 := Hd C1
  clear C1 hc
  obtain ⟨sg, hsg⟩ : ∃ k : Int, k = n.sign := ⟨_, rfl⟩
  have H2 := Hd (fun (V : World) (h : Raw V A c (natL n.natAbs)) => ratio_Sign n sg d A B c e0 V h hsg)
  have HSG := Hd (show ¬ sg < 0 from by rw [hsg]; have := sign_cases n; omega)
  have H3 := Hd (fun (V : World) (h : Raw V A c (natL n.natAbs)) => exact_Root_q n r true A c V h hln hn hr h1.symm)
  have H4 := Hd (fun (V : World) (h : Raw V B e0 (natL d.natAbs)) => exact_Root_q d s true B e0 V h hld hd hs h2.symm)
  clear hsg hn hd hln hld hr hs h1 h2
  have px := (Quad.new w (.bool (decide (n < 0))) (.slice A (natL n.natAbs).length c) (.bool (decide (d < 0))) (.slice B (natL d.natAbs).length e0)).alloc (.cells #[.bool false, .slice none 0 0, .bool false, .slice none 0 0] 56)
  have pr := Quad.new (w.alloc (.cells #[.bool (decide (n < 0)), .slice A (natL n.natAbs).length c, .bool (decide (d < 0)), .slice B (natL d.natAbs).length e0] 56)) (.bool false) (.slice none 0 0) (.bool false) (.slice none 0 0)
  have b0 := ((Below.refl w.heap.size w).alloc (Nat.le_refl _) (.cells #[.bool (decide (n < 0)), .slice A (natL n.natAbs).length c, .bool (decide (d < 0)), .slice B (natL d.natAbs).length e0] 56)).alloc (by simp) (.cells #[.bool false, .slice none 0 0, .bool false, .slice none 0 0] 56)
  simp only [World.size_alloc] at pr
  have PX := Hd px
  have PR := Hd pr
  have HB := Hd b0
  have RX := Hd (h.below b0)
  have RY := Hd (g.below b0)
  clear px pr b0 h g
  go_enter Tryz.func19, Tryz.ntmps19
  go_upto_region 1 with fail
  obtain ⟨W, E⟩ : ∃ W, W = (w.alloc (.cells #[.bool (decide (n < 0)), .slice A (natL n.natAbs).length c, .bool (decide (d < 0)), .slice B (natL d.natAbs).length e0] 56)).alloc (.cells #[.bool false, .slice none 0 0, .bool false, .slice none 0 0] 56) := ⟨_, rfl⟩
  rw [← E] at PX PR HB RX RY ⊢
  clear E
  have HS0 := Hd (show w.heap.size ≤ W.heap.size from HB.out.size)
  obtain ⟨l_x, x0, x1, x2, x3, -, -, -, -⟩ := PX.out.facts
  go_wp2_with fail
  refine (H1.out W _ RX.out RY.out rfl).mono ?_
  rintro e V ⟨rfl, hb⟩
  have hb := ((Below.refl W.heap.size W).alloc (Nat.le_refl _) (.cells #[.bool (decide (n < 0)), .slice A (natL n.natAbs).length c, .bool (decide (d < 0)), .slice B (natL d.natAbs).length e0] 56)).trans (hb.mono (by simp))
  have PX := Hd (PX.out.below hb)
  have PR := Hd (PR.out.below hb)
  have RX := Hd (RX.out.below hb)
  have RY := Hd (RY.out.below hb)
  have HB := Hd (belowTo HB.out hb)
  clear hb l_x x0 x1 x2 x3
  obtain ⟨l_x, x0, x1, x2, x3, -, -, -, -⟩ := PX.out.facts
  have hs := HSG.out
  go_wp2_with fail
  refine (H2.out V RX.out).mono ?_
  rintro e V' ⟨rfl, hb⟩
  have PX := Hd (PX.out.below hb)
  have PR := Hd (PR.out.below hb)
  have RX := Hd (RX.out.below hb)
  have RY := Hd (RY.out.below hb)
  have HB := Hd (belowTo HB.out hb)
  clear hb l_x x0 x1 x2 x3
  have HSV := Hd (show w.heap.size ≤ V'.heap.size from HB.out.size)
  clear hs
  have hs := HSG.out
  obtain ⟨l_x, x0, x1, x2, x3, -, -, -, -⟩ := PX.out.facts
  go_wp2_with fail
  refine (H3.out V' RX.out).mono ?_
  rintro e wx1 ⟨v, rfl, hI, hb⟩
  clear l_x x0 x1 x2 x3
  clear hs
  obtain ⟨A1, c1, rfl, -⟩ := hI.raw
  have I1 := Hd hI
  have T1 := Hd hI.top
  clear hI
  have HS_wx1 := Hd (show V'.heap.size ≤ wx1.heap.size from hb.size)
  have PX := Hd (PX.out.below hb)
  have PR := Hd (PR.out.below hb)
  have RX := Hd (RX.out.below hb)
  have RY := Hd (RY.out.below hb)
  have HB := Hd (belowTo HB.out hb)
  have ha := (Below.refl wx1.heap.size wx1).alloc (Nat.le_refl _) (.cells #[.bool (decide (r < 0)), .slice A1 (natL r.natAbs).length c1] 24)
  have hn := Pair.new wx1 24 (.bool (decide (r < 0))) (.slice A1 (natL r.natAbs).length c1)
  have hz : (wx1.alloc (.cells #[.bool (decide (r < 0)), .slice A1 (natL r.natAbs).length c1] 24)).heap.size = wx1.heap.size + 1 := by simp
  go_upto_region 4 with fail
  obtain ⟨wy2, E⟩ : ∃ W, W = wx1.alloc (.cells #[.bool (decide (r < 0)), .slice A1 (natL r.natAbs).length c1] 24) := ⟨_, rfl⟩
  obtain ⟨q2, hq⟩ : ∃ q, q = wx1.heap.size := ⟨_, rfl⟩
  rw [← E] at ha
  rw [← E, ← hq] at hn hz ⊢
  have HZ_wy2 := Hd (And.intro hq hz)
  have P1 := Hd hn
  have PX := Hd (PX.out.below ha)
  have PR := Hd (PR.out.below ha)
  have RX := Hd (RX.out.below ha)
  have RY := Hd (RY.out.below ha)
  have I1 := Hd (I1.out.below ha)
  have HB := Hd (belowTo HB.out ha)
  clear ha hn hz hq E
  obtain ⟨l_x, x0, x1, x2, x3, -, -, -, -⟩ := PX.out.facts
  go_wp2_with fail
  refine (H4.out wy2 RY.out).mono ?_
  rintro e wx3 ⟨v, rfl, hI, hb⟩
  clear l_x x0 x1 x2 x3
  obtain ⟨A2, c2, rfl, -⟩ := hI.raw
  have I2 := Hd hI
  clear hI
  have HS_wx3 := Hd (show wy2.heap.size ≤ wx3.heap.size from hb.size)
  have PX := Hd (PX.out.below hb)
  have PR := Hd (PR.out.below hb)
  have RX := Hd (RX.out.below hb)
  have RY := Hd (RY.out.below hb)
  have I1 := Hd (I1.out.below hb)
  have P1 := Hd (P1.out.below hb)
  have HB := Hd (belowTo HB.out hb)
  have ha := (Below.refl wx3.heap.size wx3).alloc (Nat.le_refl _) (.cells #[.bool (decide (s < 0)), .slice A2 (natL s.natAbs).length c2] 24)
  have hn := Pair.new wx3 24 (.bool (decide (s < 0))) (.slice A2 (natL s.natAbs).length c2)
  have hz : (wx3.alloc (.cells #[.bool (decide (s < 0)), .slice A2 (natL s.natAbs).length c2] 24)).heap.size = wx3.heap.size + 1 := by simp
  go_upto_region 5 with fail
  obtain ⟨wy4, E⟩ : ∃ W, W = wx3.alloc (.cells #[.bool (decide (s < 0)), .slice A2 (natL s.natAbs).length c2] 24) := ⟨_, rfl⟩
  obtain ⟨q4, hq⟩ : ∃ q, q = wx3.heap.size := ⟨_, rfl⟩
  rw [← E] at ha
  rw [← E, ← hq] at hn hz ⊢
  have HZ_wy4 := Hd (And.intro hq hz)
  have P2 := Hd hn
  have PX := Hd (PX.out.below ha)
  have PR := Hd (PR.out.below ha)
  have RX := Hd (RX.out.below ha)
  have RY := Hd (RY.out.below ha)
  have I1 := Hd (I1.out.below ha)
  have P1 := Hd (P1.out.below ha)
  have I2 := Hd (I2.out.below ha)
  have HB := Hd (belowTo HB.out ha)
  clear ha hn hz hq E
  have HO := Hd (show FracOwn wy4 w.heap.size (.agg #[.bool (decide (r < 0)), .slice A1 (natL r.natAbs).length c1, .bool (decide (s < 0)), .slice A2 (natL s.natAbs).length c2]) r s from by
    have k_HS_wx1 := HS_wx1.out
    have k_HZ_wy2 := HZ_wy2.out
    have k_HS_wx3 := HS_wx3.out
    have k_HZ_wy4 := HZ_wy4.out
    have hs0 := HS0.out
    have hs1 := HSV.out
    refine (FracOwn.of I1.out I2.out (by omega) (fun x hx => ?_)).base (by omega)
    have := (T1.out x hx).2
    omega)
  obtain ⟨l_a, a0, a1, -, -⟩ := P1.out.facts
  obtain ⟨l_b, b0, b1, -, -⟩ := P2.out.facts
  obtain ⟨l_r, r0, r1, r2, r3, f0, f1, f2, f3⟩ := PR.out.facts
  have HQ := Hd (PR.out.store (.bool (decide (r < 0))) (.slice A1 (natL r.natAbs).length c1) (.bool (decide (s < 0))) (.slice A2 (natL s.natAbs).length c2))
  have HF := Hd (below4 HB.out (show w.heap.size ≤ w.heap.size + 1 by omega) (.bool (decide (r < 0))) (.slice A1 (natL r.natAbs).length c1) (.bool (decide (s < 0))) (.slice A2 (natL s.natAbs).length c2))
  have HOQ := Hd (HO.out.quad PR.out (.bool (decide (r < 0))) (.slice A1 (natL r.natAbs).length c1) (.bool (decide (s < 0))) (.slice A2 (natL s.natAbs).length c2))
  go_wp2_with fail
  obtain ⟨_, k0, k1, k2, k3, _⟩ := HQ.out.facts
  exact bodyPost_ret (by simp [results, Tryz.results19, go_sem, k0, k1, k2, k3]) rfl ⟨_, rfl, HOQ.out, HF.out⟩

theorem ref02_Root_bad (n1 n2 : Bool) (A B : Option Addr) (c e0 : Nat) (xs ys : List Nat) (w : World) (h : Raw w A c xs) (g : Raw w B e0 ys) (hc : (chkE n1 n2 xs ys == 0) = false) :
    Calls Tryz.prog 20 #[.agg #[.bool n1, .slice A xs.length c, .bool n2, .slice B ys.length e0]] w (RetFracOwn3 w.heap.size w 0 0 false 1) := by
  have C1 := fun (V : World) (g' : Nat) (h : Raw V A c xs) (g : Raw V B e0 ys) (hg : V.heap.size = g') => rchecks_new n1 n2 A B c e0 xs ys V g' h g hg
  rw [hc] at C1
  have H1 := Hd C1
  clear C1 hc
  have px := (Quad.new w (.bool n1) (.slice A xs.length c) (.bool n2) (.slice B ys.length e0)).alloc (.cells #[.bool false, .slice none 0 0, .bool false, .slice none 0 0] 56)
  have pr := Quad.new (w.alloc (.cells #[.bool n1, .slice A xs.length c, .bool n2, .slice B ys.length e0] 56)) (.bool false) (.slice none 0 0) (.bool false) (.slice none 0 0)
  have b0 := ((Below.refl w.heap.size w).alloc (Nat.le_refl _) (.cells #[.bool n1, .slice A xs.length c, .bool n2, .slice B ys.length e0] 56)).alloc (by simp) (.cells #[.bool false, .slice none 0 0, .bool false, .slice none 0 0] 56)
  simp only [World.size_alloc] at pr
  have PX := Hd px
  have PR := Hd pr
  have HB := Hd b0
  have RX := Hd (h.below b0)
  have RY := Hd (g.below b0)
  clear px pr b0 h g
  go_enter Tryz.func20, Tryz.ntmps20
  go_upto_region 1 with fail
  obtain ⟨W, E⟩ : ∃ W, W = (w.alloc (.cells #[.bool n1, .slice A xs.length c, .bool n2, .slice B ys.length e0] 56)).alloc (.cells #[.bool false, .slice none 0 0, .bool false, .slice none 0 0] 56) := ⟨_, rfl⟩
  rw [← E] at PX PR HB RX RY ⊢
  clear E
  have HS0 := Hd (show w.heap.size ≤ W.heap.size from HB.out.size)
  obtain ⟨l_x, x0, x1, x2, x3, -, -, -, -⟩ := PX.out.facts
  go_wp2_with fail
  refine (H1.out W _ RX.out RY.out rfl).mono ?_
  rintro e V ⟨rfl, hb⟩
  have hb := ((Below.refl W.heap.size W).alloc (Nat.le_refl _) (.cells #[.bool n1, .slice A xs.length c, .bool n2, .slice B ys.length e0] 56)).trans (hb.mono (by simp))
  have PX := Hd (PX.out.below hb)
  have PR := Hd (PR.out.below hb)
  have RX := Hd (RX.out.below hb)
  have RY := Hd (RY.out.below hb)
  have HB := Hd (belowTo HB.out hb)
  clear hb l_x x0 x1 x2 x3
  obtain ⟨l_x, x0, x1, x2, x3, -, -, -, -⟩ := PX.out.facts
  obtain ⟨l_r, r0, r1, r2, r3, f0, f1, f2, f3⟩ := PR.out.facts
  have HQ := Hd (PR.out.store (.bool false) (.slice none 0 0) (.bool false) (.slice none 0 0))
  have HF := Hd (below4 HB.out (show w.heap.size ≤ w.heap.size + 1 by omega) (.bool false) (.slice none 0 0) (.bool false) (.slice none 0 0))
  go_wp2_with fail
  obtain ⟨_, k0, k1, k2, k3, _⟩ := HQ.out.facts
  exact bodyPost_ret (by simp [results, Tryz.results20, go_sem, k0, k1, k2, k3]) rfl ⟨_, rfl, FracOwn.nought _ _, HF.out⟩

theorem ref02_Root_neg (n d : Int) (A B : Option Addr) (c e0 : Nat) (w : World) (h : Raw w A c (natL n.natAbs)) (g : Raw w B e0 (natL d.natAbs)) (hc : (chkE (decide (n < 0)) (decide (d < 0)) (natL n.natAbs) (natL d.natAbs) == 0) = true) (hn : n < 0) :
    Calls Tryz.prog 20 #[.agg #[.bool (decide (n < 0)), .slice A (natL n.natAbs).length c, .bool (decide (d < 0)), .slice B (natL d.natAbs).length e0]] w (RetFracOwn3 w.heap.size w 0 0 false 1) := by
  have C1 := fun (V : World) (g' : Nat) (h : Raw V A c (natL n.natAbs)) (g : Raw V B e0 (natL d.natAbs)) (hg : V.heap.size = g') => rchecks_new (decide (n < 0)) (decide (d < 0)) A B c e0 _ _ V g' h g hg
  rw [hc] at C1
  have H1 := Hd C1
  clear C1 hc
  obtain ⟨sg, hsg⟩ : ∃ k : Int, k = n.sign := ⟨_, rfl⟩
  have H2 := Hd (fun (V : World) (h : Raw V A c (natL n.natAbs)) => ref02_Sign n sg d A B c e0 V h hsg)
  have HSG := Hd (show sg < 0 from by rw [hsg, Int.sign_eq_neg_one_of_neg hn]; decide)
  clear hsg hn
  have px := (Quad.new w (.bool (decide (n < 0))) (.slice A (natL n.natAbs).length c) (.bool (decide (d < 0))) (.slice B (natL d.natAbs).length e0)).alloc (.cells #[.bool false, .slice none 0 0, .bool false, .slice none 0 0] 56)
  have pr := Quad.new (w.alloc (.cells #[.bool (decide (n < 0)), .slice A (natL n.natAbs).length c, .bool (decide (d < 0)), .slice B (natL d.natAbs).length e0] 56)) (.bool false) (.slice none 0 0) (.bool false) (.slice none 0 0)
  have b0 := ((Below.refl w.heap.size w).alloc (Nat.le_refl _) (.cells #[.bool (decide (n < 0)), .slice A (natL n.natAbs).length c, .bool (decide (d < 0)), .slice B (natL d.natAbs).length e0] 56)).alloc (by simp) (.cells #[.bool false, .slice none 0 0, .bool false, .slice none 0 0] 56)
  simp only [World.size_alloc] at pr
  have PX := Hd px
  have PR := Hd pr
  have HB := Hd b0
  have RX := Hd (h.below b0)
  have RY := Hd (g.below b0)
  clear px pr b0 h g
  go_enter Tryz.func20, Tryz.ntmps20
  go_upto_region 1 with fail
  obtain ⟨W, E⟩ : ∃ W, W = (w.alloc (.cells #[.bool (decide (n < 0)), .slice A (natL n.natAbs).length c, .bool (decide (d < 0)), .slice B (natL d.natAbs).length e0] 56)).alloc (.cells #[.bool false, .slice none 0 0, .bool false, .slice none 0 0] 56) := ⟨_, rfl⟩
  rw [← E] at PX PR HB RX RY ⊢
  clear E
  have HS0 := Hd (show w.heap.size ≤ W.heap.size from HB.out.size)
  obtain ⟨l_x, x0, x1, x2, x3, -, -, -, -⟩ := PX.out.facts
  go_wp2_with fail
  refine (H1.out W _ RX.out RY.out rfl).mono ?_
  rintro e V ⟨rfl, hb⟩
  have hb := ((Below.refl W.heap.size W).alloc (Nat.le_refl _) (.cells #[.bool (decide (n < 0)), .slice A (natL n.natAbs).length c, .bool (decide (d < 0)), .slice B (natL d.natAbs).length e0] 56)).trans (hb.mono (by simp))
  have PX := Hd (PX.out.below hb)
  have PR := Hd (PR.out.below hb)
  have RX := Hd (RX.out.below hb)
  have RY := Hd (RY.out.below hb)
  have HB := Hd (belowTo HB.out hb)
  clear hb l_x x0 x1 x2 x3
  obtain ⟨l_x, x0, x1, x2, x3, -, -, -, -⟩ := PX.out.facts
  have hs := HSG.out
  go_wp2_with fail
  refine (H2.out V RX.out).mono ?_
  rintro e V' ⟨rfl, hb⟩
  have PX := Hd (PX.out.below hb)
  have PR := Hd (PR.out.below hb)
  have RX := Hd (RX.out.below hb)
  have RY := Hd (RY.out.below hb)
  have HB := Hd (belowTo HB.out hb)
  clear hb l_x x0 x1 x2 x3
  obtain ⟨l_x, x0, x1, x2, x3, -, -, -, -⟩ := PX.out.facts
  obtain ⟨l_r, r0, r1, r2, r3, f0, f1, f2, f3⟩ := PR.out.facts
  have HQ := Hd (PR.out.store (.bool false) (.slice none 0 0) (.bool false) (.slice none 0 0))
  have HF := Hd (below4 HB.out (show w.heap.size ≤ w.heap.size + 1 by omega) (.bool false) (.slice none 0 0) (.bool false) (.slice none 0 0))
  go_wp2_with fail
  obtain ⟨_, k0, k1, k2, k3, _⟩ := HQ.out.facts
  exact bodyPost_ret (by simp [results, Tryz.results20, go_sem, k0, k1, k2, k3]) rfl ⟨_, rfl, FracOwn.nought _ _, HF.out⟩

theorem ref02_Root_no1 (n d r s : Int) (A B : Option Addr) (c e0 : Nat) (w : World) (h : Raw w A c (natL n.natAbs)) (g : Raw w B e0 (natL d.natAbs)) (hc : (chkE (decide (n < 0)) (decide (d < 0)) (natL n.natAbs) (natL d.natAbs) == 0) = true) (hn : 0 ≤ n) (hd : 0 ≤ d) (hln : lz n ≤ 60000) (hld : lz d ≤ 60000) (hr : IsRootZ n r) (hs : IsRootZ d s) (h1 : decide (r * r = n) = false) :
    Calls Tryz.prog 20 #[.agg #[.bool (decide (n < 0)), .slice A (natL n.natAbs).length c, .bool (decide (d < 0)), .slice B (natL d.natAbs).length e0]] w (RetFracOwn3 w.heap.size w 0 0 false 0) := by
  have C1 := fun (V : World) (g' : Nat) (h : Raw V A c (natL n.natAbs)) (g : Raw V B e0 (natL d.natAbs)) (hg : V.heap.size = g') => rchecks_new (decide (n < 0)) (decide (d < 0)) A B c e0 _ _ V g' h g hg
  rw [hc] at C1
  have H1 := Hd C1
  clear C1 hc
  obtain ⟨sg, hsg⟩ : ∃ k : Int, k = n.sign := ⟨_, rfl⟩
  have H2 := Hd (fun (V : World) (h : Raw V A c (natL n.natAbs)) => ref02_Sign n sg d A B c e0 V h hsg)
  have HSG := Hd (show ¬ sg < 0 from by rw [hsg]; have := sign_cases n; omega)
  have H3 := Hd (fun (V : World) (h : Raw V A c (natL n.natAbs)) => ref_Root_q n r false A c V h hln hn hr h1.symm)
  obtain ⟨b2, hb2⟩ : ∃ b : Bool, b = decide (s * s = d) := ⟨_, rfl⟩
  have H4 := Hd (fun (V : World) (h : Raw V B e0 (natL d.natAbs)) => ref_Root_q d s b2 B e0 V h hld hd hs hb2)
  clear hsg hn hd hln hld hr hs h1 hb2
  have px := (Quad.new w (.bool (decide (n < 0))) (.slice A (natL n.natAbs).length c) (.bool (decide (d < 0))) (.slice B (natL d.natAbs).length e0)).alloc (.cells #[.bool false, .slice none 0 0, .bool false, .slice none 0 0] 56)
  have pr := Quad.new (w.alloc (.cells #[.bool (decide (n < 0)), .slice A (natL n.natAbs).length c, .bool (decide (d < 0)), .slice B (natL d.natAbs).length e0] 56)) (.bool false) (.slice none 0 0) (.bool false) (.slice none 0 0)
  have b0 := ((Below.refl w.heap.size w).alloc (Nat.le_refl _) (.cells #[.bool (decide (n < 0)), .slice A (natL n.natAbs).length c, .bool (decide (d < 0)), .slice B (natL d.natAbs).length e0] 56)).alloc (by simp) (.cells #[.bool false, .slice none 0 0, .bool false, .slice none 0 0] 56)
  simp only [World.size_alloc] at pr
  have PX := Hd px
  have PR := Hd pr
  have HB := Hd b0
  have RX := Hd (h.below b0)
  have RY := Hd (g.below b0)
  clear px pr b0 h g
  go_enter Tryz.func20, Tryz.ntmps20
  go_upto_region 1 with fail
  obtain ⟨W, E⟩ : ∃ W, W = (w.alloc (.cells #[.bool (decide (n < 0)), .slice A (natL n.natAbs).length c, .bool (decide (d < 0)), .slice B (natL d.natAbs).length e0] 56)).alloc (.cells #[.bool false, .slice none 0 0, .bool false, .slice none 0 0] 56) := ⟨_, rfl⟩
  rw [← E] at PX PR HB RX RY ⊢
  clear E
  have HS0 := Hd (show w.heap.size ≤ W.heap.size from HB.out.size)
  obtain ⟨l_x, x0, x1, x2, x3, -, -, -, -⟩ := PX.out.facts
  go_wp2_with fail
  refine (H1.out W _ RX.out RY.out rfl).mono ?_
  rintro e V ⟨rfl, hb⟩
  have hb := ((Below.refl W.heap.size W).alloc (Nat.le_refl _) (.cells #[.bool (decide (n < 0)), .slice A (natL n.natAbs).length c, .bool (decide (d < 0)), .slice B (natL d.natAbs).length e0] 56)).trans (hb.mono (by simp))
  have PX := Hd (PX.out.below hb)
  have PR := Hd (PR.out.below hb)
  have RX := Hd (RX.out.below hb)
  have RY := Hd (RY.out.below hb)
  have HB := Hd (belowTo HB.out hb)
  clear hb l_x x0 x1 x2 x3
  obtain ⟨l_x, x0, x1, x2, x3, -, -, -, -⟩ := PX.out.facts
  have hs := HSG.out
  go_wp2_with fail
  refine (H2.out V RX.out).mono ?_
  rintro e V' ⟨rfl, hb⟩
  have PX := Hd (PX.out.below hb)
  have PR := Hd (PR.out.below hb)
  have RX := Hd (RX.out.below hb)
  have RY := Hd (RY.out.below hb)
  have HB := Hd (belowTo HB.out hb)
  clear hb l_x x0 x1 x2 x3
  clear hs
  have hs := HSG.out
  obtain ⟨l_x, x0, x1, x2, x3, -, -, -, -⟩ := PX.out.facts
  go_wp2_with fail
  refine (H3.out V' RX.out).mono ?_
  rintro e wx1 ⟨v, rfl, hI, hb⟩
  clear l_x x0 x1 x2 x3
  clear hs
  obtain ⟨A1, c1, rfl, -⟩ := hI.raw
  have I1 := Hd hI
  have T1 := Hd hI.top
  clear hI
  have HS_wx1 := Hd (show V'.heap.size ≤ wx1.heap.size from hb.size)
  have PX := Hd (PX.out.below hb)
  have PR := Hd (PR.out.below hb)
  have RX := Hd (RX.out.below hb)
  have RY := Hd (RY.out.below hb)
  have HB := Hd (belowTo HB.out hb)
  have ha := (Below.refl wx1.heap.size wx1).alloc (Nat.le_refl _) (.cells #[.bool (decide (r < 0)), .slice A1 (natL r.natAbs).length c1] 24)
  have hn := Pair.new wx1 24 (.bool (decide (r < 0))) (.slice A1 (natL r.natAbs).length c1)
  have hz : (wx1.alloc (.cells #[.bool (decide (r < 0)), .slice A1 (natL r.natAbs).length c1] 24)).heap.size = wx1.heap.size + 1 := by simp
  go_upto_region 4 with fail
  obtain ⟨wy2, E⟩ : ∃ W, W = wx1.alloc (.cells #[.bool (decide (r < 0)), .slice A1 (natL r.natAbs).length c1] 24) := ⟨_, rfl⟩
  obtain ⟨q2, hq⟩ : ∃ q, q = wx1.heap.size := ⟨_, rfl⟩
  rw [← E] at ha
  rw [← E, ← hq] at hn hz ⊢
  have HZ_wy2 := Hd (And.intro hq hz)
  have P1 := Hd hn
  have PX := Hd (PX.out.below ha)
  have PR := Hd (PR.out.below ha)
  have RX := Hd (RX.out.below ha)
  have RY := Hd (RY.out.below ha)
  have I1 := Hd (I1.out.below ha)
  have HB := Hd (belowTo HB.out ha)
  clear ha hn hz hq E
  obtain ⟨l_x, x0, x1, x2, x3, -, -, -, -⟩ := PX.out.facts
  go_wp2_with fail
  refine (H4.out wy2 RY.out).mono ?_
  rintro e wx3 ⟨v, rfl, hI, hb⟩
  clear l_x x0 x1 x2 x3
  obtain ⟨A2, c2, rfl, -⟩ := hI.raw
  have I2 := Hd hI
  clear hI
  have HS_wx3 := Hd (show wy2.heap.size ≤ wx3.heap.size from hb.size)
  have PX := Hd (PX.out.below hb)
  have PR := Hd (PR.out.below hb)
  have RX := Hd (RX.out.below hb)
  have RY := Hd (RY.out.below hb)
  have I1 := Hd (I1.out.below hb)
  have P1 := Hd (P1.out.below hb)
  have HB := Hd (belowTo HB.out hb)
  have ha := (Below.refl wx3.heap.size wx3).alloc (Nat.le_refl _) (.cells #[.bool (decide (s < 0)), .slice A2 (natL s.natAbs).length c2] 24)
  have hn := Pair.new wx3 24 (.bool (decide (s < 0))) (.slice A2 (natL s.natAbs).length c2)
  have hz : (wx3.alloc (.cells #[.bool (decide (s < 0)), .slice A2 (natL s.natAbs).length c2] 24)).heap.size = wx3.heap.size + 1 := by simp
  go_upto_region 5 with fail
  obtain ⟨wy4, E⟩ : ∃ W, W = wx3.alloc (.cells #[.bool (decide (s < 0)), .slice A2 (natL s.natAbs).length c2] 24) := ⟨_, rfl⟩
  obtain ⟨q4, hq⟩ : ∃ q, q = wx3.heap.size := ⟨_, rfl⟩
  rw [← E] at ha
  rw [← E, ← hq] at hn hz ⊢
  have HZ_wy4 := Hd (And.intro hq hz)
  have P2 := Hd hn
  have PX := Hd (PX.out.below ha)
  have PR := Hd (PR.out.below ha)
  have RX := Hd (RX.out.below ha)
  have RY := Hd (RY.out.below ha)
  have I1 := Hd (I1.out.below ha)
  have P1 := Hd (P1.out.below ha)
  have I2 := Hd (I2.out.below ha)
  have HB := Hd (belowTo HB.out ha)
  clear ha hn hz hq E
  obtain ⟨l_x, x0, x1, x2, x3, -, -, -, -⟩ := PX.out.facts
  obtain ⟨l_r, r0, r1, r2, r3, f0, f1, f2, f3⟩ := PR.out.facts
  have HQ := Hd (PR.out.store (.bool false) (.slice none 0 0) (.bool false) (.slice none 0 0))
  have HF := Hd (below4 HB.out (show w.heap.size ≤ w.heap.size + 1 by omega) (.bool false) (.slice none 0 0) (.bool false) (.slice none 0 0))
  go_wp2_with fail
  obtain ⟨_, k0, k1, k2, k3, _⟩ := HQ.out.facts
  exact bodyPost_ret (by simp [results, Tryz.results20, go_sem, k0, k1, k2, k3]) rfl ⟨_, rfl, FracOwn.nought _ _, HF.out⟩

theorem ref02_Root_no2 (n d r s : Int) (A B : Option Addr) (c e0 : Nat) (w : World) (h : Raw w A c (natL n.natAbs)) (g : Raw w B e0 (natL d.natAbs)) (hc : (chkE (decide (n < 0)) (decide (d < 0)) (natL n.natAbs) (natL d.natAbs) == 0) = true) (hn : 0 ≤ n) (hd : 0 ≤ d) (hln : lz n ≤ 60000) (hld : lz d ≤ 60000) (hr : IsRootZ n r) (hs : IsRootZ d s) (h1 : decide (r * r = n) = true) (h2 : decide (s * s = d) = false) :
    Calls Tryz.prog 20 #[.agg #[.bool (decide (n < 0)), .slice A (natL n.natAbs).length c, .bool (decide (d < 0)), .slice B (natL d.natAbs).length e0]] w (RetFracOwn3 w.heap.size w 0 0 false 0) := by
  have C1 := fun (V : World) (g' : Nat) (h : Raw V A c (natL n.natAbs)) (g : Raw V B e0 (natL d.natAbs)) (hg : V.heap.size = g') => rchecks_new (decide (n < 0)) (decide (d < 0)) A B c e0 _ _ V g' h g hg
  rw [hc] at C1
  have H1 := Hd C1
  clear C1 hc
  obtain ⟨sg, hsg⟩ : ∃ k : Int, k = n.sign := ⟨_, rfl⟩
  have H2 := Hd (fun (V : World) (h : Raw V A c (natL n.natAbs)) => ref02_Sign n sg d A B c e0 V h hsg)
  have HSG := Hd (show ¬ sg < 0 from by rw [hsg]; have := sign_cases n; omega)
  have H3 := Hd (fun (V : World) (h : Raw V A c (natL n.natAbs)) => ref_Root_q n r true A c V h hln hn hr h1.symm)
  have H4 := Hd (fun (V : World) (h : Raw V B e0 (natL d.natAbs)) => ref_Root_q d s false B e0 V h hld hd hs h2.symm)
  clear hsg hn hd hln hld hr hs h1 h2
  have px := (Quad.new w (.bool (decide (n < 0))) (.slice A (natL n.natAbs).length c) (.bool (decide (d < 0))) (.slice B (natL d.natAbs).length e0)).alloc (.cells #[.bool false, .slice none 0 0, .bool false, .slice none 0 0] 56)
  have pr := Quad.new (w.alloc (.cells #[.bool (decide (n < 0)), .slice A (natL n.natAbs).length c, .bool (decide (d < 0)), .slice B (natL d.natAbs).length e0] 56)) (.bool false) (.slice none 0 0) (.bool false) (.slice none 0 0)
  have b0 := ((Below.refl w.heap.size w).alloc (Nat.le_refl _) (.cells #[.bool (decide (n < 0)), .slice A (natL n.natAbs).length c, .bool (decide (d < 0)), .slice B (natL d.natAbs).length e0] 56)).alloc (by simp) (.cells #[.bool false, .slice none 0 0, .bool false, .slice none 0 0] 56)
  simp only [World.size_alloc] at pr
  have PX := Hd px
  have PR := Hd pr
  have HB := Hd b0
  have RX := Hd (h.below b0)
  have RY := Hd (g.below b0)
  clear px pr b0 h g
  go_enter Tryz.func20, Tryz.ntmps20
  go_upto_region 1 with fail
  obtain ⟨W, E⟩ : ∃ W, W = (w.alloc (.cells #[.bool (decide (n < 0)), .slice A (natL n.natAbs).length c, .bool (decide (d < 0)), .slice B (natL d.natAbs).length e0] 56)).alloc (.cells #[.bool false, .slice none 0 0, .bool false, .slice none 0 0] 56) := ⟨_, rfl⟩
  rw [← E] at PX PR HB RX RY ⊢
  clear E
  have HS0 := Hd (show w.heap.size ≤ W.heap.size from HB.out.size)
  obtain ⟨l_x, x0, x1, x2, x3, -, -, -, -⟩ := PX.out.facts
  go_wp2_with fail
  refine (H1.out W _ RX.out RY.out rfl).mono ?_
  rintro e V ⟨rfl, hb⟩
  have hb := ((Below.refl W.heap.size W).alloc (Nat.le_refl _) (.cells #[.bool (decide (n < 0)), .slice A (natL n.natAbs).length c, .bool (decide (d < 0)), .slice B (natL d.natAbs).length e0] 56)).trans (hb.mono (by simp))
  have PX := Hd (PX.out.below hb)
  have PR := Hd (PR.out.below hb)
  have RX := Hd (RX.out.below hb)
  have RY := Hd (RY.out.below hb)
  have HB := Hd (belowTo HB.out hb)
  clear hb l_x x0 x1 x2 x3
  obtain ⟨l_x, x0, x1, x2, x3, -, -, -, -⟩ := PX.out.facts
  have hs := HSG.out
  go_wp2_with fail
  refine (H2.out V RX.out).mono ?_
  rintro e V' ⟨rfl, hb⟩
  have PX := Hd (PX.out.below hb)
  have PR := Hd (PR.out.below hb)
  have RX := Hd (RX.out.below hb)
  have RY := Hd (RY.out.below hb)
  have HB := Hd (belowTo HB.out hb)
  clear hb l_x x0 x1 x2 x3
  clear hs
  have hs := HSG.out
  obtain ⟨l_x, x0, x1, x2, x3, -, -, -, -⟩ := PX.out.facts
  go_wp2_with fail
  refine (H3.out V' RX.out).mono ?_
  rintro e wx1 ⟨v, rfl, hI, hb⟩
  clear l_x x0 x1 x2 x3
  clear hs
  obtain ⟨A1, c1, rfl, -⟩ := hI.raw
  have I1 := Hd hI
  have T1 := Hd hI.top
  clear hI
  have HS_wx1 := Hd (show V'.heap.size ≤ wx1.heap.size from hb.size)
  have PX := Hd (PX.out.below hb)
  have PR := Hd (PR.out.below hb)
  have RX := Hd (RX.out.below hb)
  have RY := Hd (RY.out.below hb)
  have HB := Hd (belowTo HB.out hb)
  have ha := (Below.refl wx1.heap.size wx1).alloc (Nat.le_refl _) (.cells #[.bool (decide (r < 0)), .slice A1 (natL r.natAbs).length c1] 24)
  have hn := Pair.new wx1 24 (.bool (decide (r < 0))) (.slice A1 (natL r.natAbs).length c1)
  have hz : (wx1.alloc (.cells #[.bool (decide (r < 0)), .slice A1 (natL r.natAbs).length c1] 24)).heap.size = wx1.heap.size + 1 := by simp
  go_upto_region 4 with fail
  obtain ⟨wy2, E⟩ : ∃ W, W = wx1.alloc (.cells #[.bool (decide (r < 0)), .slice A1 (natL r.natAbs).length c1] 24) := ⟨_, rfl⟩
  obtain ⟨q2, hq⟩ : ∃ q, q = wx1.heap.size := ⟨_, rfl⟩
  rw [← E] at ha
  rw [← E, ← hq] at hn hz ⊢
  have HZ_wy2 := Hd (And.intro hq hz)
  have P1 := Hd hn
  have PX := Hd (PX.out.below ha)
  have PR := Hd (PR.out.below ha)
  have RX := Hd (RX.out.below ha)
  have RY := Hd (RY.out.below ha)
  have I1 := Hd (I1.out.below ha)
  have HB := Hd (belowTo HB.out ha)
  clear ha hn hz hq E
  obtain ⟨l_x, x0, x1, x2, x3, -, -, -, -⟩ := PX.out.facts
  go_wp2_with fail
  refine (H4.out wy2 RY.out).mono ?_
  rintro e wx3 ⟨v, rfl, hI, hb⟩
  clear l_x x0 x1 x2 x3
  obtain ⟨A2, c2, rfl, -⟩ := hI.raw
  have I2 := Hd hI
  clear hI
  have HS_wx3 := Hd (show wy2.heap.size ≤ wx3.heap.size from hb.size)
  have PX := Hd (PX.out.below hb)
  have PR := Hd (PR.out.below hb)
  have RX := Hd (RX.out.below hb)
  have RY := Hd (RY.out.below hb)
  have I1 := Hd (I1.out.below hb)
  have P1 := Hd (P1.out.below hb)
  have HB := Hd (belowTo HB.out hb)
  have ha := (Below.refl wx3.heap.size wx3).alloc (Nat.le_refl _) (.cells #[.bool (decide (s < 0)), .slice A2 (natL s.natAbs).length c2] 24)
  have hn := Pair.new wx3 24 (.bool (decide (s < 0))) (.slice A2 (natL s.natAbs).length c2)
  have hz : (wx3.alloc (.cells #[.bool (decide (s < 0)), .slice A2 (natL s.natAbs).length c2] 24)).heap.size = wx3.heap.size + 1 := by simp
  go_upto_region 5 with fail
  obtain ⟨wy4, E⟩ : ∃ W, W = wx3.alloc (.cells #[.bool (decide (s < 0)), .slice A2 (natL s.natAbs).length c2] 24) := ⟨_, rfl⟩
  obtain ⟨q4, hq⟩ : ∃ q, q = wx3.heap.size := ⟨_, rfl⟩
  rw [← E] at ha
  rw [← E, ← hq] at hn hz ⊢
  have HZ_wy4 := Hd (And.intro hq hz)
  have P2 := Hd hn
  have PX := Hd (PX.out.below ha)
  have PR := Hd (PR.out.below ha)
  have RX := Hd (RX.out.below ha)
  have RY := Hd (RY.out.below ha)
  have I1 := Hd (I1.out.below ha)
  have P1 := Hd (P1.out.below ha)
  have I2 := Hd (I2.out.below ha)
  have HB := Hd (belowTo HB.out ha)
  clear ha hn hz hq E
  obtain ⟨l_x, x0, x1, x2, x3, -, -, -, -⟩ := PX.out.facts
  obtain ⟨l_r, r0, r1, r2, r3, f0, f1, f2, f3⟩ := PR.out.facts
  have HQ := Hd (PR.out.store (.bool false) (.slice none 0 0) (.bool false) (.slice none 0 0))
  have HF := Hd (below4 HB.out (show w.heap.size ≤ w.heap.size + 1 by omega) (.bool false) (.slice none 0 0) (.bool false) (.slice none 0 0))
  go_wp2_with fail
  obtain ⟨_, k0, k1, k2, k3, _⟩ := HQ.out.facts
  exact bodyPost_ret (by simp [results, Tryz.results20, go_sem, k0, k1, k2, k3]) rfl ⟨_, rfl, FracOwn.nought _ _, HF.out⟩

theorem ref02_Root_yes (n d r s : Int) (A B : Option Addr) (c e0 : Nat) (w : World) (h : Raw w A c (natL n.natAbs)) (g : Raw w B e0 (natL d.natAbs)) (hc : (chkE (decide (n < 0)) (decide (d < 0)) (natL n.natAbs) (natL d.natAbs) == 0) = true) (hn : 0 ≤ n) (hd : 0 ≤ d) (hln : lz n ≤ 60000) (hld : lz d ≤ 60000) (hr : IsRootZ n r) (hs : IsRootZ d s) (h1 : decide (r * r = n) = true) (h2 : decide (s * s = d) = true) :
    Calls Tryz.prog 20 #[.agg #[.bool (decide (n < 0)), .slice A (natL n.natAbs).length c, .bool (decide (d < 0)), .slice B (natL d.natAbs).length e0]] w (RetFracOwn3 w.heap.size w r s true 0) := by
  have C1 := fun (V : World) (g' : Nat) (h : Raw V A c (natL n.natAbs)) (g : Raw V B e0 (natL d.natAbs)) (hg : V.heap.size = g') => rchecks_new (decide (n < 0)) (decide (d < 0)) A B c e0 _ _ V g' h g hg
  rw [hc] at C1
  have H1 := Hd C1
  clear C1 hc
  obtain ⟨sg, hsg⟩ : ∃ k : Int, k = n.sign := ⟨_, rfl⟩
  have H2 := Hd (fun (V : World) (h : Raw V A c (natL n.natAbs)) => ref02_Sign n sg d A B c e0 V h hsg)
  have HSG := Hd (show ¬ sg < 0 from by rw [hsg]; have := sign_cases n; omega)
  have H3 := Hd (fun (V : World) (h : Raw V A c (natL n.natAbs)) => ref_Root_q n r true A c V h hln hn hr h1.symm)
  have H4 := Hd (fun (V : World) (h : Raw V B e0 (natL d.natAbs)) => ref_Root_q d s true B e0 V h hld hd hs h2.symm)
  clear hsg hn hd hln hld hr hs h1 h2
  have px := (Quad.new w (.bool (decide (n < 0))) (.slice A (natL n.natAbs).length c) (.bool (decide (d < 0))) (.slice B (natL d.natAbs).length e0)).alloc (.cells #[.bool false, .slice none 0 0, .bool false, .slice none 0 0] 56)
  have pr := Quad.new (w.alloc (.cells #[.bool (decide (n < 0)), .slice A (natL n.natAbs).length c, .bool (decide (d < 0)), .slice B (natL d.natAbs).length e0] 56)) (.bool false) (.slice none 0 0) (.bool false) (.slice none 0 0)
  have b0 := ((Below.refl w.heap.size w).alloc (Nat.le_refl _) (.cells #[.bool (decide (n < 0)), .slice A (natL n.natAbs).length c, .bool (decide (d < 0)), .slice B (natL d.natAbs).length e0] 56)).alloc (by simp) (.cells #[.bool false, .slice none 0 0, .bool false, .slice none 0 0] 56)
  simp only [World.size_alloc] at pr
  have PX := Hd px
  have PR := Hd pr
  have HB := Hd b0
  have RX := Hd (h.below b0)
  have RY := Hd (g.below b0)
  clear px pr b0 h g
  go_enter Tryz.func20, Tryz.ntmps20
  go_upto_region 1 with fail
  obtain ⟨W, E⟩ : ∃ W, W = (w.alloc (.cells #[.bool (decide (n < 0)), .slice A (natL n.natAbs).length c, .bool (decide (d < 0)), .slice B (natL d.natAbs).length e0] 56)).alloc (.cells #[.bool false, .slice none 0 0, .bool false, .slice none 0 0] 56) := ⟨_, rfl⟩
  rw [← E] at PX PR HB RX RY ⊢
  clear E
  have HS0 := Hd (show w.heap.size ≤ W.heap.size from HB.out.size)
  obtain ⟨l_x, x0, x1, x2, x3, -, -, -, -⟩ := PX.out.facts
  go_wp2_with fail
  refine (H1.out W _ RX.out RY.out rfl).mono ?_
  rintro e V ⟨rfl, hb⟩
  have hb := ((Below.refl W.heap.size W).alloc (Nat.le_refl _) (.cells #[.bool (decide (n < 0)), .slice A (natL n.natAbs).length c, .bool (decide (d < 0)), .slice B (natL d.natAbs).length e0] 56)).trans (hb.mono (by simp))
  have PX := Hd (PX.out.below hb)
  have PR := Hd (PR.out.below hb)
  have RX := Hd (RX.out.below hb)
  have RY := Hd (RY.out.below hb)
  have HB := Hd (belowTo HB.out hb)
  clear hb l_x x0 x1 x2 x3
  obtain ⟨l_x, x0, x1, x2, x3, -, -, -, -⟩ := PX.out.facts
  have hs := HSG.out
  go_wp2_with fail
  refine (H2.out V RX.out).mono ?_
  rintro e V' ⟨rfl, hb⟩
  have PX := Hd (PX.out.below hb)
  have PR := Hd (PR.out.below hb)
  have RX := Hd (RX.out.below hb)
  have RY := Hd (RY.out.below hb)
  have HB := Hd (belowTo HB.out hb)
  clear hb l_x x0 x1 x2 x3
  have HSV := Hd (show w.heap.size ≤ V'.heap.size from HB.out.size)
  clear hs
  have hs := HSG.out
  obtain ⟨l_x, x0, x1, x2, x3, -, -, -, -⟩ := PX.out.facts
  go_wp2_with fail
  refine (H3.out V' RX.out).mono ?_
  rintro e wx1 ⟨v, rfl, hI, hb⟩
  clear l_x x0 x1 x2 x3
  clear hs
  obtain ⟨A1, c1, rfl, -⟩ := hI.raw
  have I1 := Hd hI
  have T1 := Hd hI.top
  clear hI
  have HS_wx1 := Hd (show V'.heap.size ≤ wx1.heap.size from hb.size)
  have PX := Hd (PX.out.below hb)
  have PR := Hd (PR.out.below hb)
  have RX := Hd (RX.out.below hb)
  have RY := Hd (RY.out.below hb)
  have HB := Hd (belowTo HB.out hb)
  have ha := (Below.refl wx1.heap.size wx1).alloc (Nat.le_refl _) (.cells #[.bool (decide (r < 0)), .slice A1 (natL r.natAbs).length c1] 24)
  have hn := Pair.new wx1 24 (.bool (decide (r < 0))) (.slice A1 (natL r.natAbs).length c1)
  have hz : (wx1.alloc (.cells #[.bool (decide (r < 0)), .slice A1 (natL r.natAbs).length c1] 24)).heap.size = wx1.heap.size + 1 := by simp
  go_upto_region 4 with fail
  obtain ⟨wy2, E⟩ : ∃ W, W = wx1.alloc (.cells #[.bool (decide (r < 0)), .slice A1 (natL r.natAbs).length c1] 24) := ⟨_, rfl⟩
  obtain ⟨q2, hq⟩ : ∃ q, q = wx1.heap.size := ⟨_, rfl⟩
  rw [← E] at ha
  rw [← E, ← hq] at hn hz ⊢
  have HZ_wy2 := Hd (And.intro hq hz)
  have P1 := Hd hn
  have PX := Hd (PX.out.below ha)
  have PR := Hd (PR.out.below ha)
  have RX := Hd (RX.out.below ha)
  have RY := Hd (RY.out.below ha)
  have I1 := Hd (I1.out.below ha)
  have HB := Hd (belowTo HB.out ha)
  clear ha hn hz hq E
  obtain ⟨l_x, x0, x1, x2, x3, -, -, -, -⟩ := PX.out.facts
  go_wp2_with fail
  refine (H4.out wy2 RY.out).mono ?_
  rintro e wx3 ⟨v, rfl, hI, hb⟩
  clear l_x x0 x1 x2 x3
  obtain ⟨A2, c2, rfl, -⟩ := hI.raw
  have I2 := Hd hI
  clear hI
  have HS_wx3 := Hd (show wy2.heap.size ≤ wx3.heap.size from hb.size)
  have PX := Hd (PX.out.below hb)
  have PR := Hd (PR.out.below hb)
  have RX := Hd (RX.out.below hb)
  have RY := Hd (RY.out.below hb)
  have I1 := Hd (I1.out.below hb)
  have P1 := Hd (P1.out.below hb)
  have HB := Hd (belowTo HB.out hb)
  have ha := (Below.refl wx3.heap.size wx3).alloc (Nat.le_refl _) (.cells #[.bool (decide (s < 0)), .slice A2 (natL s.natAbs).length c2] 24)
  have hn := Pair.new wx3 24 (.bool (decide (s < 0))) (.slice A2 (natL s.natAbs).length c2)
  have hz : (wx3.alloc (.cells #[.bool (decide (s < 0)), .slice A2 (natL s.natAbs).length c2] 24)).heap.size = wx3.heap.size + 1 := by simp
  go_upto_region 5 with fail
  obtain ⟨wy4, E⟩ : ∃ W, W = wx3.alloc (.cells #[.bool (decide (s < 0)), .slice A2 (natL s.natAbs).length c2] 24) := ⟨_, rfl⟩
  obtain ⟨q4, hq⟩ : ∃ q, q = wx3.heap.size := ⟨_, rfl⟩
  rw [← E] at ha
  rw [← E, ← hq] at hn hz ⊢
  have HZ_wy4 := Hd (And.intro hq hz)
  have P2 := Hd hn
  have PX := Hd (PX.out.below ha)
  have PR := Hd (PR.out.below ha)
  have RX := Hd (RX.out.below ha)
  have RY := Hd (RY.out.below ha)
  have I1 := Hd (I1.out.below ha)
  have P1 := Hd (P1.out.below ha)
  have I2 := Hd (I2.out.below ha)
  have HB := Hd (belowTo HB.out ha)
  clear ha hn hz hq E
  have HO := Hd (show FracOwn wy4 w.heap.size (.agg #[.bool (decide (r < 0)), .slice A1 (natL r.natAbs).length c1, .bool (decide (s < 0)), .slice A2 (natL s.natAbs).length c2]) r s from by
    have k_HS_wx1 := HS_wx1.out
    have k_HZ_wy2 := HZ_wy2.out
    have k_HS_wx3 := HS_wx3.out
    have k_HZ_wy4 := HZ_wy4.out
    have hs0 := HS0.out
    have hs1 := HSV.out
    refine (FracOwn.of I1.out I2.out (by omega) (fun x hx => ?_)).base (by omega)
    have := (T1.out x hx).2
    omega)
  obtain ⟨l_a, a0, a1, -, -⟩ := P1.out.facts
  obtain ⟨l_b, b0, b1, -, -⟩ := P2.out.facts
  obtain ⟨l_r, r0, r1, r2, r3, f0, f1, f2, f3⟩ := PR.out.facts
  have HQ := Hd (PR.out.store (.bool (decide (r < 0))) (.slice A1 (natL r.natAbs).length c1) (.bool (decide (s < 0))) (.slice A2 (natL s.natAbs).length c2))
  have HF := Hd (below4 HB.out (show w.heap.size ≤ w.heap.size + 1 by omega) (.bool (decide (r < 0))) (.slice A1 (natL r.natAbs).length c1) (.bool (decide (s < 0))) (.slice A2 (natL s.natAbs).length c2))
  have HOQ := Hd (HO.out.quad PR.out (.bool (decide (r < 0))) (.slice A1 (natL r.natAbs).length c1) (.bool (decide (s < 0))) (.slice A2 (natL s.natAbs).length c2))
  go_wp2_with fail
  obtain ⟨_, k0, k1, k2, k3, _⟩ := HQ.out.facts
  exact bodyPost_ret (by simp [results, Tryz.results20, go_sem, k0, k1, k2, k3]) rfl ⟨_, rfl, HOQ.out, HF.out⟩
/- lives of the laws of chapter 02: the answers that the document fixes. -/

theorem frac_text_const : (⟨#[45, 51, 47, 50]⟩ : ByteArray) = ⟨(fracText (-3) 2).toArray⟩ := by
  have h3 : Lib.itoa (-3) = [45, 51] := by
    rw [show (-3 : Int) = -((3 : Nat) : Int) from rfl, Lib.itoa_neg _ (by decide), Lib.decDigits_one (by omega)]; rfl
  have h2 : Lib.itoa 2 = [50] := by
    rw [show (2 : Int) = ((2 : Nat) : Int) from rfl, Lib.itoa_nonneg, Lib.decDigits_one (by omega)]; rfl
  unfold fracText
  rw [if_neg (by decide), h3, h2]
  rfl

theorem lives_true (w : World) (htab : powTab w) :
    Calls Tryz.prog 24 #[] w fun e w' => e = .returned (.bool true) ∧ Below w.heap.size w w' := by
  have C1 := fun (V : World) => frac_Of 6 (-4) (by decide) (by decide) (by decide) (by decide) V
  have C2 := fun (V : World) => frac_Of 1 0 (by decide) (by decide) (by decide) (by decide) V
  rw [show zN 6 (-4) = -3 by decide +kernel, show zD 6 (-4) = 2 by decide +kernel, show zE (-4) = 0 by decide] at C1
  rw [show zN 1 0 = 0 by decide +kernel, show zD 1 0 = 0 by decide +kernel, show zE 0 = 3 by decide] at C2
  obtain ⟨n, hn⟩ : ∃ k : Int, k = -3 := ⟨_, rfl⟩
  obtain ⟨d, hd⟩ : ∃ k : Int, k = 2 := ⟨_, rfl⟩
  rw [← hn, ← hd] at C1
  obtain ⟨z, hz⟩ : ∃ k : Int, k = 0 := ⟨_, rfl⟩
  have C2 : ∀ V : World, Calls Tryz.prog 96 #[.int .i64 1, .int .i64 0] V (RetFracOwn2 V.heap.size V z z 3) := by rw [hz]; exact C2
  have fn : Fit n := Fit.small (by rw [hn]; decide)
  have fd : Fit d := Fit.small (by rw [hd]; decide)
  have hc : chkE (decide (n < 0)) (decide (d < 0)) (natL n.natAbs) (natL d.natAbs) = 0 := by
    unfold chkE mkOk
    rw [fn.ok, fd.ok, ival_at, ival_at, hn, hd]
    decide +kernel
  have C3 := fun (V : World) (A B : Option Addr) (c e0 : Nat) (h : Raw V A c (natL n.natAbs)) (g : Raw V B e0 (natL d.natAbs)) (ht : powTab V) => frac_Text_good n d ⟨#[45, 51, 47, 50]⟩ A B c e0 V h g ht fn fd hc (by rw [hn, hd]; exact frac_text_const) (by decide)
  have C4 := fun (V : World) (A B : Option Addr) (c e0 : Nat) (h : Raw V A c (natL n.natAbs)) (g : Raw V B e0 (natL d.natAbs)) => frac_Sign_good n d (-1) A B c e0 V h g hc (by rw [hn]; decide)
  have H1 := Hd C1
  have H2 := Hd C2
  have H3 := Hd C3
  have H4 := Hd C4
  have HT := Hd htab
  clear C1 C2 C3 C4 fn fd hc hn hd hz htab
  go_enter Tryz.func24, Tryz.ntmps24
  go_wp2_with fail
  refine (H1.out w).mono ?_
  rintro e w1 ⟨v, rfl, hI, h1⟩
  have T1 := Hd h1
  obtain ⟨A, c, B, e0, rfl, i1, i2, -⟩ := hI.form
  obtain ⟨gx, hgx⟩ : ∃ k, k = w1.heap.size := ⟨_, rfl⟩
  obtain ⟨W, E⟩ : ∃ W, W = w1.alloc (.cells #[.bool (decide (n < 0)), .slice A (natL n.natAbs).length c, .bool (decide (d < 0)), .slice B (natL d.natAbs).length e0] 56) := ⟨_, rfl⟩
  have px := Quad.new w1 (.bool (decide (n < 0))) (.slice A (natL n.natAbs).length c) (.bool (decide (d < 0))) (.slice B (natL d.natAbs).length e0)
  have r1 := i1.rawAt.alloc (.cells #[.bool (decide (n < 0)), .slice A (natL n.natAbs).length c, .bool (decide (d < 0)), .slice B (natL d.natAbs).length e0] 56)
  have r2 := i2.rawAt.alloc (.cells #[.bool (decide (n < 0)), .slice A (natL n.natAbs).length c, .bool (decide (d < 0)), .slice B (natL d.natAbs).length e0] 56)
  have T2 := T1.out.alloc T1.out.size (.cells #[.bool (decide (n < 0)), .slice A (natL n.natAbs).length c, .bool (decide (d < 0)), .slice B (natL d.natAbs).length e0] 56)
  clear hI i1 i2 h1
  go_upto_region 2 with fail
  rw [← E, ← hgx] at px ⊢
  rw [← E] at r1 r2 T2
  have PX := Hd px
  have R1 := Hd r1
  have R2 := Hd r2
  have T2 := Hd T2
  clear E hgx px r1 r2 T1
  go_wp2_with fail
  refine (H2.out W).mono ?_
  rintro e w2 ⟨v, rfl, hI, h2⟩
  obtain ⟨A9, c9, B9, e9, rfl, -⟩ := hI.form
  obtain ⟨Y, E⟩ : ∃ Y, Y = w2.alloc (.cells #[.bool (decide (z < 0)), .slice A9 (natL z.natAbs).length c9, .bool (decide (z < 0)), .slice B9 (natL z.natAbs).length e9] 56) := ⟨_, rfl⟩
  have h3 := h2.alloc h2.size (.cells #[.bool (decide (z < 0)), .slice A9 (natL z.natAbs).length c9, .bool (decide (z < 0)), .slice B9 (natL z.natAbs).length e9] 56)
  go_upto_region 3 with fail
  rw [← E] at h3 ⊢
  have PX := Hd (PX.out.below h3)
  have R1 := Hd (R1.out.below h3)
  have R2 := Hd (R2.out.below h3)
  have T3 := Hd (belowTo T2.out h3)
  have HT := Hd (HT.out.below2 T3.out)
  clear E hI h2 h3 T2
  obtain ⟨l_x, a_x, b_x, c_x, d_x, -, -, -, -⟩ := PX.out.facts
  go_wp2_with fail
  refine (H3.out Y A B c e0 R1.out R2.out HT.out).mono ?_
  rintro e w3 ⟨rfl, h4⟩
  have PX := Hd (PX.out.below h4)
  have R1 := Hd (R1.out.below h4)
  have R2 := Hd (R2.out.below h4)
  have T4 := Hd (belowTo T3.out h4)
  clear h4 T3 HT l_x a_x b_x c_x d_x
  obtain ⟨l_x, a_x, b_x, c_x, d_x, -, -, -, -⟩ := PX.out.facts
  go_wp2_with fail
  refine (H4.out w3 A B c e0 R1.out R2.out).mono ?_
  rintro e w4 ⟨rfl, h5⟩
  have HF := Hd (belowTo T4.out h5)
  clear h5 T4 l_x a_x b_x c_x d_x
  go_wp2_with fail
  go_ret
  exact ⟨rfl, HF.out⟩
end Go.Proofs.YtkncbenhfcpgkaaGreatDoor
