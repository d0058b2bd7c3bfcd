/- Several texts in one: FRefDo, Lives3, BookFree. -/
import Derived.Test.YtadmoheohmbieaaGreatDoorPo28
import Derived.Test.YtadmoheohmbieaaGreatDoorPo23
import Derived.Test.YtadmoheohmbieaaGreatDoorPo24
import Derived.Test.YtadmoheohmbieaaGreatDoorPo19
import Derived.Test.YtadmoheohmbieaaGreatDoorPo27
import Derived.Test.YtadmoheohmbieaaGreatDoorPo16
set_option maxRecDepth 100000
set_option maxHeartbeats 8000000
/- Do of the references of chapter 02; do of the laws. (Written by wip/frac/genfrefdo.py.) -/
namespace Go.Proofs.YtadmoheohmbieaaGreatDoor
open Go.RowKit

theorem ref02_Long_a (b1 b2 : Bool) (A B : Option Addr) (n c m e0 g : Nat) (hn : n ≤ 9223372036854775807) (hl : 2048 < n) (w : World) (q : Quad w g (.bool b1) (.slice A n c) (.bool b2) (.slice B m e0)) :
    Calls Tryz.prog 199 #[.slice (some ⟨g, 0, none⟩) 1 1] w fun e w' => e = .returned (.bool true) ∧ Below w.heap.size w w' := by
  have C1 := fun V => ref_Long b1 A n c hn V
  rw [decide_eq_true (show 2048 < n from hl)] at C1
  have H1 := Hd C1
  have HQ := Hd q
  clear C1 hl q hn
  go_enter Tryz.func199, Tryz.ntmps199
  go_wp2_with fail
  go_loopw [3] (fun s wr => ∃ i : Nat, s = .int .i64 i ∧ i ≤ 0 ∧ Below w.heap.size w wr) (fun s _ => 1 - (intOf s).toNat)
  case atStart => exact ⟨0, rfl, by omega, Below.refl _ _⟩
  case round =>
    obtain ⟨i, rfl, hi, hb⟩ := hrel
    obtain rfl : i = 0 := by omega
    clear hi
    obtain ⟨x0, x1, x2, x3, x4, -, -, -, -⟩ := (HQ.out.below hb).facts
    have HB := Hd hb
    clear hb
    go_wp2_with ((go_at_call 239; with_reducible refine (H1.out _).mono ?_; rintro e w1 ⟨rfl, hb1⟩; have B1 := belowTo HB.out hb1; have q4 := HQ.out.below B1; obtain ⟨l4, y0, y1, y2, y3, -, -, -, -⟩ := q4.facts))
    go_ret
    exact ⟨rfl, B1⟩

theorem ref02_Long_b (b1 b2 : Bool) (A B : Option Addr) (n c m e0 g : Nat) (hn : n ≤ 9223372036854775807) (hm : m ≤ 9223372036854775807) (hl : n ≤ 2048) (hl2 : 2048 < m) (w : World) (q : Quad w g (.bool b1) (.slice A n c) (.bool b2) (.slice B m e0)) :
    Calls Tryz.prog 199 #[.slice (some ⟨g, 0, none⟩) 1 1] w fun e w' => e = .returned (.bool true) ∧ Below w.heap.size w w' := by
  have C1 := fun V => ref_Long b1 A n c hn V
  rw [decide_eq_false (show ¬ 2048 < n from by omega)] at C1
  have C2 := fun V => ref_Long b2 B m e0 hm V
  rw [decide_eq_true (show 2048 < m from hl2)] at C2
  have H2 := Hd C2
  clear C2 hl2
  have H1 := Hd C1
  have HQ := Hd q
  clear C1 hl q hn hm
  go_enter Tryz.func199, Tryz.ntmps199
  go_wp2_with fail
  go_loopw [3] (fun s wr => ∃ i : Nat, s = .int .i64 i ∧ i ≤ 0 ∧ Below w.heap.size w wr) (fun s _ => 1 - (intOf s).toNat)
  case atStart => exact ⟨0, rfl, by omega, Below.refl _ _⟩
  case round =>
    obtain ⟨i, rfl, hi, hb⟩ := hrel
    obtain rfl : i = 0 := by omega
    clear hi
    obtain ⟨x0, x1, x2, x3, x4, -, -, -, -⟩ := (HQ.out.below hb).facts
    have HB := Hd hb
    clear hb
    go_wp2_with (first | (go_at_call 239; with_reducible refine (H1.out _).mono ?_; rintro e w1 ⟨rfl, hb1⟩; have B1 := belowTo HB.out hb1; have q4 := HQ.out.below B1; obtain ⟨l4, y0, y1, y2, y3, -, -, -, -⟩ := q4.facts) | (go_at_call 239; with_reducible refine (H2.out _).mono ?_; rintro e w2 ⟨rfl, hb2⟩; have B2 := belowTo B1 hb2))
    go_ret
    exact ⟨rfl, B2⟩

theorem ref02_Long_c (b1 b2 : Bool) (A B : Option Addr) (n c m e0 g : Nat) (hn : n ≤ 9223372036854775807) (hm : m ≤ 9223372036854775807) (hl : n ≤ 2048) (hl2 : m ≤ 2048) (w : World) (q : Quad w g (.bool b1) (.slice A n c) (.bool b2) (.slice B m e0)) :
    Calls Tryz.prog 199 #[.slice (some ⟨g, 0, none⟩) 1 1] w fun e w' => e = .returned (.bool false) ∧ Below w.heap.size w w' := by
  have C1 := fun V => ref_Long b1 A n c hn V
  rw [decide_eq_false (show ¬ 2048 < n from by omega)] at C1
  have C2 := fun V => ref_Long b2 B m e0 hm V
  rw [decide_eq_false (show ¬ 2048 < m from by omega)] at C2
  have H2 := Hd C2
  clear C2 hl2
  have H1 := Hd C1
  have HQ := Hd q
  clear C1 hl q hn hm
  go_enter Tryz.func199, Tryz.ntmps199
  go_wp2_with fail
  go_loopw [3] (fun s wr => ∃ i : Nat, s = .int .i64 i ∧ i ≤ 1 ∧ Below w.heap.size w wr) (fun s _ => 1 - (intOf s).toNat)
  case atStart => exact ⟨0, rfl, by omega, Below.refl _ _⟩
  case round =>
    obtain ⟨i, rfl, hi, hb⟩ := hrel
    by_cases hlt : i < 1
    · obtain rfl : i = 0 := by omega
      clear hi hlt
      obtain ⟨x0, x1, x2, x3, x4, -, -, -, -⟩ := (HQ.out.below hb).facts
      have HB := Hd hb
      clear hb
      go_wp2_with (first | (go_at_call 239; with_reducible refine (H1.out _).mono ?_; rintro e w1 ⟨rfl, hb1⟩; have B1 := belowTo HB.out hb1; have q4 := HQ.out.below B1; obtain ⟨l4, y0, y1, y2, y3, -, -, -, -⟩ := q4.facts) | (go_at_call 239; with_reducible refine (H2.out _).mono ?_; rintro e w2 ⟨rfl, hb2⟩; have B2 := belowTo B1 hb2))
      go_roundw
      case rel => exact ⟨1, by go_num, Nat.le_refl _, B2⟩
      case measure => simp [intOf]
    · obtain rfl : i = 1 := by omega
      have HB := Hd hb
      clear hb hi hlt
      go_wp2_with fail
      go_ret
      exact ⟨rfl, HB.out⟩

theorem ref02_Long_any (b1 b2 : Bool) (A B : Option Addr) (n c m e0 g : Nat) (hn : n ≤ 9223372036854775807) (hm : m ≤ 9223372036854775807) (w : World) (q : Quad w g (.bool b1) (.slice A n c) (.bool b2) (.slice B m e0)) :
    Calls Tryz.prog 199 #[.slice (some ⟨g, 0, none⟩) 1 1] w fun e w' => e = .returned (.bool (decide (2048 < n) || decide (2048 < m))) ∧ Below w.heap.size w w' := by
  by_cases h1 : 2048 < n
  · have := ref02_Long_a b1 b2 A B n c m e0 g hn h1 w q
    simpa [h1] using this
  · by_cases h2 : 2048 < m
    · have := ref02_Long_b b1 b2 A B n c m e0 g hn hm (by omega) h2 w q
      simpa [h1, h2] using this
    · have := ref02_Long_c b1 b2 A B n c m e0 g hn hm (by omega) (by omega) w q
      simpa [h1, h2] using this

theorem ref02_answered_fits (n d : Int) (A B : Option Addr) (c e0 : Nat) (w : World) (h : Raw w A c (natL n.natAbs)) (g : Raw w B e0 (natL d.natAbs)) (hn : lz n ≤ 2048) (hd : lz d ≤ 2048) :
    Calls Tryz.prog 121 #[.agg #[.bool (decide (n < 0)), .slice A (natL n.natAbs).length c, .bool (decide (d < 0)), .slice B (natL d.natAbs).length e0]] w (RetFrac2 w n d 0) := by
  have px := (Quad.new w (.bool (decide (n < 0))) (.slice A (natL n.natAbs).length c) (.bool (decide (d < 0))) (.slice B (natL d.natAbs).length e0)).alloc (.cells #[.bool false, .slice none 0 0, .bool false, .slice none 0 0] 30)
  have pr := Quad.new (w.alloc (.cells #[.bool (decide (n < 0)), .slice A (natL n.natAbs).length c, .bool (decide (d < 0)), .slice B (natL d.natAbs).length e0] 30)) (.bool false) (.slice none 0 0) (.bool false) (.slice none 0 0)
  have b0 := ((Below.refl w.heap.size w).alloc (Nat.le_refl _) (.cells #[.bool (decide (n < 0)), .slice A (natL n.natAbs).length c, .bool (decide (d < 0)), .slice B (natL d.natAbs).length e0] 30)).alloc (by simp) (.cells #[.bool false, .slice none 0 0, .bool false, .slice none 0 0] 30)
  simp only [World.size_alloc] at pr
  have hn' : (natL n.natAbs).length ≤ 9223372036854775807 := by have := h.cap; have := h.most; omega
  have hd' : (natL d.natAbs).length ≤ 9223372036854775807 := by have := g.cap; have := g.most; omega
  have hbb : (decide (2048 < (natL n.natAbs).length) || decide (2048 < (natL d.natAbs).length)) = false := by
    have e1 : (natL n.natAbs).length ≤ 2048 := hn; have e2 : (natL d.natAbs).length ≤ 2048 := hd; simp; omega
  have C1 := fun (V : World) (g' : Nat) (hg : V.heap.size = g') => ref02_Long_any (decide (n < 0)) (decide (d < 0)) A B (natL n.natAbs).length c (natL d.natAbs).length e0 g' hn' hd' (V.alloc (.cells #[.bool (decide (n < 0)), .slice A (natL n.natAbs).length c, .bool (decide (d < 0)), .slice B (natL d.natAbs).length e0] 30)) (by subst hg; exact Quad.new V _ _ _ _)
  rw [hbb] at C1
  have H1 := Hd C1
  have RX := Hd (h.below b0)
  have KX := Hd (g.below b0)
  have PX := Hd px
  have PR := Hd pr
  have HB := Hd b0
  clear px pr b0 h g C1 hn' hd' hbb hn hd
  go_enter Tryz.func121, Tryz.ntmps121
  go_upto_region 1 with fail
  obtain ⟨W, E⟩ : ∃ W, W = (w.alloc (.cells #[.bool (decide (n < 0)), .slice A (natL n.natAbs).length c, .bool (decide (d < 0)), .slice B (natL d.natAbs).length e0] 30)).alloc (.cells #[.bool false, .slice none 0 0, .bool false, .slice none 0 0] 30) := ⟨_, rfl⟩
  rw [← E] at PX PR RX KX HB ⊢
  clear E
  obtain ⟨l_x, x0, x1, x2, x3, -, -, -, -⟩ := PX.out.facts
  go_wp2_with fail
  refine (H1.out W _ rfl).mono ?_
  rintro e wx1 ⟨rfl, hb⟩
  clear l_x x0 x1 x2 x3
  have hb := ((Below.refl W.heap.size W).alloc (Nat.le_refl _) (.cells #[.bool (decide (n < 0)), .slice A (natL n.natAbs).length c, .bool (decide (d < 0)), .slice B (natL d.natAbs).length e0] 30)).trans (hb.mono (by simp))
  have HS_wx1 := Hd (show W.heap.size ≤ wx1.heap.size from hb.size)
  have PX := Hd (PX.out.below hb)
  have PR := Hd (PR.out.below hb)
  have RX := Hd (RX.out.below hb)
  have KX := Hd (KX.out.below hb)
  have HB := Hd (belowTo HB.out hb)
  obtain ⟨l_x, x0, x1, x2, x3, -, -, -, -⟩ := PX.out.facts
  obtain ⟨l_r, r0, r1, r2, r3, fr0, fr1, fr2, fr3⟩ := PR.out.facts
  have HQ := Hd (PR.out.store (.bool (decide (n < 0))) (.slice A (natL n.natAbs).length c) (.bool (decide (d < 0))) (.slice B (natL d.natAbs).length e0))
  have HF := Hd (below4 HB.out (show w.heap.size ≤ w.heap.size + 1 by omega) (.bool (decide (n < 0))) (.slice A (natL n.natAbs).length c) (.bool (decide (d < 0))) (.slice B (natL d.natAbs).length e0))
  have R1 := Hd (RX.out.quad PR.out (.bool (decide (n < 0))) (.slice A (natL n.natAbs).length c) (.bool (decide (d < 0))) (.slice B (natL d.natAbs).length e0))
  have R2 := Hd (KX.out.quad PR.out (.bool (decide (n < 0))) (.slice A (natL n.natAbs).length c) (.bool (decide (d < 0))) (.slice B (natL d.natAbs).length e0))
  go_wp2_with fail
  obtain ⟨_, k0, k1, k2, k3, _⟩ := HQ.out.facts
  exact bodyPost_ret (by simp [results, Tryz.results121, go_sem, k0, k1, k2, k3]) rfl ⟨_, rfl, ⟨_, _, _, _, rfl, R1.out, R2.out⟩, HF.out⟩

theorem ref02_answered_long (n d : Int) (A B : Option Addr) (c e0 : Nat) (w : World) (h : Raw w A c (natL n.natAbs)) (g : Raw w B e0 (natL d.natAbs)) (hl : 2048 < lz n ∨ 2048 < lz d) :
    Calls Tryz.prog 121 #[.agg #[.bool (decide (n < 0)), .slice A (natL n.natAbs).length c, .bool (decide (d < 0)), .slice B (natL d.natAbs).length e0]] w (RetFrac2 w 0 0 4) := by
  have px := (Quad.new w (.bool (decide (n < 0))) (.slice A (natL n.natAbs).length c) (.bool (decide (d < 0))) (.slice B (natL d.natAbs).length e0)).alloc (.cells #[.bool false, .slice none 0 0, .bool false, .slice none 0 0] 30)
  have pr := Quad.new (w.alloc (.cells #[.bool (decide (n < 0)), .slice A (natL n.natAbs).length c, .bool (decide (d < 0)), .slice B (natL d.natAbs).length e0] 30)) (.bool false) (.slice none 0 0) (.bool false) (.slice none 0 0)
  have b0 := ((Below.refl w.heap.size w).alloc (Nat.le_refl _) (.cells #[.bool (decide (n < 0)), .slice A (natL n.natAbs).length c, .bool (decide (d < 0)), .slice B (natL d.natAbs).length e0] 30)).alloc (by simp) (.cells #[.bool false, .slice none 0 0, .bool false, .slice none 0 0] 30)
  simp only [World.size_alloc] at pr
  have hn' : (natL n.natAbs).length ≤ 9223372036854775807 := by have := h.cap; have := h.most; omega
  have hd' : (natL d.natAbs).length ≤ 9223372036854775807 := by have := g.cap; have := g.most; omega
  have hbb : (decide (2048 < (natL n.natAbs).length) || decide (2048 < (natL d.natAbs).length)) = true := by
    rcases hl with hl | hl <;> unfold lz at hl <;> simp [hl]
  have C1 := fun (V : World) (g' : Nat) (hg : V.heap.size = g') => ref02_Long_any (decide (n < 0)) (decide (d < 0)) A B (natL n.natAbs).length c (natL d.natAbs).length e0 g' hn' hd' (V.alloc (.cells #[.bool (decide (n < 0)), .slice A (natL n.natAbs).length c, .bool (decide (d < 0)), .slice B (natL d.natAbs).length e0] 30)) (by subst hg; exact Quad.new V _ _ _ _)
  rw [hbb] at C1
  have H1 := Hd C1
  have RX := Hd (h.below b0)
  have KX := Hd (g.below b0)
  have PX := Hd px
  have PR := Hd pr
  have HB := Hd b0
  clear px pr b0 h g C1 hn' hd' hbb hl
  go_enter Tryz.func121, Tryz.ntmps121
  go_upto_region 1 with fail
  obtain ⟨W, E⟩ : ∃ W, W = (w.alloc (.cells #[.bool (decide (n < 0)), .slice A (natL n.natAbs).length c, .bool (decide (d < 0)), .slice B (natL d.natAbs).length e0] 30)).alloc (.cells #[.bool false, .slice none 0 0, .bool false, .slice none 0 0] 30) := ⟨_, rfl⟩
  rw [← E] at PX PR RX KX HB ⊢
  clear E
  obtain ⟨l_x, x0, x1, x2, x3, -, -, -, -⟩ := PX.out.facts
  go_wp2_with fail
  refine (H1.out W _ rfl).mono ?_
  rintro e wx1 ⟨rfl, hb⟩
  clear l_x x0 x1 x2 x3
  have hb := ((Below.refl W.heap.size W).alloc (Nat.le_refl _) (.cells #[.bool (decide (n < 0)), .slice A (natL n.natAbs).length c, .bool (decide (d < 0)), .slice B (natL d.natAbs).length e0] 30)).trans (hb.mono (by simp))
  have HS_wx1 := Hd (show W.heap.size ≤ wx1.heap.size from hb.size)
  have PX := Hd (PX.out.below hb)
  have PR := Hd (PR.out.below hb)
  have RX := Hd (RX.out.below hb)
  have KX := Hd (KX.out.below hb)
  have HB := Hd (belowTo HB.out hb)
  obtain ⟨l_r, r0, r1, r2, r3, fr0, fr1, fr2, fr3⟩ := PR.out.facts
  have HQ := Hd (PR.out.store (.bool false) (.slice none 0 0) (.bool false) (.slice none 0 0))
  have HF := Hd (below4 HB.out (show w.heap.size ≤ w.heap.size + 1 by omega) (.bool false) (.slice none 0 0) (.bool false) (.slice none 0 0))
  go_wp2_with fail
  obtain ⟨_, k0, k1, k2, k3, _⟩ := HQ.out.facts
  exact bodyPost_ret (by simp [results, Tryz.results121, go_sem, k0, k1, k2, k3]) rfl ⟨_, rfl, (FracOwn.nought _ 0).at_, HF.out⟩

theorem ref02_answered (n d : Int) (A B : Option Addr) (c e0 : Nat) (w : World) (h : Raw w A c (natL n.natAbs)) (g : Raw w B e0 (natL d.natAbs)) :
    Calls Tryz.prog 121 #[.agg #[.bool (decide (n < 0)), .slice A (natL n.natAbs).length c, .bool (decide (d < 0)), .slice B (natL d.natAbs).length e0]] w (RetFrac2 w (ansN n d) (ansD n d) (ansK n d)) := by
  unfold ansN ansD ansK
  by_cases hl : lz n ≤ 2048 ∧ lz d ≤ 2048
  · simp only [if_pos hl]; exact ref02_answered_fits n d A B c e0 w h g hl.1 hl.2
  · simp only [if_neg hl]; exact ref02_answered_long n d A B c e0 w h g (by omega)

theorem ref02_Do_bad (op : Int) (n1 n2 n3 n4 : Bool) (A B A2 B2 : Option Addr) (c e0 c2 e2 : Nat) (xs ys us vs : List Nat) (w : World) (hx : Raw w A c xs) (kx : Raw w B e0 ys) (hy : Raw w A2 c2 us) (ky : Raw w B2 e2 vs) (hc : (chkE n1 n2 xs ys == 0 && chkE n3 n4 us vs == 0) = false) :
    Calls Tryz.prog 29 #[.int .i64 op, .agg #[.bool n1, .slice A xs.length c, .bool n2, .slice B ys.length e0], .agg #[.bool n3, .slice A2 us.length c2, .bool n4, .slice B2 vs.length e2]] w (RetFrac2 w 0 0 1) := by
  have C1 := fun (V : World) (g' : Nat) (a1 : Raw V A c xs) (a2 : Raw V B e0 ys) (a3 : Raw V A2 c2 us) (a4 : Raw V B2 e2 vs) (hg : V.heap.size = g') => rchecks_two n1 n2 n3 n4 A B A2 B2 c e0 c2 e2 xs ys us vs V g' a1 a2 a3 a4 hg
  rw [hc] at C1
  have H1 := Hd C1
  clear C1
  clear hc
  have b0 := ((((Below.refl w.heap.size w).alloc (Nat.le_refl _) (.cells #[.bool n1, .slice A xs.length c, .bool n2, .slice B ys.length e0] 30)).alloc (by simp) (.cells #[.bool n3, .slice A2 us.length c2, .bool n4, .slice B2 vs.length e2] 30)).alloc (by simp; omega) (.cells #[.bool false, .slice none 0 0, .bool false, .slice none 0 0] 30))
  have p0 := ((Quad.new w (.bool n1) (.slice A xs.length c) (.bool n2) (.slice B ys.length e0)).alloc (.cells #[.bool n3, .slice A2 us.length c2, .bool n4, .slice B2 vs.length e2] 30)).alloc (.cells #[.bool false, .slice none 0 0, .bool false, .slice none 0 0] 30)
  have p1 := (Quad.new (w.alloc (.cells #[.bool n1, .slice A xs.length c, .bool n2, .slice B ys.length e0] 30)) (.bool n3) (.slice A2 us.length c2) (.bool n4) (.slice B2 vs.length e2)).alloc (.cells #[.bool false, .slice none 0 0, .bool false, .slice none 0 0] 30)
  have p2 := Quad.new ((w.alloc (.cells #[.bool n1, .slice A xs.length c, .bool n2, .slice B ys.length e0] 30)).alloc (.cells #[.bool n3, .slice A2 us.length c2, .bool n4, .slice B2 vs.length e2] 30)) (.bool false) (.slice none 0 0) (.bool false) (.slice none 0 0)
  simp only [World.size_alloc] at p1 p2
  have PX := Hd p0
  have PY := Hd p1
  have PR := Hd p2
  have RX := Hd (hx.below b0)
  have KX := Hd (kx.below b0)
  have RY := Hd (hy.below b0)
  have KY := Hd (ky.below b0)
  have HB := Hd b0
  clear b0 p0 p1 p2 hx kx hy ky
  go_enter Tryz.func29, Tryz.ntmps29
  obtain ⟨W, E⟩ : ∃ W, W = (((w.alloc (.cells #[.bool n1, .slice A xs.length c, .bool n2, .slice B ys.length e0] 30)).alloc (.cells #[.bool n3, .slice A2 us.length c2, .bool n4, .slice B2 vs.length e2] 30)).alloc (.cells #[.bool false, .slice none 0 0, .bool false, .slice none 0 0] 30)) := ⟨_, rfl⟩
  go_upto_region 1 with fail
  rw [← E] at PX PY PR RX KX RY KY  HB ⊢
  clear E
  have HS0 := Hd (show w.heap.size ≤ W.heap.size from HB.out.size)
  obtain ⟨l_x, x0, x1, x2, x3, -, -, -, -⟩ := PX.out.facts
  obtain ⟨l_y, y0, y1, y2, y3, -, -, -, -⟩ := PY.out.facts
  go_wp2_with fail
  refine (H1.out W _ RX.out KX.out RY.out KY.out rfl).mono ?_
  rintro e wx1 ⟨rfl, hb⟩
  clear l_x x0 x1 x2 x3
  clear l_y y0 y1 y2 y3
  have hb := ((Below.refl W.heap.size W).alloc (Nat.le_refl _) (.cells #[.bool n1, .slice A xs.length c, .bool n2, .slice B ys.length e0, .bool n3, .slice A2 us.length c2, .bool n4, .slice B2 vs.length e2] 30)).trans (hb.mono (by simp))
  have HS_wx1 := Hd (show W.heap.size ≤ wx1.heap.size from hb.size)
  have PX := Hd (PX.out.below hb)
  have PY := Hd (PY.out.below hb)
  have PR := Hd (PR.out.below hb)
  have RX := Hd (RX.out.below hb)
  have KX := Hd (KX.out.below hb)
  have RY := Hd (RY.out.below hb)
  have KY := Hd (KY.out.below hb)
  have HB := Hd (belowTo HB.out hb)
  obtain ⟨l_x, x0, x1, x2, x3, -, -, -, -⟩ := PX.out.facts
  obtain ⟨l_r, r0, r1, r2, r3, fr0, fr1, fr2, fr3⟩ := PR.out.facts
  have HQ := Hd (PR.out.store (.bool false) (.slice none 0 0) (.bool false) (.slice none 0 0))
  have HF := Hd (below4 HB.out (show w.heap.size ≤ w.heap.size + 1 + 1 by omega) (.bool false) (.slice none 0 0) (.bool false) (.slice none 0 0))
  go_wp2_with fail
  obtain ⟨_, k0, k1, k2, k3, _⟩ := HQ.out.facts
  exact bodyPost_ret (by simp [results, Tryz.results29, go_sem, k0, k1, k2, k3]) rfl ⟨_, rfl, (FracOwn.nought _ 0).at_, HF.out⟩

theorem ref02_Do_0 (n d m f : Int) (A B A2 B2 : Option Addr) (c e0 c2 e2 : Nat) (w : World) (hx : Raw w A c (natL n.natAbs)) (kx : Raw w B e0 (natL d.natAbs)) (hy : Raw w A2 c2 (natL m.natAbs)) (ky : Raw w B2 e2 (natL f.natAbs)) (f1 : Fine n d) (f2 : Fine m f) :
    Calls Tryz.prog 29 #[.int .i64 0, .agg #[.bool (decide (n < 0)), .slice A (natL n.natAbs).length c, .bool (decide (d < 0)), .slice B (natL d.natAbs).length e0], .agg #[.bool (decide (m < 0)), .slice A2 (natL m.natAbs).length c2, .bool (decide (f < 0)), .slice B2 (natL f.natAbs).length e2]] w (RetFrac2 w (ansN (addN n d m f) (addD n d m f)) (ansD (addN n d m f) (addD n d m f)) (ansK (addN n d m f) (addD n d m f))) := by
  have hc : (chkE (decide (n < 0)) (decide (d < 0)) (natL n.natAbs) (natL d.natAbs) == 0 && chkE (decide (m < 0)) (decide (f < 0)) (natL m.natAbs) (natL f.natAbs) == 0) = true := by rw [f1.chk, f2.chk]; rfl
  have C1 := fun (V : World) (g' : Nat) (a1 : Raw V A c (natL n.natAbs)) (a2 : Raw V B e0 (natL d.natAbs)) (a3 : Raw V A2 c2 (natL m.natAbs)) (a4 : Raw V B2 e2 (natL f.natAbs)) (hg : V.heap.size = g') => rchecks_two (decide (n < 0)) (decide (d < 0)) (decide (m < 0)) (decide (f < 0)) A B A2 B2 c e0 c2 e2 (natL n.natAbs) (natL d.natAbs) (natL m.natAbs) (natL f.natAbs) V g' a1 a2 a3 a4 hg
  rw [hc] at C1
  have H1 := Hd C1
  clear C1
  have hl1 : lz n ≤ 2048 := f1.num
  have hl2 : lz d ≤ 2048 := f1.den
  have hl3 : lz m ≤ 2048 := f2.num
  have hl4 : lz f ≤ 2048 := f2.den
  have hp1 := f1.pos
  have hp2 := f2.pos
  have C2 := fun (V : World) (a1 : Raw V A c (natL n.natAbs)) (a2 : Raw V B e0 (natL d.natAbs)) (a3 : Raw V A2 c2 (natL m.natAbs)) (a4 : Raw V B2 e2 (natL f.natAbs)) => ref02_Plus n d m f A B A2 B2 c e0 c2 e2 V a1 a2 a3 a4 (by omega) (by omega) (by omega) (by omega) (by omega) (by omega)
  obtain ⟨N, hN⟩ : ∃ k : Int, k = addN n d m f := ⟨_, rfl⟩
  obtain ⟨D, hD⟩ : ∃ k : Int, k = addD n d m f := ⟨_, rfl⟩
  rw [← hN, ← hD] at C2
  rw [← hN, ← hD]
  have C3 := fun (V : World) (A' B' : Option Addr) (c' e' : Nat) (h : Raw V A' c' (natL N.natAbs)) (g : Raw V B' e' (natL D.natAbs)) => ref02_answered N D A' B' c' e' V h g
  obtain ⟨N9, hN9⟩ : ∃ k : Int, k = ansN N D := ⟨_, rfl⟩
  obtain ⟨D9, hD9⟩ : ∃ k : Int, k = ansD N D := ⟨_, rfl⟩
  obtain ⟨K9, hK9⟩ : ∃ k : Int, k = ansK N D := ⟨_, rfl⟩
  rw [← hN9, ← hD9, ← hK9] at C3 ⊢
  have H3 := Hd C3
  have H2 := Hd C2
  clear hN hD hN9 hD9 hK9 C3 C2 hc f1 f2 hl1 hl2 hl3 hl4 hp1 hp2
  have b0 := ((((Below.refl w.heap.size w).alloc (Nat.le_refl _) (.cells #[.bool (decide (n < 0)), .slice A (natL n.natAbs).length c, .bool (decide (d < 0)), .slice B (natL d.natAbs).length e0] 30)).alloc (by simp) (.cells #[.bool (decide (m < 0)), .slice A2 (natL m.natAbs).length c2, .bool (decide (f < 0)), .slice B2 (natL f.natAbs).length e2] 30)).alloc (by simp; omega) (.cells #[.bool false, .slice none 0 0, .bool false, .slice none 0 0] 30))
  have p0 := ((Quad.new w (.bool (decide (n < 0))) (.slice A (natL n.natAbs).length c) (.bool (decide (d < 0))) (.slice B (natL d.natAbs).length e0)).alloc (.cells #[.bool (decide (m < 0)), .slice A2 (natL m.natAbs).length c2, .bool (decide (f < 0)), .slice B2 (natL f.natAbs).length e2] 30)).alloc (.cells #[.bool false, .slice none 0 0, .bool false, .slice none 0 0] 30)
  have p1 := (Quad.new (w.alloc (.cells #[.bool (decide (n < 0)), .slice A (natL n.natAbs).length c, .bool (decide (d < 0)), .slice B (natL d.natAbs).length e0] 30)) (.bool (decide (m < 0))) (.slice A2 (natL m.natAbs).length c2) (.bool (decide (f < 0))) (.slice B2 (natL f.natAbs).length e2)).alloc (.cells #[.bool false, .slice none 0 0, .bool false, .slice none 0 0] 30)
  have p2 := Quad.new ((w.alloc (.cells #[.bool (decide (n < 0)), .slice A (natL n.natAbs).length c, .bool (decide (d < 0)), .slice B (natL d.natAbs).length e0] 30)).alloc (.cells #[.bool (decide (m < 0)), .slice A2 (natL m.natAbs).length c2, .bool (decide (f < 0)), .slice B2 (natL f.natAbs).length e2] 30)) (.bool false) (.slice none 0 0) (.bool false) (.slice none 0 0)
  simp only [World.size_alloc] at p1 p2
  have PX := Hd p0
  have PY := Hd p1
  have PR := Hd p2
  have RX := Hd (hx.below b0)
  have KX := Hd (kx.below b0)
  have RY := Hd (hy.below b0)
  have KY := Hd (ky.below b0)
  have HB := Hd b0
  clear b0 p0 p1 p2 hx kx hy ky
  go_enter Tryz.func29, Tryz.ntmps29
  obtain ⟨W, E⟩ : ∃ W, W = (((w.alloc (.cells #[.bool (decide (n < 0)), .slice A (natL n.natAbs).length c, .bool (decide (d < 0)), .slice B (natL d.natAbs).length e0] 30)).alloc (.cells #[.bool (decide (m < 0)), .slice A2 (natL m.natAbs).length c2, .bool (decide (f < 0)), .slice B2 (natL f.natAbs).length e2] 30)).alloc (.cells #[.bool false, .slice none 0 0, .bool false, .slice none 0 0] 30)) := ⟨_, rfl⟩
  go_upto_region 1 with fail
  rw [← E] at PX PY PR RX KX RY KY  HB ⊢
  clear E
  have HS0 := Hd (show w.heap.size ≤ W.heap.size from HB.out.size)
  obtain ⟨l_x, x0, x1, x2, x3, -, -, -, -⟩ := PX.out.facts
  obtain ⟨l_y, y0, y1, y2, y3, -, -, -, -⟩ := PY.out.facts
  go_wp2_with fail
  refine (H1.out W _ RX.out KX.out RY.out KY.out rfl).mono ?_
  rintro e wx1 ⟨rfl, hb⟩
  clear l_x x0 x1 x2 x3
  clear l_y y0 y1 y2 y3
  have hb := ((Below.refl W.heap.size W).alloc (Nat.le_refl _) (.cells #[.bool (decide (n < 0)), .slice A (natL n.natAbs).length c, .bool (decide (d < 0)), .slice B (natL d.natAbs).length e0, .bool (decide (m < 0)), .slice A2 (natL m.natAbs).length c2, .bool (decide (f < 0)), .slice B2 (natL f.natAbs).length e2] 30)).trans (hb.mono (by simp))
  have HS_wx1 := Hd (show W.heap.size ≤ wx1.heap.size from hb.size)
  have PX := Hd (PX.out.below hb)
  have PY := Hd (PY.out.below hb)
  have PR := Hd (PR.out.below hb)
  have RX := Hd (RX.out.below hb)
  have KX := Hd (KX.out.below hb)
  have RY := Hd (RY.out.below hb)
  have KY := Hd (KY.out.below hb)
  have HB := Hd (belowTo HB.out hb)
  obtain ⟨l_x, x0, x1, x2, x3, -, -, -, -⟩ := PX.out.facts
  obtain ⟨l_y, y0, y1, y2, y3, -, -, -, -⟩ := PY.out.facts
  go_wp2_with fail
  refine (H2.out wx1 RX.out KX.out RY.out KY.out).mono ?_
  rintro e wx2 ⟨v, rfl, hI, hb⟩
  clear l_x x0 x1 x2 x3
  clear l_y y0 y1 y2 y3
  have hJ := hI.at_
  obtain ⟨A7, c7, B7, e7, rfl, r71, r72⟩ := hJ.form
  have R71 := Hd r71
  have R72 := Hd r72
  clear hI hJ r71 r72
  have HS_wx2 := Hd (show wx1.heap.size ≤ wx2.heap.size from hb.size)
  have PX := Hd (PX.out.below hb)
  have PY := Hd (PY.out.below hb)
  have PR := Hd (PR.out.below hb)
  have RX := Hd (RX.out.below hb)
  have KX := Hd (KX.out.below hb)
  have RY := Hd (RY.out.below hb)
  have KY := Hd (KY.out.below hb)
  have HB := Hd (belowTo HB.out hb)
  go_wp2_with fail
  refine (H3.out wx2 A7 B7 c7 e7 R71.out R72.out).mono ?_
  rintro e wx3 ⟨v, rfl, hI, hb⟩
  obtain ⟨A8, c8, B8, e8, rfl, -⟩ := hI.form
  have O8 := Hd hI
  clear hI R71 R72
  have HS_wx3 := Hd (show wx2.heap.size ≤ wx3.heap.size from hb.size)
  have PX := Hd (PX.out.below hb)
  have PY := Hd (PY.out.below hb)
  have PR := Hd (PR.out.below hb)
  have RX := Hd (RX.out.below hb)
  have KX := Hd (KX.out.below hb)
  have RY := Hd (RY.out.below hb)
  have KY := Hd (KY.out.below hb)
  have HB := Hd (belowTo HB.out hb)
  obtain ⟨l_r, r0, r1, r2, r3, fr0, fr1, fr2, fr3⟩ := PR.out.facts
  have HQ := Hd (PR.out.store (.bool (decide (N9 < 0))) (.slice A8 (natL N9.natAbs).length c8) (.bool (decide (D9 < 0))) (.slice B8 (natL D9.natAbs).length e8))
  have HF := Hd (below4 HB.out (show w.heap.size ≤ w.heap.size + 1 + 1 by omega) (.bool (decide (N9 < 0))) (.slice A8 (natL N9.natAbs).length c8) (.bool (decide (D9 < 0))) (.slice B8 (natL D9.natAbs).length e8))
  have HO := Hd (O8.out.quad PR.out (.bool (decide (N9 < 0))) (.slice A8 (natL N9.natAbs).length c8) (.bool (decide (D9 < 0))) (.slice B8 (natL D9.natAbs).length e8))
  go_wp2_with fail
  obtain ⟨_, k0, k1, k2, k3, _⟩ := HQ.out.facts
  exact bodyPost_ret (by simp [results, Tryz.results29, go_sem, k0, k1, k2, k3]) rfl ⟨_, rfl, HO.out, HF.out⟩

theorem ref02_Do_1 (n d m f : Int) (A B A2 B2 : Option Addr) (c e0 c2 e2 : Nat) (w : World) (hx : Raw w A c (natL n.natAbs)) (kx : Raw w B e0 (natL d.natAbs)) (hy : Raw w A2 c2 (natL m.natAbs)) (ky : Raw w B2 e2 (natL f.natAbs)) (f1 : Fine n d) (f2 : Fine m f) :
    Calls Tryz.prog 29 #[.int .i64 1, .agg #[.bool (decide (n < 0)), .slice A (natL n.natAbs).length c, .bool (decide (d < 0)), .slice B (natL d.natAbs).length e0], .agg #[.bool (decide (m < 0)), .slice A2 (natL m.natAbs).length c2, .bool (decide (f < 0)), .slice B2 (natL f.natAbs).length e2]] w (RetFrac2 w (ansN (subN n d m f) (subD n d m f)) (ansD (subN n d m f) (subD n d m f)) (ansK (subN n d m f) (subD n d m f))) := by
  have hc : (chkE (decide (n < 0)) (decide (d < 0)) (natL n.natAbs) (natL d.natAbs) == 0 && chkE (decide (m < 0)) (decide (f < 0)) (natL m.natAbs) (natL f.natAbs) == 0) = true := by rw [f1.chk, f2.chk]; rfl
  have C1 := fun (V : World) (g' : Nat) (a1 : Raw V A c (natL n.natAbs)) (a2 : Raw V B e0 (natL d.natAbs)) (a3 : Raw V A2 c2 (natL m.natAbs)) (a4 : Raw V B2 e2 (natL f.natAbs)) (hg : V.heap.size = g') => rchecks_two (decide (n < 0)) (decide (d < 0)) (decide (m < 0)) (decide (f < 0)) A B A2 B2 c e0 c2 e2 (natL n.natAbs) (natL d.natAbs) (natL m.natAbs) (natL f.natAbs) V g' a1 a2 a3 a4 hg
  rw [hc] at C1
  have H1 := Hd C1
  clear C1
  have hl1 : lz n ≤ 2048 := f1.num
  have hl2 : lz d ≤ 2048 := f1.den
  have hl3 : lz m ≤ 2048 := f2.num
  have hl4 : lz f ≤ 2048 := f2.den
  have hp1 := f1.pos
  have hp2 := f2.pos
  have C2 := fun (V : World) (a1 : Raw V A c (natL n.natAbs)) (a2 : Raw V B e0 (natL d.natAbs)) (a3 : Raw V A2 c2 (natL m.natAbs)) (a4 : Raw V B2 e2 (natL f.natAbs)) => ref02_Minus n d m f A B A2 B2 c e0 c2 e2 V a1 a2 a3 a4 (by omega) (by omega) (by omega) (by omega) (by omega) (by omega)
  obtain ⟨N, hN⟩ : ∃ k : Int, k = subN n d m f := ⟨_, rfl⟩
  obtain ⟨D, hD⟩ : ∃ k : Int, k = subD n d m f := ⟨_, rfl⟩
  rw [← hN, ← hD] at C2
  rw [← hN, ← hD]
  have C3 := fun (V : World) (A' B' : Option Addr) (c' e' : Nat) (h : Raw V A' c' (natL N.natAbs)) (g : Raw V B' e' (natL D.natAbs)) => ref02_answered N D A' B' c' e' V h g
  obtain ⟨N9, hN9⟩ : ∃ k : Int, k = ansN N D := ⟨_, rfl⟩
  obtain ⟨D9, hD9⟩ : ∃ k : Int, k = ansD N D := ⟨_, rfl⟩
  obtain ⟨K9, hK9⟩ : ∃ k : Int, k = ansK N D := ⟨_, rfl⟩
  rw [← hN9, ← hD9, ← hK9] at C3 ⊢
  have H3 := Hd C3
  have H2 := Hd C2
  clear hN hD hN9 hD9 hK9 C3 C2 hc f1 f2 hl1 hl2 hl3 hl4 hp1 hp2
  have b0 := ((((Below.refl w.heap.size w).alloc (Nat.le_refl _) (.cells #[.bool (decide (n < 0)), .slice A (natL n.natAbs).length c, .bool (decide (d < 0)), .slice B (natL d.natAbs).length e0] 30)).alloc (by simp) (.cells #[.bool (decide (m < 0)), .slice A2 (natL m.natAbs).length c2, .bool (decide (f < 0)), .slice B2 (natL f.natAbs).length e2] 30)).alloc (by simp; omega) (.cells #[.bool false, .slice none 0 0, .bool false, .slice none 0 0] 30))
  have p0 := ((Quad.new w (.bool (decide (n < 0))) (.slice A (natL n.natAbs).length c) (.bool (decide (d < 0))) (.slice B (natL d.natAbs).length e0)).alloc (.cells #[.bool (decide (m < 0)), .slice A2 (natL m.natAbs).length c2, .bool (decide (f < 0)), .slice B2 (natL f.natAbs).length e2] 30)).alloc (.cells #[.bool false, .slice none 0 0, .bool false, .slice none 0 0] 30)
  have p1 := (Quad.new (w.alloc (.cells #[.bool (decide (n < 0)), .slice A (natL n.natAbs).length c, .bool (decide (d < 0)), .slice B (natL d.natAbs).length e0] 30)) (.bool (decide (m < 0))) (.slice A2 (natL m.natAbs).length c2) (.bool (decide (f < 0))) (.slice B2 (natL f.natAbs).length e2)).alloc (.cells #[.bool false, .slice none 0 0, .bool false, .slice none 0 0] 30)
  have p2 := Quad.new ((w.alloc (.cells #[.bool (decide (n < 0)), .slice A (natL n.natAbs).length c, .bool (decide (d < 0)), .slice B (natL d.natAbs).length e0] 30)).alloc (.cells #[.bool (decide (m < 0)), .slice A2 (natL m.natAbs).length c2, .bool (decide (f < 0)), .slice B2 (natL f.natAbs).length e2] 30)) (.bool false) (.slice none 0 0) (.bool false) (.slice none 0 0)
  simp only [World.size_alloc] at p1 p2
  have PX := Hd p0
  have PY := Hd p1
  have PR := Hd p2
  have RX := Hd (hx.below b0)
  have KX := Hd (kx.below b0)
  have RY := Hd (hy.below b0)
  have KY := Hd (ky.below b0)
  have HB := Hd b0
  clear b0 p0 p1 p2 hx kx hy ky
  go_enter Tryz.func29, Tryz.ntmps29
  obtain ⟨W, E⟩ : ∃ W, W = (((w.alloc (.cells #[.bool (decide (n < 0)), .slice A (natL n.natAbs).length c, .bool (decide (d < 0)), .slice B (natL d.natAbs).length e0] 30)).alloc (.cells #[.bool (decide (m < 0)), .slice A2 (natL m.natAbs).length c2, .bool (decide (f < 0)), .slice B2 (natL f.natAbs).length e2] 30)).alloc (.cells #[.bool false, .slice none 0 0, .bool false, .slice none 0 0] 30)) := ⟨_, rfl⟩
  go_upto_region 1 with fail
  rw [← E] at PX PY PR RX KX RY KY  HB ⊢
  clear E
  have HS0 := Hd (show w.heap.size ≤ W.heap.size from HB.out.size)
  obtain ⟨l_x, x0, x1, x2, x3, -, -, -, -⟩ := PX.out.facts
  obtain ⟨l_y, y0, y1, y2, y3, -, -, -, -⟩ := PY.out.facts
  go_wp2_with fail
  refine (H1.out W _ RX.out KX.out RY.out KY.out rfl).mono ?_
  rintro e wx1 ⟨rfl, hb⟩
  clear l_x x0 x1 x2 x3
  clear l_y y0 y1 y2 y3
  have hb := ((Below.refl W.heap.size W).alloc (Nat.le_refl _) (.cells #[.bool (decide (n < 0)), .slice A (natL n.natAbs).length c, .bool (decide (d < 0)), .slice B (natL d.natAbs).length e0, .bool (decide (m < 0)), .slice A2 (natL m.natAbs).length c2, .bool (decide (f < 0)), .slice B2 (natL f.natAbs).length e2] 30)).trans (hb.mono (by simp))
  have HS_wx1 := Hd (show W.heap.size ≤ wx1.heap.size from hb.size)
  have PX := Hd (PX.out.below hb)
  have PY := Hd (PY.out.below hb)
  have PR := Hd (PR.out.below hb)
  have RX := Hd (RX.out.below hb)
  have KX := Hd (KX.out.below hb)
  have RY := Hd (RY.out.below hb)
  have KY := Hd (KY.out.below hb)
  have HB := Hd (belowTo HB.out hb)
  obtain ⟨l_x, x0, x1, x2, x3, -, -, -, -⟩ := PX.out.facts
  obtain ⟨l_y, y0, y1, y2, y3, -, -, -, -⟩ := PY.out.facts
  go_wp2_with fail
  refine (H2.out wx1 RX.out KX.out RY.out KY.out).mono ?_
  rintro e wx2 ⟨v, rfl, hI, hb⟩
  clear l_x x0 x1 x2 x3
  clear l_y y0 y1 y2 y3
  have hJ := hI.at_
  obtain ⟨A7, c7, B7, e7, rfl, r71, r72⟩ := hJ.form
  have R71 := Hd r71
  have R72 := Hd r72
  clear hI hJ r71 r72
  have HS_wx2 := Hd (show wx1.heap.size ≤ wx2.heap.size from hb.size)
  have PX := Hd (PX.out.below hb)
  have PY := Hd (PY.out.below hb)
  have PR := Hd (PR.out.below hb)
  have RX := Hd (RX.out.below hb)
  have KX := Hd (KX.out.below hb)
  have RY := Hd (RY.out.below hb)
  have KY := Hd (KY.out.below hb)
  have HB := Hd (belowTo HB.out hb)
  go_wp2_with fail
  refine (H3.out wx2 A7 B7 c7 e7 R71.out R72.out).mono ?_
  rintro e wx3 ⟨v, rfl, hI, hb⟩
  obtain ⟨A8, c8, B8, e8, rfl, -⟩ := hI.form
  have O8 := Hd hI
  clear hI R71 R72
  have HS_wx3 := Hd (show wx2.heap.size ≤ wx3.heap.size from hb.size)
  have PX := Hd (PX.out.below hb)
  have PY := Hd (PY.out.below hb)
  have PR := Hd (PR.out.below hb)
  have RX := Hd (RX.out.below hb)
  have KX := Hd (KX.out.below hb)
  have RY := Hd (RY.out.below hb)
  have KY := Hd (KY.out.below hb)
  have HB := Hd (belowTo HB.out hb)
  obtain ⟨l_r, r0, r1, r2, r3, fr0, fr1, fr2, fr3⟩ := PR.out.facts
  have HQ := Hd (PR.out.store (.bool (decide (N9 < 0))) (.slice A8 (natL N9.natAbs).length c8) (.bool (decide (D9 < 0))) (.slice B8 (natL D9.natAbs).length e8))
  have HF := Hd (below4 HB.out (show w.heap.size ≤ w.heap.size + 1 + 1 by omega) (.bool (decide (N9 < 0))) (.slice A8 (natL N9.natAbs).length c8) (.bool (decide (D9 < 0))) (.slice B8 (natL D9.natAbs).length e8))
  have HO := Hd (O8.out.quad PR.out (.bool (decide (N9 < 0))) (.slice A8 (natL N9.natAbs).length c8) (.bool (decide (D9 < 0))) (.slice B8 (natL D9.natAbs).length e8))
  go_wp2_with fail
  obtain ⟨_, k0, k1, k2, k3, _⟩ := HQ.out.facts
  exact bodyPost_ret (by simp [results, Tryz.results29, go_sem, k0, k1, k2, k3]) rfl ⟨_, rfl, HO.out, HF.out⟩

theorem ref02_Do_2 (n d m f : Int) (A B A2 B2 : Option Addr) (c e0 c2 e2 : Nat) (w : World) (hx : Raw w A c (natL n.natAbs)) (kx : Raw w B e0 (natL d.natAbs)) (hy : Raw w A2 c2 (natL m.natAbs)) (ky : Raw w B2 e2 (natL f.natAbs)) (f1 : Fine n d) (f2 : Fine m f) :
    Calls Tryz.prog 29 #[.int .i64 2, .agg #[.bool (decide (n < 0)), .slice A (natL n.natAbs).length c, .bool (decide (d < 0)), .slice B (natL d.natAbs).length e0], .agg #[.bool (decide (m < 0)), .slice A2 (natL m.natAbs).length c2, .bool (decide (f < 0)), .slice B2 (natL f.natAbs).length e2]] w (RetFrac2 w (ansN (mulN n d m f) (mulD n d m f)) (ansD (mulN n d m f) (mulD n d m f)) (ansK (mulN n d m f) (mulD n d m f))) := by
  have hc : (chkE (decide (n < 0)) (decide (d < 0)) (natL n.natAbs) (natL d.natAbs) == 0 && chkE (decide (m < 0)) (decide (f < 0)) (natL m.natAbs) (natL f.natAbs) == 0) = true := by rw [f1.chk, f2.chk]; rfl
  have C1 := fun (V : World) (g' : Nat) (a1 : Raw V A c (natL n.natAbs)) (a2 : Raw V B e0 (natL d.natAbs)) (a3 : Raw V A2 c2 (natL m.natAbs)) (a4 : Raw V B2 e2 (natL f.natAbs)) (hg : V.heap.size = g') => rchecks_two (decide (n < 0)) (decide (d < 0)) (decide (m < 0)) (decide (f < 0)) A B A2 B2 c e0 c2 e2 (natL n.natAbs) (natL d.natAbs) (natL m.natAbs) (natL f.natAbs) V g' a1 a2 a3 a4 hg
  rw [hc] at C1
  have H1 := Hd C1
  clear C1
  have hl1 : lz n ≤ 2048 := f1.num
  have hl2 : lz d ≤ 2048 := f1.den
  have hl3 : lz m ≤ 2048 := f2.num
  have hl4 : lz f ≤ 2048 := f2.den
  have hp1 := f1.pos
  have hp2 := f2.pos
  have C2 := fun (V : World) (a1 : Raw V A c (natL n.natAbs)) (a2 : Raw V B e0 (natL d.natAbs)) (a3 : Raw V A2 c2 (natL m.natAbs)) (a4 : Raw V B2 e2 (natL f.natAbs)) => ref02_Times n d m f A B A2 B2 c e0 c2 e2 V a1 a2 a3 a4 (by omega) (by omega) (by omega) (by omega) (by omega) (by omega)
  obtain ⟨N, hN⟩ : ∃ k : Int, k = mulN n d m f := ⟨_, rfl⟩
  obtain ⟨D, hD⟩ : ∃ k : Int, k = mulD n d m f := ⟨_, rfl⟩
  rw [← hN, ← hD] at C2
  rw [← hN, ← hD]
  have C3 := fun (V : World) (A' B' : Option Addr) (c' e' : Nat) (h : Raw V A' c' (natL N.natAbs)) (g : Raw V B' e' (natL D.natAbs)) => ref02_answered N D A' B' c' e' V h g
  obtain ⟨N9, hN9⟩ : ∃ k : Int, k = ansN N D := ⟨_, rfl⟩
  obtain ⟨D9, hD9⟩ : ∃ k : Int, k = ansD N D := ⟨_, rfl⟩
  obtain ⟨K9, hK9⟩ : ∃ k : Int, k = ansK N D := ⟨_, rfl⟩
  rw [← hN9, ← hD9, ← hK9] at C3 ⊢
  have H3 := Hd C3
  have H2 := Hd C2
  clear hN hD hN9 hD9 hK9 C3 C2 hc f1 f2 hl1 hl2 hl3 hl4 hp1 hp2
  have b0 := ((((Below.refl w.heap.size w).alloc (Nat.le_refl _) (.cells #[.bool (decide (n < 0)), .slice A (natL n.natAbs).length c, .bool (decide (d < 0)), .slice B (natL d.natAbs).length e0] 30)).alloc (by simp) (.cells #[.bool (decide (m < 0)), .slice A2 (natL m.natAbs).length c2, .bool (decide (f < 0)), .slice B2 (natL f.natAbs).length e2] 30)).alloc (by simp; omega) (.cells #[.bool false, .slice none 0 0, .bool false, .slice none 0 0] 30))
  have p0 := ((Quad.new w (.bool (decide (n < 0))) (.slice A (natL n.natAbs).length c) (.bool (decide (d < 0))) (.slice B (natL d.natAbs).length e0)).alloc (.cells #[.bool (decide (m < 0)), .slice A2 (natL m.natAbs).length c2, .bool (decide (f < 0)), .slice B2 (natL f.natAbs).length e2] 30)).alloc (.cells #[.bool false, .slice none 0 0, .bool false, .slice none 0 0] 30)
  have p1 := (Quad.new (w.alloc (.cells #[.bool (decide (n < 0)), .slice A (natL n.natAbs).length c, .bool (decide (d < 0)), .slice B (natL d.natAbs).length e0] 30)) (.bool (decide (m < 0))) (.slice A2 (natL m.natAbs).length c2) (.bool (decide (f < 0))) (.slice B2 (natL f.natAbs).length e2)).alloc (.cells #[.bool false, .slice none 0 0, .bool false, .slice none 0 0] 30)
  have p2 := Quad.new ((w.alloc (.cells #[.bool (decide (n < 0)), .slice A (natL n.natAbs).length c, .bool (decide (d < 0)), .slice B (natL d.natAbs).length e0] 30)).alloc (.cells #[.bool (decide (m < 0)), .slice A2 (natL m.natAbs).length c2, .bool (decide (f < 0)), .slice B2 (natL f.natAbs).length e2] 30)) (.bool false) (.slice none 0 0) (.bool false) (.slice none 0 0)
  simp only [World.size_alloc] at p1 p2
  have PX := Hd p0
  have PY := Hd p1
  have PR := Hd p2
  have RX := Hd (hx.below b0)
  have KX := Hd (kx.below b0)
  have RY := Hd (hy.below b0)
  have KY := Hd (ky.below b0)
  have HB := Hd b0
  clear b0 p0 p1 p2 hx kx hy ky
  go_enter Tryz.func29, Tryz.ntmps29
  obtain ⟨W, E⟩ : ∃ W, W = (((w.alloc (.cells #[.bool (decide (n < 0)), .slice A (natL n.natAbs).length c, .bool (decide (d < 0)), .slice B (natL d.natAbs).length e0] 30)).alloc (.cells #[.bool (decide (m < 0)), .slice A2 (natL m.natAbs).length c2, .bool (decide (f < 0)), .slice B2 (natL f.natAbs).length e2] 30)).alloc (.cells #[.bool false, .slice none 0 0, .bool false, .slice none 0 0] 30)) := ⟨_, rfl⟩
  go_upto_region 1 with fail
  rw [← E] at PX PY PR RX KX RY KY  HB ⊢
  clear E
  have HS0 := Hd (show w.heap.size ≤ W.heap.size from HB.out.size)
  obtain ⟨l_x, x0, x1, x2, x3, -, -, -, -⟩ := PX.out.facts
  obtain ⟨l_y, y0, y1, y2, y3, -, -, -, -⟩ := PY.out.facts
  go_wp2_with fail
  refine (H1.out W _ RX.out KX.out RY.out KY.out rfl).mono ?_
  rintro e wx1 ⟨rfl, hb⟩
  clear l_x x0 x1 x2 x3
  clear l_y y0 y1 y2 y3
  have hb := ((Below.refl W.heap.size W).alloc (Nat.le_refl _) (.cells #[.bool (decide (n < 0)), .slice A (natL n.natAbs).length c, .bool (decide (d < 0)), .slice B (natL d.natAbs).length e0, .bool (decide (m < 0)), .slice A2 (natL m.natAbs).length c2, .bool (decide (f < 0)), .slice B2 (natL f.natAbs).length e2] 30)).trans (hb.mono (by simp))
  have HS_wx1 := Hd (show W.heap.size ≤ wx1.heap.size from hb.size)
  have PX := Hd (PX.out.below hb)
  have PY := Hd (PY.out.below hb)
  have PR := Hd (PR.out.below hb)
  have RX := Hd (RX.out.below hb)
  have KX := Hd (KX.out.below hb)
  have RY := Hd (RY.out.below hb)
  have KY := Hd (KY.out.below hb)
  have HB := Hd (belowTo HB.out hb)
  obtain ⟨l_x, x0, x1, x2, x3, -, -, -, -⟩ := PX.out.facts
  obtain ⟨l_y, y0, y1, y2, y3, -, -, -, -⟩ := PY.out.facts
  go_wp2_with fail
  refine (H2.out wx1 RX.out KX.out RY.out KY.out).mono ?_
  rintro e wx2 ⟨v, rfl, hI, hb⟩
  clear l_x x0 x1 x2 x3
  clear l_y y0 y1 y2 y3
  have hJ := hI.at_
  obtain ⟨A7, c7, B7, e7, rfl, r71, r72⟩ := hJ.form
  have R71 := Hd r71
  have R72 := Hd r72
  clear hI hJ r71 r72
  have HS_wx2 := Hd (show wx1.heap.size ≤ wx2.heap.size from hb.size)
  have PX := Hd (PX.out.below hb)
  have PY := Hd (PY.out.below hb)
  have PR := Hd (PR.out.below hb)
  have RX := Hd (RX.out.below hb)
  have KX := Hd (KX.out.below hb)
  have RY := Hd (RY.out.below hb)
  have KY := Hd (KY.out.below hb)
  have HB := Hd (belowTo HB.out hb)
  go_wp2_with fail
  refine (H3.out wx2 A7 B7 c7 e7 R71.out R72.out).mono ?_
  rintro e wx3 ⟨v, rfl, hI, hb⟩
  obtain ⟨A8, c8, B8, e8, rfl, -⟩ := hI.form
  have O8 := Hd hI
  clear hI R71 R72
  have HS_wx3 := Hd (show wx2.heap.size ≤ wx3.heap.size from hb.size)
  have PX := Hd (PX.out.below hb)
  have PY := Hd (PY.out.below hb)
  have PR := Hd (PR.out.below hb)
  have RX := Hd (RX.out.below hb)
  have KX := Hd (KX.out.below hb)
  have RY := Hd (RY.out.below hb)
  have KY := Hd (KY.out.below hb)
  have HB := Hd (belowTo HB.out hb)
  obtain ⟨l_r, r0, r1, r2, r3, fr0, fr1, fr2, fr3⟩ := PR.out.facts
  have HQ := Hd (PR.out.store (.bool (decide (N9 < 0))) (.slice A8 (natL N9.natAbs).length c8) (.bool (decide (D9 < 0))) (.slice B8 (natL D9.natAbs).length e8))
  have HF := Hd (below4 HB.out (show w.heap.size ≤ w.heap.size + 1 + 1 by omega) (.bool (decide (N9 < 0))) (.slice A8 (natL N9.natAbs).length c8) (.bool (decide (D9 < 0))) (.slice B8 (natL D9.natAbs).length e8))
  have HO := Hd (O8.out.quad PR.out (.bool (decide (N9 < 0))) (.slice A8 (natL N9.natAbs).length c8) (.bool (decide (D9 < 0))) (.slice B8 (natL D9.natAbs).length e8))
  go_wp2_with fail
  obtain ⟨_, k0, k1, k2, k3, _⟩ := HQ.out.facts
  exact bodyPost_ret (by simp [results, Tryz.results29, go_sem, k0, k1, k2, k3]) rfl ⟨_, rfl, HO.out, HF.out⟩

theorem ref02_Do_3 (n d m f : Int) (A B A2 B2 : Option Addr) (c e0 c2 e2 : Nat) (w : World) (hx : Raw w A c (natL n.natAbs)) (kx : Raw w B e0 (natL d.natAbs)) (hy : Raw w A2 c2 (natL m.natAbs)) (ky : Raw w B2 e2 (natL f.natAbs)) (f1 : Fine n d) (f2 : Fine m f) (hm0 : m ≠ 0) :
    Calls Tryz.prog 29 #[.int .i64 3, .agg #[.bool (decide (n < 0)), .slice A (natL n.natAbs).length c, .bool (decide (d < 0)), .slice B (natL d.natAbs).length e0], .agg #[.bool (decide (m < 0)), .slice A2 (natL m.natAbs).length c2, .bool (decide (f < 0)), .slice B2 (natL f.natAbs).length e2]] w (RetFrac2 w (ansN (quoN n d m f) (quoD n d m f)) (ansD (quoN n d m f) (quoD n d m f)) (ansK (quoN n d m f) (quoD n d m f))) := by
  have hc : (chkE (decide (n < 0)) (decide (d < 0)) (natL n.natAbs) (natL d.natAbs) == 0 && chkE (decide (m < 0)) (decide (f < 0)) (natL m.natAbs) (natL f.natAbs) == 0) = true := by rw [f1.chk, f2.chk]; rfl
  have C1 := fun (V : World) (g' : Nat) (a1 : Raw V A c (natL n.natAbs)) (a2 : Raw V B e0 (natL d.natAbs)) (a3 : Raw V A2 c2 (natL m.natAbs)) (a4 : Raw V B2 e2 (natL f.natAbs)) (hg : V.heap.size = g') => rchecks_two (decide (n < 0)) (decide (d < 0)) (decide (m < 0)) (decide (f < 0)) A B A2 B2 c e0 c2 e2 (natL n.natAbs) (natL d.natAbs) (natL m.natAbs) (natL f.natAbs) V g' a1 a2 a3 a4 hg
  rw [hc] at C1
  have H1 := Hd C1
  clear C1
  have hl1 : lz n ≤ 2048 := f1.num
  have hl2 : lz d ≤ 2048 := f1.den
  have hl3 : lz m ≤ 2048 := f2.num
  have hl4 : lz f ≤ 2048 := f2.den
  have hp1 := f1.pos
  have hp2 := f2.pos
  have C2 := fun (V : World) (a1 : Raw V A c (natL n.natAbs)) (a2 : Raw V B e0 (natL d.natAbs)) (a3 : Raw V A2 c2 (natL m.natAbs)) (a4 : Raw V B2 e2 (natL f.natAbs)) => ref02_Over n d m f A B A2 B2 c e0 c2 e2 V a1 a2 a3 a4 (by omega) (by omega) (by omega) (by omega) (by omega) hm0
  obtain ⟨N, hN⟩ : ∃ k : Int, k = quoN n d m f := ⟨_, rfl⟩
  obtain ⟨D, hD⟩ : ∃ k : Int, k = quoD n d m f := ⟨_, rfl⟩
  rw [← hN, ← hD] at C2
  rw [← hN, ← hD]
  have C3 := fun (V : World) (A' B' : Option Addr) (c' e' : Nat) (h : Raw V A' c' (natL N.natAbs)) (g : Raw V B' e' (natL D.natAbs)) => ref02_answered N D A' B' c' e' V h g
  obtain ⟨N9, hN9⟩ : ∃ k : Int, k = ansN N D := ⟨_, rfl⟩
  obtain ⟨D9, hD9⟩ : ∃ k : Int, k = ansD N D := ⟨_, rfl⟩
  obtain ⟨K9, hK9⟩ : ∃ k : Int, k = ansK N D := ⟨_, rfl⟩
  rw [← hN9, ← hD9, ← hK9] at C3 ⊢
  have H3 := Hd C3
  have H2 := Hd C2
  obtain ⟨sg, hsg⟩ : ∃ k : Int, k = m.sign := ⟨_, rfl⟩
  have H4 := Hd (fun (V : World) (h : Raw V A2 c2 (natL m.natAbs)) => ref02_Sign m sg f A2 B2 c2 e2 V h hsg)
  have hs0 : sg ≠ 0 := by rw [hsg]; intro e; exact hm0 (Int.sign_eq_zero_iff_zero.1 e)
  have hs1 : (sg == 0) = false := by simpa using hs0
  clear hsg hm0
  clear hN hD hN9 hD9 hK9 C3 C2 hc f1 f2 hl1 hl2 hl3 hl4 hp1 hp2
  have b0 := ((((Below.refl w.heap.size w).alloc (Nat.le_refl _) (.cells #[.bool (decide (n < 0)), .slice A (natL n.natAbs).length c, .bool (decide (d < 0)), .slice B (natL d.natAbs).length e0] 30)).alloc (by simp) (.cells #[.bool (decide (m < 0)), .slice A2 (natL m.natAbs).length c2, .bool (decide (f < 0)), .slice B2 (natL f.natAbs).length e2] 30)).alloc (by simp; omega) (.cells #[.bool false, .slice none 0 0, .bool false, .slice none 0 0] 30))
  have p0 := ((Quad.new w (.bool (decide (n < 0))) (.slice A (natL n.natAbs).length c) (.bool (decide (d < 0))) (.slice B (natL d.natAbs).length e0)).alloc (.cells #[.bool (decide (m < 0)), .slice A2 (natL m.natAbs).length c2, .bool (decide (f < 0)), .slice B2 (natL f.natAbs).length e2] 30)).alloc (.cells #[.bool false, .slice none 0 0, .bool false, .slice none 0 0] 30)
  have p1 := (Quad.new (w.alloc (.cells #[.bool (decide (n < 0)), .slice A (natL n.natAbs).length c, .bool (decide (d < 0)), .slice B (natL d.natAbs).length e0] 30)) (.bool (decide (m < 0))) (.slice A2 (natL m.natAbs).length c2) (.bool (decide (f < 0))) (.slice B2 (natL f.natAbs).length e2)).alloc (.cells #[.bool false, .slice none 0 0, .bool false, .slice none 0 0] 30)
  have p2 := Quad.new ((w.alloc (.cells #[.bool (decide (n < 0)), .slice A (natL n.natAbs).length c, .bool (decide (d < 0)), .slice B (natL d.natAbs).length e0] 30)).alloc (.cells #[.bool (decide (m < 0)), .slice A2 (natL m.natAbs).length c2, .bool (decide (f < 0)), .slice B2 (natL f.natAbs).length e2] 30)) (.bool false) (.slice none 0 0) (.bool false) (.slice none 0 0)
  simp only [World.size_alloc] at p1 p2
  have PX := Hd p0
  have PY := Hd p1
  have PR := Hd p2
  have RX := Hd (hx.below b0)
  have KX := Hd (kx.below b0)
  have RY := Hd (hy.below b0)
  have KY := Hd (ky.below b0)
  have HB := Hd b0
  clear b0 p0 p1 p2 hx kx hy ky
  go_enter Tryz.func29, Tryz.ntmps29
  obtain ⟨W, E⟩ : ∃ W, W = (((w.alloc (.cells #[.bool (decide (n < 0)), .slice A (natL n.natAbs).length c, .bool (decide (d < 0)), .slice B (natL d.natAbs).length e0] 30)).alloc (.cells #[.bool (decide (m < 0)), .slice A2 (natL m.natAbs).length c2, .bool (decide (f < 0)), .slice B2 (natL f.natAbs).length e2] 30)).alloc (.cells #[.bool false, .slice none 0 0, .bool false, .slice none 0 0] 30)) := ⟨_, rfl⟩
  go_upto_region 1 with fail
  rw [← E] at PX PY PR RX KX RY KY  HB ⊢
  clear E
  have HS0 := Hd (show w.heap.size ≤ W.heap.size from HB.out.size)
  obtain ⟨l_x, x0, x1, x2, x3, -, -, -, -⟩ := PX.out.facts
  obtain ⟨l_y, y0, y1, y2, y3, -, -, -, -⟩ := PY.out.facts
  go_wp2_with fail
  refine (H1.out W _ RX.out KX.out RY.out KY.out rfl).mono ?_
  rintro e wx1 ⟨rfl, hb⟩
  clear l_x x0 x1 x2 x3
  clear l_y y0 y1 y2 y3
  have hb := ((Below.refl W.heap.size W).alloc (Nat.le_refl _) (.cells #[.bool (decide (n < 0)), .slice A (natL n.natAbs).length c, .bool (decide (d < 0)), .slice B (natL d.natAbs).length e0, .bool (decide (m < 0)), .slice A2 (natL m.natAbs).length c2, .bool (decide (f < 0)), .slice B2 (natL f.natAbs).length e2] 30)).trans (hb.mono (by simp))
  have HS_wx1 := Hd (show W.heap.size ≤ wx1.heap.size from hb.size)
  have PX := Hd (PX.out.below hb)
  have PY := Hd (PY.out.below hb)
  have PR := Hd (PR.out.below hb)
  have RX := Hd (RX.out.below hb)
  have KX := Hd (KX.out.below hb)
  have RY := Hd (RY.out.below hb)
  have KY := Hd (KY.out.below hb)
  have HB := Hd (belowTo HB.out hb)
  obtain ⟨l_y, y0, y1, y2, y3, -, -, -, -⟩ := PY.out.facts
  go_wp2_with fail
  refine (H4.out wx1 RY.out).mono ?_
  rintro e wx2 ⟨rfl, hb⟩
  clear l_y y0 y1 y2 y3
  have HS_wx2 := Hd (show wx1.heap.size ≤ wx2.heap.size from hb.size)
  have PX := Hd (PX.out.below hb)
  have PY := Hd (PY.out.below hb)
  have PR := Hd (PR.out.below hb)
  have RX := Hd (RX.out.below hb)
  have KX := Hd (KX.out.below hb)
  have RY := Hd (RY.out.below hb)
  have KY := Hd (KY.out.below hb)
  have HB := Hd (belowTo HB.out hb)
  obtain ⟨l_x, x0, x1, x2, x3, -, -, -, -⟩ := PX.out.facts
  obtain ⟨l_y, y0, y1, y2, y3, -, -, -, -⟩ := PY.out.facts
  go_wp2_with fail
  refine (H2.out wx2 RX.out KX.out RY.out KY.out).mono ?_
  rintro e wx3 ⟨v, rfl, hI, hb⟩
  clear l_x x0 x1 x2 x3
  clear l_y y0 y1 y2 y3
  have hJ := hI.at_
  obtain ⟨A7, c7, B7, e7, rfl, r71, r72⟩ := hJ.form
  have R71 := Hd r71
  have R72 := Hd r72
  clear hI hJ r71 r72
  have HS_wx3 := Hd (show wx2.heap.size ≤ wx3.heap.size from hb.size)
  have PX := Hd (PX.out.below hb)
  have PY := Hd (PY.out.below hb)
  have PR := Hd (PR.out.below hb)
  have RX := Hd (RX.out.below hb)
  have KX := Hd (KX.out.below hb)
  have RY := Hd (RY.out.below hb)
  have KY := Hd (KY.out.below hb)
  have HB := Hd (belowTo HB.out hb)
  go_wp2_with fail
  refine (H3.out wx3 A7 B7 c7 e7 R71.out R72.out).mono ?_
  rintro e wx4 ⟨v, rfl, hI, hb⟩
  obtain ⟨A8, c8, B8, e8, rfl, -⟩ := hI.form
  have O8 := Hd hI
  clear hI R71 R72
  have HS_wx4 := Hd (show wx3.heap.size ≤ wx4.heap.size from hb.size)
  have PX := Hd (PX.out.below hb)
  have PY := Hd (PY.out.below hb)
  have PR := Hd (PR.out.below hb)
  have RX := Hd (RX.out.below hb)
  have KX := Hd (KX.out.below hb)
  have RY := Hd (RY.out.below hb)
  have KY := Hd (KY.out.below hb)
  have HB := Hd (belowTo HB.out hb)
  obtain ⟨l_r, r0, r1, r2, r3, fr0, fr1, fr2, fr3⟩ := PR.out.facts
  have HQ := Hd (PR.out.store (.bool (decide (N9 < 0))) (.slice A8 (natL N9.natAbs).length c8) (.bool (decide (D9 < 0))) (.slice B8 (natL D9.natAbs).length e8))
  have HF := Hd (below4 HB.out (show w.heap.size ≤ w.heap.size + 1 + 1 by omega) (.bool (decide (N9 < 0))) (.slice A8 (natL N9.natAbs).length c8) (.bool (decide (D9 < 0))) (.slice B8 (natL D9.natAbs).length e8))
  have HO := Hd (O8.out.quad PR.out (.bool (decide (N9 < 0))) (.slice A8 (natL N9.natAbs).length c8) (.bool (decide (D9 < 0))) (.slice B8 (natL D9.natAbs).length e8))
  go_wp2_with fail
  obtain ⟨_, k0, k1, k2, k3, _⟩ := HQ.out.facts
  exact bodyPost_ret (by simp [results, Tryz.results29, go_sem, k0, k1, k2, k3]) rfl ⟨_, rfl, HO.out, HF.out⟩

theorem ref02_Do_nought (n d m f : Int) (A B A2 B2 : Option Addr) (c e0 c2 e2 : Nat) (w : World) (hx : Raw w A c (natL n.natAbs)) (kx : Raw w B e0 (natL d.natAbs)) (hy : Raw w A2 c2 (natL m.natAbs)) (ky : Raw w B2 e2 (natL f.natAbs)) (f1 : Fine n d) (f2 : Fine m f) (hm0 : m = 0) :
    Calls Tryz.prog 29 #[.int .i64 3, .agg #[.bool (decide (n < 0)), .slice A (natL n.natAbs).length c, .bool (decide (d < 0)), .slice B (natL d.natAbs).length e0], .agg #[.bool (decide (m < 0)), .slice A2 (natL m.natAbs).length c2, .bool (decide (f < 0)), .slice B2 (natL f.natAbs).length e2]] w (RetFrac2 w 0 0 3) := by
  have hc : (chkE (decide (n < 0)) (decide (d < 0)) (natL n.natAbs) (natL d.natAbs) == 0 && chkE (decide (m < 0)) (decide (f < 0)) (natL m.natAbs) (natL f.natAbs) == 0) = true := by rw [f1.chk, f2.chk]; rfl
  have C1 := fun (V : World) (g' : Nat) (a1 : Raw V A c (natL n.natAbs)) (a2 : Raw V B e0 (natL d.natAbs)) (a3 : Raw V A2 c2 (natL m.natAbs)) (a4 : Raw V B2 e2 (natL f.natAbs)) (hg : V.heap.size = g') => rchecks_two (decide (n < 0)) (decide (d < 0)) (decide (m < 0)) (decide (f < 0)) A B A2 B2 c e0 c2 e2 (natL n.natAbs) (natL d.natAbs) (natL m.natAbs) (natL f.natAbs) V g' a1 a2 a3 a4 hg
  rw [hc] at C1
  have H1 := Hd C1
  clear C1
  obtain ⟨sg, hsg⟩ : ∃ k : Int, k = m.sign := ⟨_, rfl⟩
  have H4 := Hd (fun (V : World) (h : Raw V A2 c2 (natL m.natAbs)) => ref02_Sign m sg f A2 B2 c2 e2 V h hsg)
  have hs0 : sg = 0 := by rw [hsg, hm0]; rfl
  subst hs0
  clear hsg hm0 hc f1 f2
  have b0 := ((((Below.refl w.heap.size w).alloc (Nat.le_refl _) (.cells #[.bool (decide (n < 0)), .slice A (natL n.natAbs).length c, .bool (decide (d < 0)), .slice B (natL d.natAbs).length e0] 30)).alloc (by simp) (.cells #[.bool (decide (m < 0)), .slice A2 (natL m.natAbs).length c2, .bool (decide (f < 0)), .slice B2 (natL f.natAbs).length e2] 30)).alloc (by simp; omega) (.cells #[.bool false, .slice none 0 0, .bool false, .slice none 0 0] 30))
  have p0 := ((Quad.new w (.bool (decide (n < 0))) (.slice A (natL n.natAbs).length c) (.bool (decide (d < 0))) (.slice B (natL d.natAbs).length e0)).alloc (.cells #[.bool (decide (m < 0)), .slice A2 (natL m.natAbs).length c2, .bool (decide (f < 0)), .slice B2 (natL f.natAbs).length e2] 30)).alloc (.cells #[.bool false, .slice none 0 0, .bool false, .slice none 0 0] 30)
  have p1 := (Quad.new (w.alloc (.cells #[.bool (decide (n < 0)), .slice A (natL n.natAbs).length c, .bool (decide (d < 0)), .slice B (natL d.natAbs).length e0] 30)) (.bool (decide (m < 0))) (.slice A2 (natL m.natAbs).length c2) (.bool (decide (f < 0))) (.slice B2 (natL f.natAbs).length e2)).alloc (.cells #[.bool false, .slice none 0 0, .bool false, .slice none 0 0] 30)
  have p2 := Quad.new ((w.alloc (.cells #[.bool (decide (n < 0)), .slice A (natL n.natAbs).length c, .bool (decide (d < 0)), .slice B (natL d.natAbs).length e0] 30)).alloc (.cells #[.bool (decide (m < 0)), .slice A2 (natL m.natAbs).length c2, .bool (decide (f < 0)), .slice B2 (natL f.natAbs).length e2] 30)) (.bool false) (.slice none 0 0) (.bool false) (.slice none 0 0)
  simp only [World.size_alloc] at p1 p2
  have PX := Hd p0
  have PY := Hd p1
  have PR := Hd p2
  have RX := Hd (hx.below b0)
  have KX := Hd (kx.below b0)
  have RY := Hd (hy.below b0)
  have KY := Hd (ky.below b0)
  have HB := Hd b0
  clear b0 p0 p1 p2 hx kx hy ky
  go_enter Tryz.func29, Tryz.ntmps29
  obtain ⟨W, E⟩ : ∃ W, W = (((w.alloc (.cells #[.bool (decide (n < 0)), .slice A (natL n.natAbs).length c, .bool (decide (d < 0)), .slice B (natL d.natAbs).length e0] 30)).alloc (.cells #[.bool (decide (m < 0)), .slice A2 (natL m.natAbs).length c2, .bool (decide (f < 0)), .slice B2 (natL f.natAbs).length e2] 30)).alloc (.cells #[.bool false, .slice none 0 0, .bool false, .slice none 0 0] 30)) := ⟨_, rfl⟩
  go_upto_region 1 with fail
  rw [← E] at PX PY PR RX KX RY KY  HB ⊢
  clear E
  have HS0 := Hd (show w.heap.size ≤ W.heap.size from HB.out.size)
  obtain ⟨l_x, x0, x1, x2, x3, -, -, -, -⟩ := PX.out.facts
  obtain ⟨l_y, y0, y1, y2, y3, -, -, -, -⟩ := PY.out.facts
  go_wp2_with fail
  refine (H1.out W _ RX.out KX.out RY.out KY.out rfl).mono ?_
  rintro e wx1 ⟨rfl, hb⟩
  clear l_x x0 x1 x2 x3
  clear l_y y0 y1 y2 y3
  have hb := ((Below.refl W.heap.size W).alloc (Nat.le_refl _) (.cells #[.bool (decide (n < 0)), .slice A (natL n.natAbs).length c, .bool (decide (d < 0)), .slice B (natL d.natAbs).length e0, .bool (decide (m < 0)), .slice A2 (natL m.natAbs).length c2, .bool (decide (f < 0)), .slice B2 (natL f.natAbs).length e2] 30)).trans (hb.mono (by simp))
  have HS_wx1 := Hd (show W.heap.size ≤ wx1.heap.size from hb.size)
  have PX := Hd (PX.out.below hb)
  have PY := Hd (PY.out.below hb)
  have PR := Hd (PR.out.below hb)
  have RX := Hd (RX.out.below hb)
  have KX := Hd (KX.out.below hb)
  have RY := Hd (RY.out.below hb)
  have KY := Hd (KY.out.below hb)
  have HB := Hd (belowTo HB.out hb)
  obtain ⟨l_y, y0, y1, y2, y3, -, -, -, -⟩ := PY.out.facts
  go_wp2_with fail
  refine (H4.out wx1 RY.out).mono ?_
  rintro e wx2 ⟨rfl, hb⟩
  clear l_y y0 y1 y2 y3
  have HS_wx2 := Hd (show wx1.heap.size ≤ wx2.heap.size from hb.size)
  have PX := Hd (PX.out.below hb)
  have PY := Hd (PY.out.below hb)
  have PR := Hd (PR.out.below hb)
  have RX := Hd (RX.out.below hb)
  have KX := Hd (KX.out.below hb)
  have RY := Hd (RY.out.below hb)
  have KY := Hd (KY.out.below hb)
  have HB := Hd (belowTo HB.out hb)
  obtain ⟨l_x, x0, x1, x2, x3, -, -, -, -⟩ := PX.out.facts
  obtain ⟨l_r, r0, r1, r2, r3, fr0, fr1, fr2, fr3⟩ := PR.out.facts
  have HQ := Hd (PR.out.store (.bool false) (.slice none 0 0) (.bool false) (.slice none 0 0))
  have HF := Hd (below4 HB.out (show w.heap.size ≤ w.heap.size + 1 + 1 by omega) (.bool false) (.slice none 0 0) (.bool false) (.slice none 0 0))
  go_wp2_with fail
  obtain ⟨_, k0, k1, k2, k3, _⟩ := HQ.out.facts
  exact bodyPost_ret (by simp [results, Tryz.results29, go_sem, k0, k1, k2, k3]) rfl ⟨_, rfl, (FracOwn.nought _ 0).at_, HF.out⟩

theorem ldo_0 (n1 n2 n3 n4 : Bool) (A B A2 B2 : Option Addr) (c e0 c2 e2 : Nat) (xs ys us vs : List Nat) (N D K : Int) (C : ∀ (V : World), Raw V A c xs → Raw V B e0 ys → Raw V A2 c2 us → Raw V B2 e2 vs → Calls Tryz.prog 56 #[.agg #[.bool n1, .slice A xs.length c, .bool n2, .slice B ys.length e0], .agg #[.bool n3, .slice A2 us.length c2, .bool n4, .slice B2 vs.length e2]] V (RetFracOwn2 V.heap.size V N D K)) (w : World) (hx : Raw w A c xs) (kx : Raw w B e0 ys) (hy : Raw w A2 c2 us) (ky : Raw w B2 e2 vs) :
    Calls Tryz.prog 28 #[.int .i64 0, .agg #[.bool n1, .slice A xs.length c, .bool n2, .slice B ys.length e0], .agg #[.bool n3, .slice A2 us.length c2, .bool n4, .slice B2 vs.length e2]] w (RetFracOwn2 w.heap.size w N D K) := by
  have H2 := Hd C
  clear C
  have b0 := ((((Below.refl w.heap.size w).alloc (Nat.le_refl _) (.cells #[.bool n1, .slice A xs.length c, .bool n2, .slice B ys.length e0] 30)).alloc (by simp) (.cells #[.bool n3, .slice A2 us.length c2, .bool n4, .slice B2 vs.length e2] 30)).alloc (by simp; omega) (.cells #[.bool false, .slice none 0 0, .bool false, .slice none 0 0] 30))
  have p0 := ((Quad.new w (.bool n1) (.slice A xs.length c) (.bool n2) (.slice B ys.length e0)).alloc (.cells #[.bool n3, .slice A2 us.length c2, .bool n4, .slice B2 vs.length e2] 30)).alloc (.cells #[.bool false, .slice none 0 0, .bool false, .slice none 0 0] 30)
  have p1 := (Quad.new (w.alloc (.cells #[.bool n1, .slice A xs.length c, .bool n2, .slice B ys.length e0] 30)) (.bool n3) (.slice A2 us.length c2) (.bool n4) (.slice B2 vs.length e2)).alloc (.cells #[.bool false, .slice none 0 0, .bool false, .slice none 0 0] 30)
  have p2 := Quad.new ((w.alloc (.cells #[.bool n1, .slice A xs.length c, .bool n2, .slice B ys.length e0] 30)).alloc (.cells #[.bool n3, .slice A2 us.length c2, .bool n4, .slice B2 vs.length e2] 30)) (.bool false) (.slice none 0 0) (.bool false) (.slice none 0 0)
  simp only [World.size_alloc] at p1 p2
  have PX := Hd p0
  have PY := Hd p1
  have PR := Hd p2
  have RX := Hd (hx.below b0)
  have KX := Hd (kx.below b0)
  have RY := Hd (hy.below b0)
  have KY := Hd (ky.below b0)
  have HB := Hd b0
  clear b0 p0 p1 p2 hx kx hy ky
  go_enter Tryz.func28, Tryz.ntmps28
  obtain ⟨W, E⟩ : ∃ W, W = (((w.alloc (.cells #[.bool n1, .slice A xs.length c, .bool n2, .slice B ys.length e0] 30)).alloc (.cells #[.bool n3, .slice A2 us.length c2, .bool n4, .slice B2 vs.length e2] 30)).alloc (.cells #[.bool false, .slice none 0 0, .bool false, .slice none 0 0] 30)) := ⟨_, rfl⟩
  go_upto_region 1 with fail
  rw [← E] at PX PY PR RX KX RY KY  HB ⊢
  clear E
  have HS0 := Hd (show w.heap.size ≤ W.heap.size from HB.out.size)
  obtain ⟨l_x, x0, x1, x2, x3, -, -, -, -⟩ := PX.out.facts
  obtain ⟨l_y, y0, y1, y2, y3, -, -, -, -⟩ := PY.out.facts
  go_wp2_with fail
  refine (H2.out W RX.out KX.out RY.out KY.out).mono ?_
  rintro e wx1 ⟨v, rfl, hI, hb⟩
  clear l_x x0 x1 x2 x3
  clear l_y y0 y1 y2 y3
  obtain ⟨A8, c8, B8, e8, rfl, -⟩ := hI.form
  have O8 := Hd hI
  clear hI
  have HS_wx1 := Hd (show W.heap.size ≤ wx1.heap.size from hb.size)
  have PX := Hd (PX.out.below hb)
  have PY := Hd (PY.out.below hb)
  have PR := Hd (PR.out.below hb)
  have RX := Hd (RX.out.below hb)
  have KX := Hd (KX.out.below hb)
  have RY := Hd (RY.out.below hb)
  have KY := Hd (KY.out.below hb)
  have HB := Hd (belowTo HB.out hb)
  obtain ⟨l_r, r0, r1, r2, r3, fr0, fr1, fr2, fr3⟩ := PR.out.facts
  have HQ := Hd (PR.out.store (.bool (decide (N < 0))) (.slice A8 (natL N.natAbs).length c8) (.bool (decide (D < 0))) (.slice B8 (natL D.natAbs).length e8))
  have HF := Hd (below4 HB.out (show w.heap.size ≤ w.heap.size + 1 + 1 by omega) (.bool (decide (N < 0))) (.slice A8 (natL N.natAbs).length c8) (.bool (decide (D < 0))) (.slice B8 (natL D.natAbs).length e8))
  have HO := Hd (O8.out.quad PR.out (.bool (decide (N < 0))) (.slice A8 (natL N.natAbs).length c8) (.bool (decide (D < 0))) (.slice B8 (natL D.natAbs).length e8))
  go_wp2_with fail
  obtain ⟨_, k0, k1, k2, k3, _⟩ := HQ.out.facts
  exact bodyPost_ret (by simp [results, Tryz.results28, go_sem, k0, k1, k2, k3]) rfl ⟨_, rfl, HO.out.base HS0.out, HF.out⟩

theorem ldo_1 (n1 n2 n3 n4 : Bool) (A B A2 B2 : Option Addr) (c e0 c2 e2 : Nat) (xs ys us vs : List Nat) (N D K : Int) (C : ∀ (V : World), Raw V A c xs → Raw V B e0 ys → Raw V A2 c2 us → Raw V B2 e2 vs → Calls Tryz.prog 55 #[.agg #[.bool n1, .slice A xs.length c, .bool n2, .slice B ys.length e0], .agg #[.bool n3, .slice A2 us.length c2, .bool n4, .slice B2 vs.length e2]] V (RetFracOwn2 V.heap.size V N D K)) (w : World) (hx : Raw w A c xs) (kx : Raw w B e0 ys) (hy : Raw w A2 c2 us) (ky : Raw w B2 e2 vs) :
    Calls Tryz.prog 28 #[.int .i64 1, .agg #[.bool n1, .slice A xs.length c, .bool n2, .slice B ys.length e0], .agg #[.bool n3, .slice A2 us.length c2, .bool n4, .slice B2 vs.length e2]] w (RetFracOwn2 w.heap.size w N D K) := by
  have H2 := Hd C
  clear C
  have b0 := ((((Below.refl w.heap.size w).alloc (Nat.le_refl _) (.cells #[.bool n1, .slice A xs.length c, .bool n2, .slice B ys.length e0] 30)).alloc (by simp) (.cells #[.bool n3, .slice A2 us.length c2, .bool n4, .slice B2 vs.length e2] 30)).alloc (by simp; omega) (.cells #[.bool false, .slice none 0 0, .bool false, .slice none 0 0] 30))
  have p0 := ((Quad.new w (.bool n1) (.slice A xs.length c) (.bool n2) (.slice B ys.length e0)).alloc (.cells #[.bool n3, .slice A2 us.length c2, .bool n4, .slice B2 vs.length e2] 30)).alloc (.cells #[.bool false, .slice none 0 0, .bool false, .slice none 0 0] 30)
  have p1 := (Quad.new (w.alloc (.cells #[.bool n1, .slice A xs.length c, .bool n2, .slice B ys.length e0] 30)) (.bool n3) (.slice A2 us.length c2) (.bool n4) (.slice B2 vs.length e2)).alloc (.cells #[.bool false, .slice none 0 0, .bool false, .slice none 0 0] 30)
  have p2 := Quad.new ((w.alloc (.cells #[.bool n1, .slice A xs.length c, .bool n2, .slice B ys.length e0] 30)).alloc (.cells #[.bool n3, .slice A2 us.length c2, .bool n4, .slice B2 vs.length e2] 30)) (.bool false) (.slice none 0 0) (.bool false) (.slice none 0 0)
  simp only [World.size_alloc] at p1 p2
  have PX := Hd p0
  have PY := Hd p1
  have PR := Hd p2
  have RX := Hd (hx.below b0)
  have KX := Hd (kx.below b0)
  have RY := Hd (hy.below b0)
  have KY := Hd (ky.below b0)
  have HB := Hd b0
  clear b0 p0 p1 p2 hx kx hy ky
  go_enter Tryz.func28, Tryz.ntmps28
  obtain ⟨W, E⟩ : ∃ W, W = (((w.alloc (.cells #[.bool n1, .slice A xs.length c, .bool n2, .slice B ys.length e0] 30)).alloc (.cells #[.bool n3, .slice A2 us.length c2, .bool n4, .slice B2 vs.length e2] 30)).alloc (.cells #[.bool false, .slice none 0 0, .bool false, .slice none 0 0] 30)) := ⟨_, rfl⟩
  go_upto_region 1 with fail
  rw [← E] at PX PY PR RX KX RY KY  HB ⊢
  clear E
  have HS0 := Hd (show w.heap.size ≤ W.heap.size from HB.out.size)
  obtain ⟨l_x, x0, x1, x2, x3, -, -, -, -⟩ := PX.out.facts
  obtain ⟨l_y, y0, y1, y2, y3, -, -, -, -⟩ := PY.out.facts
  go_wp2_with fail
  refine (H2.out W RX.out KX.out RY.out KY.out).mono ?_
  rintro e wx1 ⟨v, rfl, hI, hb⟩
  clear l_x x0 x1 x2 x3
  clear l_y y0 y1 y2 y3
  obtain ⟨A8, c8, B8, e8, rfl, -⟩ := hI.form
  have O8 := Hd hI
  clear hI
  have HS_wx1 := Hd (show W.heap.size ≤ wx1.heap.size from hb.size)
  have PX := Hd (PX.out.below hb)
  have PY := Hd (PY.out.below hb)
  have PR := Hd (PR.out.below hb)
  have RX := Hd (RX.out.below hb)
  have KX := Hd (KX.out.below hb)
  have RY := Hd (RY.out.below hb)
  have KY := Hd (KY.out.below hb)
  have HB := Hd (belowTo HB.out hb)
  obtain ⟨l_r, r0, r1, r2, r3, fr0, fr1, fr2, fr3⟩ := PR.out.facts
  have HQ := Hd (PR.out.store (.bool (decide (N < 0))) (.slice A8 (natL N.natAbs).length c8) (.bool (decide (D < 0))) (.slice B8 (natL D.natAbs).length e8))
  have HF := Hd (below4 HB.out (show w.heap.size ≤ w.heap.size + 1 + 1 by omega) (.bool (decide (N < 0))) (.slice A8 (natL N.natAbs).length c8) (.bool (decide (D < 0))) (.slice B8 (natL D.natAbs).length e8))
  have HO := Hd (O8.out.quad PR.out (.bool (decide (N < 0))) (.slice A8 (natL N.natAbs).length c8) (.bool (decide (D < 0))) (.slice B8 (natL D.natAbs).length e8))
  go_wp2_with fail
  obtain ⟨_, k0, k1, k2, k3, _⟩ := HQ.out.facts
  exact bodyPost_ret (by simp [results, Tryz.results28, go_sem, k0, k1, k2, k3]) rfl ⟨_, rfl, HO.out.base HS0.out, HF.out⟩

theorem ldo_2 (n1 n2 n3 n4 : Bool) (A B A2 B2 : Option Addr) (c e0 c2 e2 : Nat) (xs ys us vs : List Nat) (N D K : Int) (C : ∀ (V : World), Raw V A c xs → Raw V B e0 ys → Raw V A2 c2 us → Raw V B2 e2 vs → Calls Tryz.prog 54 #[.agg #[.bool n1, .slice A xs.length c, .bool n2, .slice B ys.length e0], .agg #[.bool n3, .slice A2 us.length c2, .bool n4, .slice B2 vs.length e2]] V (RetFracOwn2 V.heap.size V N D K)) (w : World) (hx : Raw w A c xs) (kx : Raw w B e0 ys) (hy : Raw w A2 c2 us) (ky : Raw w B2 e2 vs) :
    Calls Tryz.prog 28 #[.int .i64 2, .agg #[.bool n1, .slice A xs.length c, .bool n2, .slice B ys.length e0], .agg #[.bool n3, .slice A2 us.length c2, .bool n4, .slice B2 vs.length e2]] w (RetFracOwn2 w.heap.size w N D K) := by
  have H2 := Hd C
  clear C
  have b0 := ((((Below.refl w.heap.size w).alloc (Nat.le_refl _) (.cells #[.bool n1, .slice A xs.length c, .bool n2, .slice B ys.length e0] 30)).alloc (by simp) (.cells #[.bool n3, .slice A2 us.length c2, .bool n4, .slice B2 vs.length e2] 30)).alloc (by simp; omega) (.cells #[.bool false, .slice none 0 0, .bool false, .slice none 0 0] 30))
  have p0 := ((Quad.new w (.bool n1) (.slice A xs.length c) (.bool n2) (.slice B ys.length e0)).alloc (.cells #[.bool n3, .slice A2 us.length c2, .bool n4, .slice B2 vs.length e2] 30)).alloc (.cells #[.bool false, .slice none 0 0, .bool false, .slice none 0 0] 30)
  have p1 := (Quad.new (w.alloc (.cells #[.bool n1, .slice A xs.length c, .bool n2, .slice B ys.length e0] 30)) (.bool n3) (.slice A2 us.length c2) (.bool n4) (.slice B2 vs.length e2)).alloc (.cells #[.bool false, .slice none 0 0, .bool false, .slice none 0 0] 30)
  have p2 := Quad.new ((w.alloc (.cells #[.bool n1, .slice A xs.length c, .bool n2, .slice B ys.length e0] 30)).alloc (.cells #[.bool n3, .slice A2 us.length c2, .bool n4, .slice B2 vs.length e2] 30)) (.bool false) (.slice none 0 0) (.bool false) (.slice none 0 0)
  simp only [World.size_alloc] at p1 p2
  have PX := Hd p0
  have PY := Hd p1
  have PR := Hd p2
  have RX := Hd (hx.below b0)
  have KX := Hd (kx.below b0)
  have RY := Hd (hy.below b0)
  have KY := Hd (ky.below b0)
  have HB := Hd b0
  clear b0 p0 p1 p2 hx kx hy ky
  go_enter Tryz.func28, Tryz.ntmps28
  obtain ⟨W, E⟩ : ∃ W, W = (((w.alloc (.cells #[.bool n1, .slice A xs.length c, .bool n2, .slice B ys.length e0] 30)).alloc (.cells #[.bool n3, .slice A2 us.length c2, .bool n4, .slice B2 vs.length e2] 30)).alloc (.cells #[.bool false, .slice none 0 0, .bool false, .slice none 0 0] 30)) := ⟨_, rfl⟩
  go_upto_region 1 with fail
  rw [← E] at PX PY PR RX KX RY KY  HB ⊢
  clear E
  have HS0 := Hd (show w.heap.size ≤ W.heap.size from HB.out.size)
  obtain ⟨l_x, x0, x1, x2, x3, -, -, -, -⟩ := PX.out.facts
  obtain ⟨l_y, y0, y1, y2, y3, -, -, -, -⟩ := PY.out.facts
  go_wp2_with fail
  refine (H2.out W RX.out KX.out RY.out KY.out).mono ?_
  rintro e wx1 ⟨v, rfl, hI, hb⟩
  clear l_x x0 x1 x2 x3
  clear l_y y0 y1 y2 y3
  obtain ⟨A8, c8, B8, e8, rfl, -⟩ := hI.form
  have O8 := Hd hI
  clear hI
  have HS_wx1 := Hd (show W.heap.size ≤ wx1.heap.size from hb.size)
  have PX := Hd (PX.out.below hb)
  have PY := Hd (PY.out.below hb)
  have PR := Hd (PR.out.below hb)
  have RX := Hd (RX.out.below hb)
  have KX := Hd (KX.out.below hb)
  have RY := Hd (RY.out.below hb)
  have KY := Hd (KY.out.below hb)
  have HB := Hd (belowTo HB.out hb)
  obtain ⟨l_r, r0, r1, r2, r3, fr0, fr1, fr2, fr3⟩ := PR.out.facts
  have HQ := Hd (PR.out.store (.bool (decide (N < 0))) (.slice A8 (natL N.natAbs).length c8) (.bool (decide (D < 0))) (.slice B8 (natL D.natAbs).length e8))
  have HF := Hd (below4 HB.out (show w.heap.size ≤ w.heap.size + 1 + 1 by omega) (.bool (decide (N < 0))) (.slice A8 (natL N.natAbs).length c8) (.bool (decide (D < 0))) (.slice B8 (natL D.natAbs).length e8))
  have HO := Hd (O8.out.quad PR.out (.bool (decide (N < 0))) (.slice A8 (natL N.natAbs).length c8) (.bool (decide (D < 0))) (.slice B8 (natL D.natAbs).length e8))
  go_wp2_with fail
  obtain ⟨_, k0, k1, k2, k3, _⟩ := HQ.out.facts
  exact bodyPost_ret (by simp [results, Tryz.results28, go_sem, k0, k1, k2, k3]) rfl ⟨_, rfl, HO.out.base HS0.out, HF.out⟩

theorem ldo_3 (n1 n2 n3 n4 : Bool) (A B A2 B2 : Option Addr) (c e0 c2 e2 : Nat) (xs ys us vs : List Nat) (N D K : Int) (C : ∀ (V : World), Raw V A c xs → Raw V B e0 ys → Raw V A2 c2 us → Raw V B2 e2 vs → Calls Tryz.prog 57 #[.agg #[.bool n1, .slice A xs.length c, .bool n2, .slice B ys.length e0], .agg #[.bool n3, .slice A2 us.length c2, .bool n4, .slice B2 vs.length e2]] V (RetFracOwn2 V.heap.size V N D K)) (w : World) (hx : Raw w A c xs) (kx : Raw w B e0 ys) (hy : Raw w A2 c2 us) (ky : Raw w B2 e2 vs) :
    Calls Tryz.prog 28 #[.int .i64 3, .agg #[.bool n1, .slice A xs.length c, .bool n2, .slice B ys.length e0], .agg #[.bool n3, .slice A2 us.length c2, .bool n4, .slice B2 vs.length e2]] w (RetFracOwn2 w.heap.size w N D K) := by
  have H2 := Hd C
  clear C
  have b0 := ((((Below.refl w.heap.size w).alloc (Nat.le_refl _) (.cells #[.bool n1, .slice A xs.length c, .bool n2, .slice B ys.length e0] 30)).alloc (by simp) (.cells #[.bool n3, .slice A2 us.length c2, .bool n4, .slice B2 vs.length e2] 30)).alloc (by simp; omega) (.cells #[.bool false, .slice none 0 0, .bool false, .slice none 0 0] 30))
  have p0 := ((Quad.new w (.bool n1) (.slice A xs.length c) (.bool n2) (.slice B ys.length e0)).alloc (.cells #[.bool n3, .slice A2 us.length c2, .bool n4, .slice B2 vs.length e2] 30)).alloc (.cells #[.bool false, .slice none 0 0, .bool false, .slice none 0 0] 30)
  have p1 := (Quad.new (w.alloc (.cells #[.bool n1, .slice A xs.length c, .bool n2, .slice B ys.length e0] 30)) (.bool n3) (.slice A2 us.length c2) (.bool n4) (.slice B2 vs.length e2)).alloc (.cells #[.bool false, .slice none 0 0, .bool false, .slice none 0 0] 30)
  have p2 := Quad.new ((w.alloc (.cells #[.bool n1, .slice A xs.length c, .bool n2, .slice B ys.length e0] 30)).alloc (.cells #[.bool n3, .slice A2 us.length c2, .bool n4, .slice B2 vs.length e2] 30)) (.bool false) (.slice none 0 0) (.bool false) (.slice none 0 0)
  simp only [World.size_alloc] at p1 p2
  have PX := Hd p0
  have PY := Hd p1
  have PR := Hd p2
  have RX := Hd (hx.below b0)
  have KX := Hd (kx.below b0)
  have RY := Hd (hy.below b0)
  have KY := Hd (ky.below b0)
  have HB := Hd b0
  clear b0 p0 p1 p2 hx kx hy ky
  go_enter Tryz.func28, Tryz.ntmps28
  obtain ⟨W, E⟩ : ∃ W, W = (((w.alloc (.cells #[.bool n1, .slice A xs.length c, .bool n2, .slice B ys.length e0] 30)).alloc (.cells #[.bool n3, .slice A2 us.length c2, .bool n4, .slice B2 vs.length e2] 30)).alloc (.cells #[.bool false, .slice none 0 0, .bool false, .slice none 0 0] 30)) := ⟨_, rfl⟩
  go_upto_region 1 with fail
  rw [← E] at PX PY PR RX KX RY KY  HB ⊢
  clear E
  have HS0 := Hd (show w.heap.size ≤ W.heap.size from HB.out.size)
  obtain ⟨l_x, x0, x1, x2, x3, -, -, -, -⟩ := PX.out.facts
  obtain ⟨l_y, y0, y1, y2, y3, -, -, -, -⟩ := PY.out.facts
  go_wp2_with fail
  refine (H2.out W RX.out KX.out RY.out KY.out).mono ?_
  rintro e wx1 ⟨v, rfl, hI, hb⟩
  clear l_x x0 x1 x2 x3
  clear l_y y0 y1 y2 y3
  obtain ⟨A8, c8, B8, e8, rfl, -⟩ := hI.form
  have O8 := Hd hI
  clear hI
  have HS_wx1 := Hd (show W.heap.size ≤ wx1.heap.size from hb.size)
  have PX := Hd (PX.out.below hb)
  have PY := Hd (PY.out.below hb)
  have PR := Hd (PR.out.below hb)
  have RX := Hd (RX.out.below hb)
  have KX := Hd (KX.out.below hb)
  have RY := Hd (RY.out.below hb)
  have KY := Hd (KY.out.below hb)
  have HB := Hd (belowTo HB.out hb)
  obtain ⟨l_r, r0, r1, r2, r3, fr0, fr1, fr2, fr3⟩ := PR.out.facts
  have HQ := Hd (PR.out.store (.bool (decide (N < 0))) (.slice A8 (natL N.natAbs).length c8) (.bool (decide (D < 0))) (.slice B8 (natL D.natAbs).length e8))
  have HF := Hd (below4 HB.out (show w.heap.size ≤ w.heap.size + 1 + 1 by omega) (.bool (decide (N < 0))) (.slice A8 (natL N.natAbs).length c8) (.bool (decide (D < 0))) (.slice B8 (natL D.natAbs).length e8))
  have HO := Hd (O8.out.quad PR.out (.bool (decide (N < 0))) (.slice A8 (natL N.natAbs).length c8) (.bool (decide (D < 0))) (.slice B8 (natL D.natAbs).length e8))
  go_wp2_with fail
  obtain ⟨_, k0, k1, k2, k3, _⟩ := HQ.out.facts
  exact bodyPost_ret (by simp [results, Tryz.results28, go_sem, k0, k1, k2, k3]) rfl ⟨_, rfl, HO.out.base HS0.out, HF.out⟩

theorem ops_spec (op : Nat) (hop : op < 4) (n1 n2 n3 n4 : Bool) (xs ys us vs : List Nat) (hx : Limbs xs) (hy : Limbs ys) (hu : Limbs us) (hv : Limbs vs) : ∃ N D K : Int, lz N ≤ 2048 ∧ lz D ≤ 2048 ∧
    (∀ (V : World) (A B A2 B2 : Option Addr) (c e0 c2 e2 : Nat), Raw V A c xs → Raw V B e0 ys → Raw V A2 c2 us → Raw V B2 e2 vs → Calls Tryz.prog 28 #[.int .i64 op, .agg #[.bool n1, .slice A xs.length c, .bool n2, .slice B ys.length e0], .agg #[.bool n3, .slice A2 us.length c2, .bool n4, .slice B2 vs.length e2]] V (RetFracOwn2 V.heap.size V N D K)) ∧
    (∀ (V : World) (A B A2 B2 : Option Addr) (c e0 c2 e2 : Nat), Raw V A c xs → Raw V B e0 ys → Raw V A2 c2 us → Raw V B2 e2 vs → Calls Tryz.prog 29 #[.int .i64 op, .agg #[.bool n1, .slice A xs.length c, .bool n2, .slice B ys.length e0], .agg #[.bool n3, .slice A2 us.length c2, .bool n4, .slice B2 vs.length e2]] V (RetFrac2 V N D K)) := by
  cases hc : (chkE n1 n2 xs ys == 0 && chkE n3 n4 us vs == 0) with
  | false =>
    refine ⟨0, 0, 1, by decide, by decide, fun V A B A2 B2 c e0 c2 e2 h1 h2 h3 h4 => ?_, fun V A B A2 B2 c e0 c2 e2 h1 h2 h3 h4 => ref02_Do_bad op n1 n2 n3 n4 A B A2 B2 c e0 c2 e2 xs ys us vs V h1 h2 h3 h4 hc⟩
    rcases (by omega : op = 0 ∨ op = 1 ∨ op = 2 ∨ op = 3) with rfl | rfl | rfl | rfl
    · exact ldo_0 n1 n2 n3 n4 A B A2 B2 c e0 c2 e2 xs ys us vs 0 0 1 (fun V a1 a2 a3 a4 => frac_Add_bad n1 n2 n3 n4 A B A2 B2 c e0 c2 e2 xs ys us vs V a1 a2 a3 a4 hc) V h1 h2 h3 h4
    · exact ldo_1 n1 n2 n3 n4 A B A2 B2 c e0 c2 e2 xs ys us vs 0 0 1 (fun V a1 a2 a3 a4 => frac_Sub_bad n1 n2 n3 n4 A B A2 B2 c e0 c2 e2 xs ys us vs V a1 a2 a3 a4 hc) V h1 h2 h3 h4
    · exact ldo_2 n1 n2 n3 n4 A B A2 B2 c e0 c2 e2 xs ys us vs 0 0 1 (fun V a1 a2 a3 a4 => frac_Mul_bad n1 n2 n3 n4 A B A2 B2 c e0 c2 e2 xs ys us vs V a1 a2 a3 a4 hc) V h1 h2 h3 h4
    · exact ldo_3 n1 n2 n3 n4 A B A2 B2 c e0 c2 e2 xs ys us vs 0 0 1 (fun V a1 a2 a3 a4 => frac_Quo_bad n1 n2 n3 n4 A B A2 B2 c e0 c2 e2 xs ys us vs V a1 a2 a3 a4 hc) V h1 h2 h3 h4
  | true =>
    rw [Bool.and_eq_true] at hc
    obtain ⟨n, d, f1, rfl, rfl, rfl, rfl⟩ := fine_of hx hy (by simpa using hc.1)
    obtain ⟨m, f, f2, rfl, rfl, rfl, rfl⟩ := fine_of hu hv (by simpa using hc.2)
    rcases (by omega : op = 0 ∨ op = 1 ∨ op = 2 ∨ op = 3) with rfl | rfl | rfl | rfl
    · exact ⟨_, _, _, (ans_lz _ _).1, (ans_lz _ _).2, fun V A B A2 B2 c e0 c2 e2 h1 h2 h3 h4 => ldo_0 (decide (n < 0)) (decide (d < 0)) (decide (m < 0)) (decide (f < 0)) A B A2 B2 c e0 c2 e2 _ _ _ _ _ _ _ (fun V a1 a2 a3 a4 => frac_Add_good n d m f A B A2 B2 c e0 c2 e2 V a1 a2 a3 a4 f1 f2) V h1 h2 h3 h4, fun V A B A2 B2 c e0 c2 e2 h1 h2 h3 h4 => ref02_Do_0 n d m f A B A2 B2 c e0 c2 e2 V h1 h2 h3 h4 f1 f2⟩
    · exact ⟨_, _, _, (ans_lz _ _).1, (ans_lz _ _).2, fun V A B A2 B2 c e0 c2 e2 h1 h2 h3 h4 => ldo_1 (decide (n < 0)) (decide (d < 0)) (decide (m < 0)) (decide (f < 0)) A B A2 B2 c e0 c2 e2 _ _ _ _ _ _ _ (fun V a1 a2 a3 a4 => frac_Sub_good n d m f A B A2 B2 c e0 c2 e2 V a1 a2 a3 a4 f1 f2) V h1 h2 h3 h4, fun V A B A2 B2 c e0 c2 e2 h1 h2 h3 h4 => ref02_Do_1 n d m f A B A2 B2 c e0 c2 e2 V h1 h2 h3 h4 f1 f2⟩
    · exact ⟨_, _, _, (ans_lz _ _).1, (ans_lz _ _).2, fun V A B A2 B2 c e0 c2 e2 h1 h2 h3 h4 => ldo_2 (decide (n < 0)) (decide (d < 0)) (decide (m < 0)) (decide (f < 0)) A B A2 B2 c e0 c2 e2 _ _ _ _ _ _ _ (fun V a1 a2 a3 a4 => frac_Mul_good n d m f A B A2 B2 c e0 c2 e2 V a1 a2 a3 a4 f1 f2) V h1 h2 h3 h4, fun V A B A2 B2 c e0 c2 e2 h1 h2 h3 h4 => ref02_Do_2 n d m f A B A2 B2 c e0 c2 e2 V h1 h2 h3 h4 f1 f2⟩
    · by_cases hm0 : m = 0
      · exact ⟨0, 0, 3, by decide, by decide, fun V A B A2 B2 c e0 c2 e2 h1 h2 h3 h4 => ldo_3 (decide (n < 0)) (decide (d < 0)) (decide (m < 0)) (decide (f < 0)) A B A2 B2 c e0 c2 e2 _ _ _ _ _ _ _ (fun V a1 a2 a3 a4 => frac_Quo_nought n d m f A B A2 B2 c e0 c2 e2 V a1 a2 a3 a4 f1 f2 hm0) V h1 h2 h3 h4, fun V A B A2 B2 c e0 c2 e2 h1 h2 h3 h4 => ref02_Do_nought n d m f A B A2 B2 c e0 c2 e2 V h1 h2 h3 h4 f1 f2 hm0⟩
      · exact ⟨_, _, _, (ans_lz _ _).1, (ans_lz _ _).2, fun V A B A2 B2 c e0 c2 e2 h1 h2 h3 h4 => ldo_3 (decide (n < 0)) (decide (d < 0)) (decide (m < 0)) (decide (f < 0)) A B A2 B2 c e0 c2 e2 _ _ _ _ _ _ _ (fun V a1 a2 a3 a4 => frac_Quo_good n d m f A B A2 B2 c e0 c2 e2 V a1 a2 a3 a4 f1 f2 hm0) V h1 h2 h3 h4, fun V A B A2 B2 c e0 c2 e2 h1 h2 h3 h4 => ref02_Do_3 n d m f A B A2 B2 c e0 c2 e2 V h1 h2 h3 h4 f1 f2 hm0⟩
/- lives of the laws of chapter 02: the answers that the document fixes. (Written by wip/frac/genlives3.py.) -/

theorem frac_Make_ours (n d : Int) (A B : Option Addr) (c e0 : Nat) (w : World) (h : Raw w A c (natL n.natAbs)) (g : Raw w B e0 (natL d.natAbs)) (o1 : IntOwn w 0 (.agg #[.bool (decide (n < 0)), .slice A (natL n.natAbs).length c]) n) (o2 : IntOwn w 0 (.agg #[.bool (decide (d < 0)), .slice B (natL d.natAbs).length e0]) d) (hn : Fit n) (hd : Fit d) (hd0 : d ≠ 0) :
    Calls Tryz.prog 15 #[.agg #[.bool (decide (n < 0)), .slice A (natL n.natAbs).length c], .agg #[.bool (decide (d < 0)), .slice B (natL d.natAbs).length e0]] w (RetFracOwn2 w.heap.size w (lowN n d) (lowD n d) 0) := by
  have C1 := fun (V : World) (h : Raw V A c (natL n.natAbs)) => exact_Check_any (decide (n < 0)) A c _ V h
  have C2 := fun (V : World) (h : Raw V B e0 (natL d.natAbs)) => exact_Check_any (decide (d < 0)) B e0 _ V h
  unfold errI at C1 C2
  rw [if_pos hn.ok] at C1
  rw [if_pos hd.ok] at C2
  have hln : lz n ≤ 2048 := hn
  have hld : lz d ≤ 2048 := hd
  obtain ⟨s, hs⟩ : ∃ k : Int, k = d.sign := ⟨_, rfl⟩
  have C3 := fun (V : World) (h : Raw V B e0 (natL d.natAbs)) => esign d s B e0 V h hs
  have C4 := fun (V : World) (o1 : IntOwn V 0 (.agg #[.bool (decide (n < 0)), .slice A (natL n.natAbs).length c]) n) (o2 : IntOwn V 0 (.agg #[.bool (decide (d < 0)), .slice B (natL d.natAbs).length e0]) d) => elow n d A B c e0 V o1.rawAt o2.rawAt o1 o2 (by omega) (by omega) hd0
  have hl1 : lz (lowN n d) ≤ 2048 := Nat.le_trans (lowN_lz n d) hln
  have hl2 : lz (lowD n d) ≤ 2048 := Nat.le_trans (lowD_lz n d) hld
  have C5 := fun (V : World) (A' B' : Option Addr) (c' e' : Nat) (h : Raw V A' c' (natL (lowN n d).natAbs)) (g : Raw V B' e' (natL (lowD n d).natAbs)) => frac_answered_fits (lowN n d) (lowD n d) A' B' c' e' V h g hl1 hl2
  obtain ⟨p, hp⟩ : ∃ k : Int, k = lowN n d := ⟨_, rfl⟩
  obtain ⟨q, hq⟩ : ∃ k : Int, k = lowD n d := ⟨_, rfl⟩
  rw [← hp, ← hq] at C4 C5 ⊢
  have H1 := Hd C1
  have H2 := Hd C2
  have H3 := Hd C3
  have H4 := Hd C4
  have H5 := Hd C5
  have hs1 : decide (s = 0) = false := decide_eq_false (by rw [hs]; intro e; exact hd0 (Int.sign_eq_zero_iff_zero.1 e))
  have hs0 : (s == 0) = false := by simpa using hs1
  clear C1 C2 C3 C4 C5 hn hd hd0 hs hln hld hl1 hl2 hp hq
  have px := ((Pair.new w 24 (.bool (decide (n < 0))) (.slice A (natL n.natAbs).length c)).alloc (.cells #[.bool (decide (d < 0)), .slice B (natL d.natAbs).length e0] 24)).alloc (.cells #[.bool false, .slice none 0 0, .bool false, .slice none 0 0] 30)
  have py := (Pair.new (w.alloc (.cells #[.bool (decide (n < 0)), .slice A (natL n.natAbs).length c] 24)) 24 (.bool (decide (d < 0))) (.slice B (natL d.natAbs).length e0)).alloc (.cells #[.bool false, .slice none 0 0, .bool false, .slice none 0 0] 30)
  have pr := Quad.new ((w.alloc (.cells #[.bool (decide (n < 0)), .slice A (natL n.natAbs).length c] 24)).alloc (.cells #[.bool (decide (d < 0)), .slice B (natL d.natAbs).length e0] 24)) (.bool false) (.slice none 0 0) (.bool false) (.slice none 0 0)
  have b0 := (((Below.refl w.heap.size w).alloc (Nat.le_refl _) (.cells #[.bool (decide (n < 0)), .slice A (natL n.natAbs).length c] 24)).alloc (by simp) (.cells #[.bool (decide (d < 0)), .slice B (natL d.natAbs).length e0] 24)).alloc (by simp; omega) (.cells #[.bool false, .slice none 0 0, .bool false, .slice none 0 0] 30)
  simp only [World.size_alloc] at py pr
  have OX := Hd (o1.below b0)
  have OY := Hd (o2.below b0)
  have h1 := h.below b0
  have g1 := g.below b0
  have PX := Hd px
  have PY := Hd py
  have PR := Hd pr
  have B0 := Hd b0
  have RX := Hd h1
  have RY := Hd g1
  clear px py pr b0 h g h1 g1 o1 o2
  go_enter Tryz.func15, Tryz.ntmps15
  go_wp2_with fail
  obtain ⟨W, E⟩ : ∃ W, W = ((w.alloc (.cells #[.bool (decide (n < 0)), .slice A (natL n.natAbs).length c] 24)).alloc (.cells #[.bool (decide (d < 0)), .slice B (natL d.natAbs).length e0] 24)).alloc (.cells #[.bool false, .slice none 0 0, .bool false, .slice none 0 0] 30) := ⟨_, rfl⟩
  rw [← E] at PX PY PR B0 RX RY OX OY ⊢
  clear E
  have T0 := Below.refl W.heap.size W
  obtain ⟨l0, x0, x1, -, -⟩ := (PX.out.below T0).facts
  obtain ⟨m0, y0, y1, -, -⟩ := (PY.out.below T0).facts
  go_wp2_with fail
  refine (H1.out _ (RX.out.below T0)).mono ?_
  rintro e w1 ⟨rfl, h⟩
  have T1 := belowTo T0 h
  clear h x0 x1 y0 y1 l0 m0
  obtain ⟨l1, x0, x1, -, -⟩ := (PX.out.below T1).facts
  obtain ⟨m1, y0, y1, -, -⟩ := (PY.out.below T1).facts
  go_wp2_with fail
  refine (H2.out _ (RY.out.below T1)).mono ?_
  rintro e w2 ⟨rfl, h⟩
  have T2 := belowTo T1 h
  clear h x0 x1 y0 y1 l1 m1
  obtain ⟨l2, x0, x1, -, -⟩ := (PX.out.below T2).facts
  obtain ⟨m2, y0, y1, -, -⟩ := (PY.out.below T2).facts
  go_wp2_with fail
  refine (H3.out _ (RY.out.below T2)).mono ?_
  rintro e w3 ⟨rfl, h⟩
  have T3 := belowTo T2 h
  clear h x0 x1 y0 y1 l2 m2
  obtain ⟨l3, x0, x1, -, -⟩ := (PX.out.below T3).facts
  obtain ⟨m3, y0, y1, -, -⟩ := (PY.out.below T3).facts
  go_wp2_with fail
  refine (H4.out _ (OX.out.below T3) (OY.out.below T3)).mono ?_
  rintro e w4 ⟨v, rfl, hF, h⟩
  have T4 := belowTo T3 h
  clear h x0 x1 y0 y1 l3 m3
  obtain ⟨A', c', B', e', rfl, r1, r2⟩ := hF.at_.form
  clear hF
  go_wp2_with fail
  refine (H5.out _ A' B' c' e' r1 r2).mono ?_
  rintro e w5 ⟨v, rfl, hI, h⟩
  have T5 := belowTo T4 h
  have pr2 := PR.out.below T5
  have BB := belowTo B0.out T5
  have hsz := belowTo B0.out T4
  obtain ⟨A1, c1, A2, c2, rfl, -⟩ := hI.form
  obtain ⟨l5, z0, z1, z2, z3, f0, f1, f2, f3⟩ := pr2.facts
  clear r1 r2 h
  go_wp2_with fail
  have hq := pr2.store (.bool (decide (p < 0))) (.slice A1 (natL p.natAbs).length c1) (.bool (decide (q < 0))) (.slice A2 (natL q.natAbs).length c2)
  obtain ⟨_, k0, k1, k2, k3, _⟩ := hq.facts
  have hs9 := hsz.size
  exact bodyPost_ret (by simp [results, Tryz.results15, go_sem, k0, k1, k2, k3]) rfl ⟨_, rfl, (hI.quad pr2 _ _ _ _).base hs9, below4 BB (by omega) _ _ _ _⟩

theorem frac_Make_oz (n d : Int) (A B : Option Addr) (c e0 : Nat) (w : World) (h : Raw w A c (natL n.natAbs)) (g : Raw w B e0 (natL d.natAbs)) (o1 : IntOwn w 0 (.agg #[.bool (decide (n < 0)), .slice A (natL n.natAbs).length c]) n) (o2 : IntOwn w 0 (.agg #[.bool (decide (d < 0)), .slice B (natL d.natAbs).length e0]) d) (hn : Fit n) (hd : Fit d) :
    Calls Tryz.prog 15 #[.agg #[.bool (decide (n < 0)), .slice A (natL n.natAbs).length c], .agg #[.bool (decide (d < 0)), .slice B (natL d.natAbs).length e0]] w (RetFracOwn2 w.heap.size w (zN n d) (zD n d) (zE d)) := by
  unfold zN zD zE
  by_cases hy : d = 0
  · simp only [if_pos hy]
    exact frac_Make_nought n d A B c e0 w h g hn hd hy
  · simp only [if_neg hy]
    exact frac_Make_ours n d A B c e0 w h g o1 o2 hn hd hy

theorem frac_Of_ours (n d : Int) (n1 : -9223372036854775808 ≤ n) (n2 : n ≤ 9223372036854775807) (d1 : -9223372036854775808 ≤ d) (d2 : d ≤ 9223372036854775807) (w : World) :
    Calls Tryz.prog 17 #[.int .i64 n, .int .i64 d] w (RetFracOwn2 w.heap.size w (zN n d) (zD n d) (zE d)) := by
  have fn : Fit n := (okI_true.1 (ok64' n n1 n2)).1
  have fd : Fit d := (okI_true.1 (ok64' d d1 d2)).1
  have C3 := fun (V : World) (A B : Option Addr) (c e0 : Nat) (h : Raw V A c (natL n.natAbs)) (g : Raw V B e0 (natL d.natAbs)) (o1 : IntOwn V 0 (.agg #[.bool (decide (n < 0)), .slice A (natL n.natAbs).length c]) n) (o2 : IntOwn V 0 (.agg #[.bool (decide (d < 0)), .slice B (natL d.natAbs).length e0]) d) => frac_Make_oz n d A B c e0 V h g o1 o2 fn fd
  have C1 := fun (V : World) => eof n n rfl n1 n2 V
  have C2 := fun (V : World) => eof d d rfl d1 d2 V
  obtain ⟨p, hp⟩ : ∃ k : Int, k = zN n d := ⟨_, rfl⟩
  obtain ⟨q, hq⟩ : ∃ k : Int, k = zD n d := ⟨_, rfl⟩
  obtain ⟨k, hk⟩ : ∃ k : Int, k = zE d := ⟨_, rfl⟩
  rw [← hp, ← hq, ← hk] at C3 ⊢
  have H1 := Hd C1
  have H2 := Hd C2
  have H3 := Hd C3
  clear C1 C2 C3 fn fd n1 n2 d1 d2 hp hq hk
  have pr := Quad.new w (.bool false) (.slice none 0 0) (.bool false) (.slice none 0 0)
  have b0 := (Below.refl w.heap.size w).alloc (Nat.le_refl _) (.cells #[.bool false, .slice none 0 0, .bool false, .slice none 0 0] 30)
  have PR := Hd pr
  have B0 := Hd b0
  clear pr b0
  go_enter Tryz.func17, Tryz.ntmps17
  go_wp2_with fail
  refine (H1.out _).mono ?_
  rintro e w1 ⟨v, rfl, i1, h⟩
  have T1 := belowTo B0.out h
  have p1 := PR.out.below h
  obtain ⟨A, c, rfl, r1⟩ := i1.raw
  have o1 := Hd (i1.base (Nat.zero_le _))
  clear h i1
  go_wp2_with fail
  refine (H2.out _).mono ?_
  rintro e w2 ⟨v, rfl, i2, h⟩
  have T2 := belowTo T1 h
  have p2 := p1.below h
  obtain ⟨B, e0, rfl, r2⟩ := i2.raw
  have o1 := Hd (o1.out.below h)
  have o2 := Hd (i2.base (Nat.zero_le _))
  have r3 := r1.below h
  clear h i2 r1 p1 T1
  go_wp2_with fail
  refine (H3.out _ A B c e0 r3 r2 o1.out o2.out).mono ?_
  rintro e w3 ⟨v, rfl, hI, h⟩
  have T3 := belowTo T2 h
  have p3 := p2.below h
  have hsz := T2.size
  obtain ⟨A1, c1, A2, c2, rfl, -⟩ := hI.form
  obtain ⟨l5, z0, z1, z2, z3, f0, f1, f2, f3⟩ := p3.facts
  clear h r3 r2 p2 T2
  go_wp2_with fail
  have hq := p3.store (.bool (decide (p < 0))) (.slice A1 (natL p.natAbs).length c1) (.bool (decide (q < 0))) (.slice A2 (natL q.natAbs).length c2)
  obtain ⟨_, k0, k1, k2, k3, _⟩ := hq.facts
  exact bodyPost_ret (by simp [results, Tryz.results17, go_sem, k0, k1, k2, k3]) rfl ⟨_, rfl, (hI.quad p3 _ _ _ _).base hsz, below4 T3 (by omega) _ _ _ _⟩

theorem frac_text_same : (⟨#[45, 51, 47, 50]⟩ : ByteArray) = ⟨(fracText (-3) 2).toArray⟩ := by
  have h3 : Lib.itoa (-3) = [45, 51] := by
    rw [show (-3 : Int) = -((3 : Nat) : Int) from rfl, Lib.itoa_neg _ (by decide), Lib.decDigits_one (by omega)]; rfl
  have h2 : Lib.itoa 2 = [50] := by
    rw [show (2 : Int) = ((2 : Nat) : Int) from rfl, Lib.itoa_nonneg, Lib.decDigits_one (by omega)]; rfl
  unfold fracText
  rw [if_neg (by decide), h3, h2]
  rfl

theorem lives_ours (w : World) (htab : powTab w) :
    Calls Tryz.prog 25 #[] w fun e w' => e = .returned (.bool true) ∧ Below w.heap.size w w' := by
  have C1 := fun (V : World) => frac_Of_ours 6 (-4) (by decide) (by decide) (by decide) (by decide) V
  have C2 := fun (V : World) => frac_Of_ours 1 0 (by decide) (by decide) (by decide) (by decide) V
  rw [show zN 6 (-4) = -3 by decide +kernel, show zD 6 (-4) = 2 by decide +kernel, show zE (-4) = 0 by decide] at C1
  rw [show zN 1 0 = 0 by decide +kernel, show zD 1 0 = 0 by decide +kernel, show zE 0 = 3 by decide] at C2
  obtain ⟨n, hn⟩ : ∃ k : Int, k = -3 := ⟨_, rfl⟩
  obtain ⟨d, hd⟩ : ∃ k : Int, k = 2 := ⟨_, rfl⟩
  rw [← hn, ← hd] at C1
  obtain ⟨z, hz⟩ : ∃ k : Int, k = 0 := ⟨_, rfl⟩
  have C2 : ∀ V : World, Calls Tryz.prog 17 #[.int .i64 1, .int .i64 0] V (RetFracOwn2 V.heap.size V z z 3) := by rw [hz]; exact C2
  have fn : Fit n := Fit.small (by rw [hn]; decide)
  have fd : Fit d := Fit.small (by rw [hd]; decide)
  have hc : chkE (decide (n < 0)) (decide (d < 0)) (natL n.natAbs) (natL d.natAbs) = 0 := by
    unfold chkE mkOk
    rw [fn.ok, fd.ok, ival_at, ival_at, hn, hd]
    decide +kernel
  have C3 := fun (V : World) (A B : Option Addr) (c e0 : Nat) (h : Raw V A c (natL n.natAbs)) (g : Raw V B e0 (natL d.natAbs)) (ht : powTab V) => frac_Text_good n d ⟨#[45, 51, 47, 50]⟩ A B c e0 V h g ht fn fd hc (by rw [hn, hd]; exact frac_text_same) (by decide)
  have C4 := fun (V : World) (A B : Option Addr) (c e0 : Nat) (h : Raw V A c (natL n.natAbs)) (g : Raw V B e0 (natL d.natAbs)) => frac_Sign_good n d (-1) A B c e0 V h g hc (by rw [hn]; decide)
  have H1 := Hd C1
  have H2 := Hd C2
  have H3 := Hd C3
  have H4 := Hd C4
  have HT := Hd htab
  clear C1 C2 C3 C4 fn fd hc hn hd hz htab
  go_enter Tryz.func25, Tryz.ntmps25
  go_wp2_with fail
  refine (H1.out w).mono ?_
  rintro e w1 ⟨v, rfl, hI, h1⟩
  have T1 := Hd h1
  obtain ⟨A, c, B, e0, rfl, i1, i2, -⟩ := hI.form
  obtain ⟨gx, hgx⟩ : ∃ k, k = w1.heap.size := ⟨_, rfl⟩
  obtain ⟨W, E⟩ : ∃ W, W = w1.alloc (.cells #[.bool (decide (n < 0)), .slice A (natL n.natAbs).length c, .bool (decide (d < 0)), .slice B (natL d.natAbs).length e0] 30) := ⟨_, rfl⟩
  have px := Quad.new w1 (.bool (decide (n < 0))) (.slice A (natL n.natAbs).length c) (.bool (decide (d < 0))) (.slice B (natL d.natAbs).length e0)
  have r1 := i1.rawAt.alloc (.cells #[.bool (decide (n < 0)), .slice A (natL n.natAbs).length c, .bool (decide (d < 0)), .slice B (natL d.natAbs).length e0] 30)
  have r2 := i2.rawAt.alloc (.cells #[.bool (decide (n < 0)), .slice A (natL n.natAbs).length c, .bool (decide (d < 0)), .slice B (natL d.natAbs).length e0] 30)
  have T2 := T1.out.alloc T1.out.size (.cells #[.bool (decide (n < 0)), .slice A (natL n.natAbs).length c, .bool (decide (d < 0)), .slice B (natL d.natAbs).length e0] 30)
  clear hI i1 i2 h1
  go_upto_region 2 with fail
  rw [← E, ← hgx] at px ⊢
  rw [← E] at r1 r2 T2
  have PX := Hd px
  have R1 := Hd r1
  have R2 := Hd r2
  have T2 := Hd T2
  clear E hgx px r1 r2 T1
  go_wp2_with fail
  refine (H2.out W).mono ?_
  rintro e w2 ⟨v, rfl, hI, h2⟩
  obtain ⟨A9, c9, B9, e9, rfl, -⟩ := hI.form
  obtain ⟨Y, E⟩ : ∃ Y, Y = w2.alloc (.cells #[.bool (decide (z < 0)), .slice A9 (natL z.natAbs).length c9, .bool (decide (z < 0)), .slice B9 (natL z.natAbs).length e9] 30) := ⟨_, rfl⟩
  have h3 := h2.alloc h2.size (.cells #[.bool (decide (z < 0)), .slice A9 (natL z.natAbs).length c9, .bool (decide (z < 0)), .slice B9 (natL z.natAbs).length e9] 30)
  go_upto_region 3 with fail
  rw [← E] at h3 ⊢
  have PX := Hd (PX.out.below h3)
  have R1 := Hd (R1.out.below h3)
  have R2 := Hd (R2.out.below h3)
  have T3 := Hd (belowTo T2.out h3)
  have HT := Hd (HT.out.below2 T3.out)
  clear E hI h2 h3 T2
  obtain ⟨l_x, a_x, b_x, c_x, d_x, -, -, -, -⟩ := PX.out.facts
  go_wp2_with fail
  refine (H3.out Y A B c e0 R1.out R2.out HT.out).mono ?_
  rintro e w3 ⟨rfl, h4⟩
  have PX := Hd (PX.out.below h4)
  have R1 := Hd (R1.out.below h4)
  have R2 := Hd (R2.out.below h4)
  have T4 := Hd (belowTo T3.out h4)
  clear h4 T3 HT l_x a_x b_x c_x d_x
  obtain ⟨l_x, a_x, b_x, c_x, d_x, -, -, -, -⟩ := PX.out.facts
  go_wp2_with fail
  refine (H4.out w3 A B c e0 R1.out R2.out).mono ?_
  rintro e w4 ⟨rfl, h5⟩
  have HF := Hd (belowTo T4.out h5)
  clear h5 T4 l_x a_x b_x c_x d_x
  go_wp2_with fail
  go_ret
  exact ⟨rfl, HF.out⟩
/- Apart over a list of rows none of which lies in another's memory, wherever they lie. -/

structure RowsFree (w : World) (lo : Nat) (vs : List Value) : Prop where
  row : ∀ j, j < vs.length → ∃ n X, n ≤ 1073741824 ∧ w.ownsRow lo tLimb 1 (vs.getD j nilS) n X
  apart : ∀ j k, j < k → k < vs.length → ∀ g, (vs.getD j nilS).ownBlock = some g → (vs.getD k nilS).ownBlock ≠ some g
theorem RowsFree.nil (w : World) (lo : Nat) : RowsFree w lo [] := ⟨fun j hj => by simp at hj, fun j k _ hk => by simp at hk⟩
theorem RowsFree.below {w w' : World} {lo : Nat} {vs : List Value} (h : RowsFree w lo vs) (hb : Below w.heap.size w w') : RowsFree w' lo vs :=
  ⟨fun j hj => by obtain ⟨n, X, a1, a2⟩ := h.row j hj; exact ⟨n, X, a1, own_below a2 hb⟩, h.apart⟩
theorem RowsFree.snoc2 {w0 w : World} {lo n1 n2 : Nat} {vs : List Value} {v1 v2 : Value} {X1 X2 : List Value} (h : RowsFree w lo vs) (h0 : RowsFree w0 lo vs) (hlo : lo ≤ w0.heap.size) (hn1 : n1 ≤ 1073741824) (hn2 : n2 ≤ 1073741824) (h1 : w.ownsRow w0.heap.size tLimb 1 v1 n1 X1) (h2 : w.ownsRow w0.heap.size tLimb 1 v2 n2 X2)
    (hne : ∀ g, v1.ownBlock = some g → v2.ownBlock ≠ some g) : RowsFree w lo (vs ++ [v1, v2]) := by
  have base : ∀ {v : Value} {n : Nat} {X : List Value}, w.ownsRow w0.heap.size tLimb 1 v n X → w.ownsRow lo tLimb 1 v n X := fun {v n X} hv => by
    refine ⟨hv.1, ?_⟩
    rcases hv.2 with h5 | ⟨g, cap, cur, k1, k2, k3⟩
    · exact .inl h5
    · exact .inr ⟨g, cap, cur, k1, Nat.le_trans hlo k2, k3⟩
  have e0 : ∀ j, j < vs.length → (vs ++ [v1, v2]).getD j nilS = vs.getD j nilS := fun j hj => by
    simp [List.getD, List.getElem?_append_left hj]
  have e1 : (vs ++ [v1, v2]).getD vs.length nilS = v1 := by simp [List.getD]
  have e2 : (vs ++ [v1, v2]).getD (vs.length + 1) nilS = v2 := by simp [List.getD]
  have old : ∀ j, j < vs.length → ∀ g, (vs.getD j nilS).ownBlock = some g → g < w0.heap.size := fun j hj g hg => by
    obtain ⟨n, X, a1, a2⟩ := h0.row j hj
    exact (a2.lt g hg).2
  refine ⟨fun j hj => ?_, fun j k hjk hk g hg => ?_⟩
  · rw [List.length_append] at hj
    simp at hj
    rcases (by omega : j < vs.length ∨ j = vs.length ∨ j = vs.length + 1) with hl | rfl | rfl
    · rw [e0 j hl]; exact h.row j hl
    · rw [e1]; exact ⟨n1, X1, hn1, base h1⟩
    · rw [e2]; exact ⟨n2, X2, hn2, base h2⟩
  · rw [List.length_append] at hk
    simp at hk
    rcases (by omega : k < vs.length ∨ k = vs.length ∨ k = vs.length + 1) with hl | rfl | rfl
    · rw [e0 k hl]; rw [e0 j (by omega)] at hg; exact h.apart j k hjk hl g hg
    · rw [e0 j hjk] at hg
      rw [e1]
      intro h9
      have := old j hjk g hg
      have := (h1.lt g h9).1
      omega
    · rw [e2]
      rcases (by omega : j < vs.length ∨ j = vs.length) with hl | rfl
      · rw [e0 j hl] at hg
        intro h9
        have := old j hl g hg
        have := (h2.lt g h9).1
        omega
      · rw [e1] at hg; exact hne g hg
structure Far (b : Nat) (w V : World) : Prop where
  blk : ∀ g T cs, T ≠ tHeld → g ≠ b → Blk w g T cs → Blk V g T cs
theorem Far.refl (b : Nat) (w : World) : Far b w w := ⟨fun _ _ _ _ _ h => h⟩
theorem Far.trans {b : Nat} {w V X : World} (h : Far b w V) (k : Far b V X) : Far b w X := ⟨fun g T cs hT hg hb => k.blk g T cs hT hg (h.blk g T cs hT hg hb)⟩
theorem Far.of_below {b : Nat} {w V : World} (h : Below w.heap.size w V) : Far b w V := ⟨fun _ _ _ _ _ hb => hb.below h hb.lt⟩
theorem Far.below {b : Nat} {w V X : World} (h : Far b w V) (k : Below V.heap.size V X) : Far b w X := h.trans (.of_below k)
theorem Far.set {b : Nat} {w V : World} (h : Far b w V) (k : Nat) (u : Value) : Far b w (V.setCell ⟨b, k, none⟩ u) := ⟨fun g T cs hT hg hb => by
  have := h.blk g T cs hT hg hb
  unfold Blk at this ⊢
  rw [Below.heap_setCell _ ⟨b, k, none⟩ _ g hg]
  exact this⟩
theorem Far.grown {b : Nat} {w V X : World} (h : Far b w V) {base size n : Nat} {v : Value} {xs : List Value} (ho : V.ownsRow base tHeld size v n xs) (hg : V.grownBy X v.ownBlock) : Far b w X := ⟨fun g T cs hT hgb hb =>
  (h.blk g T cs hT hgb hb).grown hg (Ne.symm (own_blk_ne ho (h.blk g T cs hT hgb hb) hT.symm))⟩
theorem RowsFree.far {b : Nat} {w V : World} {lo : Nat} {vs : List Value} (h : RowsFree w lo vs) (k : Far b w V) {cs : Array Value} (hb : Blk w b tBook cs) : RowsFree V lo vs := by
  refine ⟨fun j hj => ?_, h.apart⟩
  obtain ⟨n, X, a1, a2⟩ := h.row j hj
  refine ⟨n, X, a1, a2.1, ?_⟩
  have e1 := own_blk_ne a2 hb (by decide)
  rcases a2.2 with h5 | ⟨g, cap, cur, k1, k2, k3, k4⟩
  · exact .inl h5
  · exact .inr ⟨g, cap, cur, k1, k2, k.blk g tLimb cur (by decide) (fun e => e1 (by rw [k1, e]; rfl)) k3, k4⟩
theorem apart_free (b B0 : Nat) (vs : List Value) (lims : Value) (w0 w : World) (hne : vs ≠ []) (hlen : vs.length ≤ 1000) (hk : Keep w b vs.length (fun j => vs.getD j nilS) lims) (hr : RowsFree w B0 vs) (hB : B0 ≤ b) (hl : Below B0 w0 w) :
    Calls Tryz.prog 23 #[.pointer (some ⟨b, 0, none⟩)] w fun e w' => e = .returned (.bool true) ∧ Below B0 w0 w' := by
  have hpos : 0 < vs.length := List.length_pos_iff.2 hne
  have hrow := hk.row
  rcases hrow.2 with ⟨-, h2⟩ | ⟨g0, cap, cur, h1, h2, h3, h4, h5, h6, h7⟩
  · omega
  · subst h1
    have hn : ∀ j, j < vs.length → ∃ X, w.ownsRow B0 tLimb 1 (vs.getD j nilS) (lenOf (vs.getD j nilS)) X ∧ lenOf (vs.getD j nilS) ≤ 1073741824 := fun j hj => by
      obtain ⟨n, X, a1, a2⟩ := hr.row j hj
      obtain ⟨A, c, hv⟩ := own_form (by omega) a2
      have : lenOf (vs.getD j nilS) = n := by rw [hv]; rfl
      rw [this]; exact ⟨X, a2, a1⟩
    let X : Nat → List Value := fun j => if h : j < vs.length then Classical.choose (hn j h) else []
    have hX : ∀ j, j < vs.length → w.ownsRow B0 tLimb 1 (vs.getD j nilS) (lenOf (vs.getD j nilS)) (X j) := fun j hj => by
      show w.ownsRow B0 tLimb 1 (vs.getD j nilS) (lenOf (vs.getD j nilS)) (if h : j < vs.length then Classical.choose (hn j h) else [])
      rw [dif_pos hj]; exact (Classical.choose_spec (hn j hj)).1
    have hcells : ∀ j, cur[j]? = if j < vs.length * 3 then (heldCells (fun j => vs.getD j nilS) vs.length)[j]? else cur[j]? := fun j => by
      split
      · rename_i h
        rw [← h7, List.getElem?_take, if_pos h]; simp
      · rfl
    refine apart_true b g0 cap vs.length B0 (fun j => vs.getD j nilS) (fun j => lenOf (vs.getD j nilS)) X w0 w ⟨hB, by omega, hlen, fun j hj => (Classical.choose_spec (hn j hj)).2, fun j hj => ?_, fun j k hj hk hjk => ?_⟩ ⟨hk.book, ⟨cur, h3, fun j hj => ?_⟩, hX, hl⟩
    · obtain ⟨n, X, a1, a2⟩ := hr.row j hj
      have e1 := own_blk_ne a2 hk.book (by decide)
      have e2 := own_blk_ne a2 h3 (by decide)
      exact fun g hg => ⟨fun e => e1 (by rw [hg, e]), fun e => e2 (by rw [hg, e])⟩
    · intro g hg hg2
      rcases Nat.lt_or_ge j k with h | h
      · exact hr.apart j k h hk g hg hg2
      · exact hr.apart k j (by omega) hj g hg2 hg
    · obtain ⟨a1, a2, a3⟩ := heldCells_at (fun j => vs.getD j nilS) vs.length j hj
      rw [hcells, if_pos (by omega), hcells (j * 3 + 1), if_pos (by omega), hcells (j * 3 + 2), if_pos (by omega)]
      exact ⟨a1, a2, a3⟩
theorem keep_all (b m : Nat) (l : Nat → Value) (lims : Value) (vA : Option Addr) (vn vc : Nat) (hm : m ≤ 1000) (w : World) (h : Keep w b m l lims) :
    Calls Tryz.prog 166 #[.pointer (some ⟨b, 0, none⟩), .slice vA vn vc] w fun e w' => e = .returned (.tuple #[]) ∧ ∃ lims', Keep w' b (m + 1) (updV l m (.slice vA vn vc)) lims' ∧ Below b w w' ∧ Far b w w' := by
  obtain ⟨i0, hi, hz0, hz1, hz2⟩ := info_parts heldInfo
  have hb := h.book
  have hrow := h.row
  have hlt := hb.lt
  have c0 := hb.cell 0
  have f0 := hb.frozen 0
  simp at c0
  have hadd : IntKind.i64.wrap ((m : Int) + 1) = ((m + 1 : Nat) : Int) := by rw [IntWalk.i64_in _ (by omega)]; omega
  clear h
  have HB := Hd hb
  have HR := Hd hrow
  clear hb hrow
  go_enter Tryz.func166, Tryz.ntmps166
  go_wp2_with fail
  have hW : Blk (w.setCell ⟨b, 0, none⟩ (.int .i64 ((m : Int) + 1))) b tBook #[.int .i64 ((m : Int) + 1), lims, nilS, nilS, nilS, nilS, nilS, nilS, nilS, nilS, nilS, nilS, nilS, nilS, nilS, nilS, nilS] := HB.out.set_ 0 _
  have hrW := ownsRow_setCell_below HR.out (a := ⟨b, 0, none⟩) (Nat.lt_succ_self b) (.int .i64 ((m : Int) + 1))
  have hbW : Below b w (w.setCell ⟨b, 0, none⟩ (.int .i64 ((m : Int) + 1))) := (Below.refl b w).setCell (p := ⟨b, 0, none⟩) (Nat.le_refl _) _
  have hgW : Far b w (w.setCell ⟨b, 0, none⟩ (.int .i64 ((m : Int) + 1))) := (Far.refl b w).set 0 _
  obtain ⟨W, E⟩ : ∃ W, W = w.setCell ⟨b, 0, none⟩ (.int .i64 ((m : Int) + 1)) := ⟨_, rfl⟩
  rw [← E] at hW hrW hbW hgW ⊢
  clear E HB HR c0 f0
  have hltW := hW.lt
  have HW := Hd hW
  have HR := Hd hrW
  have HB := Hd hbW
  have HG := Hd hgW
  clear hW hrW hbW hgW hadd
  refine wp_region_stepsB [.val (.pointer (some ⟨b, 0, none⟩)), .val (.pointer (some ⟨b, 0, none⟩)), .val (.pointer (some ⟨b, 0, none⟩)), .val (.pointer (some ⟨b, 1, none⟩)), .val lims, .val (.slice vA vn vc), .val (.pointer (some ⟨b, 0, none⟩)), .val (.pointer (some ⟨b, 0, none⟩)), .val (.pointer (some ⟨b, 0, none⟩)), .val (.int .i64 ((m : Int) + 1)), .val (.agg #[.slice vA vn vc, nilS, .int .i64 ((m : Int) + 1)]), .step, .step, .step, .step, .step] 4 5 (b + 1) W (by omega)
    (fun us V => match us with
      | [] => V.ownsRow (b + 1) tHeld 3 lims m (heldCells l m) ∧ Far b w V
      | [u0] => V.ownsRow (b + 1) tHeld 3 lims m (heldCells l m) ∧ Far b w V ∧ ∃ g, u0 = .slice (some ⟨g, 0, none⟩) 1 1 ∧ Reads V V.heap.size 3 (some ⟨g, 0, none⟩) 1 [.slice vA vn vc, nilS, .int .i64 ((m : Int) + 1)]
      | [_, u1] => V.ownsRow (b + 1) tHeld 3 u1 (m + 1) (heldCells (updV l m (.slice vA vn vc)) (m + 1)) ∧ Far b w V
      | [_, u1, u2] => u2 = .pointer (some ⟨b, 0, none⟩) ∧ V.ownsRow (b + 1) tHeld 3 u1 (m + 1) (heldCells (updV l m (.slice vA vn vc)) (m + 1)) ∧ Far b w V
      | [_, u1, _, u3] => u3 = .pointer (some ⟨b, 1, none⟩) ∧ V.ownsRow (b + 1) tHeld 3 u1 (m + 1) (heldCells (updV l m (.slice vA vn vc)) (m + 1)) ∧ Far b w V
      | _ => False)
    (fun _ V => ∃ lims', Keep V b (m + 1) (updV l m (.slice vA vn vc)) lims' ∧ Below b w V ∧ Far b w V)
    _ mixedOrders2 (by kernel_rfl) (by kernel_rfl) (by kernel_rfl) (by kernel_rfl) (by kernel_rfl) (by kernel_rfl) (by kernel_rfl) (by kernel_rfl) (by kernel_rfl) rfl ?_ (Below.refl _ _) ⟨HR.out.drew, HG.out.below (Below.refl _ _).drew⟩ ?_ ?_ ?_
  · intro us V V' hg hb
    match us, hg with
    | [], hg => exact ⟨own_below hg.1 hb, hg.2.below hb⟩
    | [u0], ⟨h1, h0, g, h2, h3⟩ => exact ⟨own_below h1 hb, h0.below hb, g, h2, (h3.below hb).more hb.size⟩
    | [_, u1], hg => exact ⟨own_below hg.1 hb, hg.2.below hb⟩
    | [_, u1, u2], hg => exact ⟨hg.1, own_below hg.2.1 hb, hg.2.2.below hb⟩
    | [_, u1, u2, u3], hg => exact ⟨hg.1, own_below hg.2.1 hb, hg.2.2.below hb⟩
  · simp [ValsOk, chainAct, fill, pairs, valAt]
    repeat' apply And.intro
    all_goals
      intro V hV
      have hx := HW.out.below hV (Nat.lt_succ_self b)
      have c0 := hx.cell 0
      have c1 := hx.cell 1
      simp at c0 c1
      clear hV hx
      go_simp
      try exact Below.refl _ _
  · simp [StepsOk, chainAct, fill, pairs, valAt, stepNo, List.filter, Stp.isStep]
    refine ⟨fun V hV hr hx0 => ?_, fun u0 => ⟨fun V hV hr hx0 g hu hrd => ?_, fun u1 => ⟨fun V hV hr hx0 => ?_, fun u2 => ⟨fun V hV hu2 hr hx0 => ?_, fun u3 V hV hu3 hr hx0 => ?_⟩⟩⟩⟩
    · go_simp
      exact ⟨hV.alloc (by have := hV.size; omega) _, own_below hr ((Below.refl _ _).alloc (Nat.le_refl _) _), hx0.below ((Below.refl _ _).alloc (Nat.le_refl _) _), Reads.new1 V _ 3 _ rfl⟩
    · subst hu
      have hsz := hV.size
      refine wp_append_any V (.tmp 15) (.tmp 22) _ rfl (b + 1) tHeld i0 _ 3 56 Tryz.underlying38 hi hz0 hz1 hz2 rfl (by omega) lims m (heldCells l m) rfl hr V.heap.size (some ⟨g, 0, none⟩) 1 1 [.slice vA vn vc, nilS, .int .i64 ((m : Int) + 1)] rfl hrd (by simp [Value.oneCell']) (by unfold maxLen; omega) (by omega) (by omega) ?_
      intro v' w' ho hg hat
      refine ⟨v', rfl, hV.grown hg (by omega) (fun k hk => (hr.lt k hk).1), ?_⟩
      rw [heldCells_more, show ((m + 1 : Nat) : Int) = (m : Int) + 1 by omega]
      exact ⟨ho, hx0.grown hr hg⟩
    · go_simp
      try exact ⟨hV, hr, hx0⟩
    · subst hu2
      go_simp
      try exact ⟨hV, hr, hx0⟩
    · subst hu3
      obtain ⟨A1, k1, rfl⟩ := own_form (by omega) hr
      have hx := HW.out.below hV (Nat.lt_succ_self b)
      have c1 := hx.cell 1
      have f1 := hx.frozen 1
      simp at c1
      go_simp
      refine ⟨⟨.slice A1 (m + 1) k1, ?_, ?_⟩, (HB.out.trans (hV.mono (Nat.le_succ b))).setCell (p := ⟨b, 1, none⟩) (Nat.le_refl _) _, hx0.set 1 _⟩
      · have := hx.set_ 1 (.slice A1 (m + 1) k1)
        exact this
      · exact ownsRow_setCell_below hr (a := ⟨b, 1, none⟩) (Nat.lt_succ_self b) _
  · intro us V hus hF
    simp only [show ¬ (5 ≤ 4) by decide, if_false] at hF
    have HF := Hd hF
    obtain ⟨u0, u1, u2, u3, u4, rfl⟩ : ∃ u0 u1 u2 u3 u4, us = [u0, u1, u2, u3, u4] := by
      match us, hus with
      | [u0, u1, u2, u3, u4], _ => exact ⟨u0, u1, u2, u3, u4, rfl⟩
    simp [chainAct, fill, pairs, valAt, stepNo, List.filter, Stp.isStep]
    clear hF HW HR HB HG
    go_wp2_with fail
    exact bodyPost_end (v := .tuple #[]) (by simp [results, Tryz.results166, go_sem]) rfl ⟨rfl, HF.out⟩

theorem book_Int_all (b m : Nat) (l : Nat → Value) (lims : Value) (neg : Bool) (vA : Option Addr) (vn vc : Nat) (hm : m ≤ 1000) (w : World) (h : Keep w b m l lims) :
    Calls Tryz.prog 71 #[.pointer (some ⟨b, 0, none⟩), .agg #[.bool neg, .slice vA vn vc]] w fun e w' => e = .returned (.tuple #[]) ∧ ∃ lims', Keep w' b (m + 1) (updV l m (.slice vA vn vc)) lims' ∧ Below b w w' ∧ Far b w w' := by
  have hlt := h.book.lt
  have C := Hd (keep_all b m l lims vA vn vc hm _ (h.below ((Below.refl _ _).alloc (Nat.le_refl _) (.cells #[.bool neg, .slice vA vn vc] 24))))
  have hfa := Hd (Far.of_below (b := b) ((Below.refl w.heap.size w).alloc (Nat.le_refl _) (.cells #[.bool neg, .slice vA vn vc] 24)))
  have hb := Hd (((Below.refl w.heap.size w).alloc (Nat.le_refl _) (.cells #[.bool neg, .slice vA vn vc] 24)).mono (Nat.le_of_lt hlt))
  clear h
  go_enter Tryz.func71, Tryz.ntmps71
  go_wp2_with fail
  refine C.out.mono ?_
  rintro e w' ⟨rfl, lims', hk, hb2, hx⟩
  have HF := Hd (⟨lims', hk, hb.out.trans hb2, hfa.out.trans hx⟩ : ∃ lims', Keep w' b (m + 1) (updV l m (.slice vA vn vc)) lims' ∧ Below b w w' ∧ Far b w w')
  clear C hb hk hb2 hx hfa
  go_wp2_with fail
  exact bodyPost_end (v := .tuple #[]) (by simp [results, Tryz.results71, go_sem]) rfl ⟨rfl, HF.out⟩
theorem book_Frac_all (b m : Nat) (l : Nat → Value) (lims : Value) (n1 n2 : Bool) (A B : Option Addr) (an ac bn bc : Nat) (hm : m + 1 ≤ 1000) (w : World) (h : Keep w b m l lims) :
    Calls Tryz.prog 22 #[.pointer (some ⟨b, 0, none⟩), .agg #[.bool n1, .slice A an ac, .bool n2, .slice B bn bc]] w fun e w' => e = .returned (.tuple #[]) ∧ ∃ lims', Keep w' b (m + 2) (updV (updV l m (.slice A an ac)) (m + 1) (.slice B bn bc)) lims' ∧ Below b w w' ∧ Far b w w' := by
  have hlt := h.book.lt
  have px := Quad.new w (.bool n1) (.slice A an ac) (.bool n2) (.slice B bn bc)
  have hb := Hd (((Below.refl w.heap.size w).alloc (Nat.le_refl _) (.cells #[.bool n1, .slice A an ac, .bool n2, .slice B bn bc] 30)).mono (Nat.le_of_lt hlt))
  have C1 := Hd (book_Int_all b m l lims n1 A an ac (by omega) _ (h.below ((Below.refl _ _).alloc (Nat.le_refl _) (.cells #[.bool n1, .slice A an ac, .bool n2, .slice B bn bc] 30))))
  have hfa := Hd (Far.of_below (b := b) ((Below.refl w.heap.size w).alloc (Nat.le_refl _) (.cells #[.bool n1, .slice A an ac, .bool n2, .slice B bn bc] 30)))
  have hne : w.heap.size ≠ b := by omega
  have PX := Hd px
  clear h px
  obtain ⟨-, x0, x1, x2, x3, -, -, -, -⟩ := PX.out.facts
  go_enter Tryz.func22, Tryz.ntmps22
  go_wp2_with fail
  refine C1.out.mono ?_
  rintro e w1 ⟨rfl, lims1, hk, hb1, hxf⟩
  have hx := hxf.blk _ _ _ (by decide) hne PX.out.blk
  have HFA := Hd (hfa.out.trans hxf)
  have C2 := Hd (book_Int_all b (m + 1) (updV l m (.slice A an ac)) lims1 n2 B bn bc hm w1 hk)
  obtain ⟨-, y0, y1, y2, y3, -, -, -, -⟩ := (Quad.mk hx).facts
  have HB := Hd (hb.out.trans hb1)
  clear C1 hb hk hb1 hx hxf hfa hne x0 x1 x2 x3
  go_wp2_with fail
  refine C2.out.mono ?_
  rintro e w2 ⟨rfl, lims2, hk2, hb2, hx2⟩
  have HF := Hd (⟨lims2, hk2, HB.out.trans hb2, HFA.out.trans hx2⟩ : ∃ lims', Keep w2 b (m + 2) (updV (updV l m (.slice A an ac)) (m + 1) (.slice B bn bc)) lims' ∧ Below b w w2 ∧ Far b w w2)
  clear C2 HB HFA hk2 hb2 hx2 y0 y1 y2 y3
  go_wp2_with fail
  exact bodyPost_end (v := .tuple #[]) (by simp [results, Tryz.results22, go_sem]) rfl ⟨rfl, HF.out⟩
end Go.Proofs.YtadmoheohmbieaaGreatDoor
