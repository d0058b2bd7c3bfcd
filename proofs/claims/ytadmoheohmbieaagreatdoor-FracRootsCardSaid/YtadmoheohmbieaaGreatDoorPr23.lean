/- Several texts in one: FRefCheck, FCheckF, FCost, Nil. -/
import Derived.Test.YtadmoheohmbieaaGreatDoorPr22
import Derived.Test.YtadmoheohmbieaaGreatDoorPr18
import Derived.Test.YtadmoheohmbieaaGreatDoorPr17
import Derived.Test.YtadmoheohmbieaaGreatDoorPr09
/- Check of the references of chapter 02. (Written by wip/frac/genfrefcheck.py.) -/
namespace Go.Proofs.YtadmoheohmbieaaGreatDoor
open Go.RowKit

set_option maxRecDepth 100000 in
set_option maxHeartbeats 400000 in
theorem rbelow (x y : Int) (b : Bool) (A B : Option Addr) (c d : Nat) (w : World) (h : Raw w A c (natL x.natAbs)) (g : Raw w B d (natL y.natAbs)) (hx : lz x ≤ 500000000) (hy : lz y ≤ 500000000) (hb : b = decide (cmpz x y < 0)) :
    Calls Tryz.prog 70 #[.agg #[.bool (decide (x < 0)), .slice A (natL x.natAbs).length c], .agg #[.bool (decide (y < 0)), .slice B (natL y.natAbs).length d]] w fun e w' => e = .returned (.bool b) ∧ Below w.heap.size w w' := by
  obtain ⟨k, hk⟩ : ∃ k : Int, k = cmpz x y := ⟨_, rfl⟩
  rw [← hk] at hb
  have b0 := ((Below.refl w.heap.size w).alloc (Nat.le_refl _) (.cells #[.bool (decide (x < 0)), .slice A (natL x.natAbs).length c] 24)).alloc (by simp) (.cells #[.bool (decide (y < 0)), .slice B (natL y.natAbs).length d] 24)
  have H := Lib.hid (rcmp x y k A B c d _ (h.below b0) (g.below b0) hx hy hk)
  have B0 := Lib.hid b0
  have HB := Lib.hid hb
  clear h g hx hy hk b0 hb
  go_enter Tryz.func70, Tryz.ntmps70
  go_wp2_with fail
  refine H.out.mono ?_
  rintro e w1 ⟨rfl, hb⟩
  go_wp2_with fail
  go_ret
  exact ⟨by rw [HB.out]; rfl, belowTo B0.out hb⟩

set_option maxRecDepth 100000 in
set_option maxHeartbeats 1000000 in
theorem ref02_Check_bad_one (n1 n2 : Bool) (A B : Option Addr) (c e0 : Nat) (xs ys : List Nat) (o : okI n1 xs = false) (w : World) (h : Raw w A c xs) (g : Raw w B e0 ys) :
    Calls Tryz.prog 21 #[.agg #[.bool n1, .slice A xs.length c, .bool n2, .slice B ys.length e0]] w fun e w' => e = .returned (.int .i64 1) ∧ Below w.heap.size w w' := by
  have C1 := fun (V : World) (h : Raw V A c xs) => ref_Check_any n1 A c _ V h
  unfold errI at C1
  rw [if_neg (by rw [o]; decide)] at C1
  have H1 := Lib.hid C1
  clear C1 o
  have px := Quad.new w (.bool n1) (.slice A xs.length c) (.bool n2) (.slice B ys.length e0)
  have b0 := (Below.refl w.heap.size w).alloc (Nat.le_refl _) (.cells #[.bool n1, .slice A xs.length c, .bool n2, .slice B ys.length e0] 30)
  have h1 := h.below b0
  have g1 := g.below b0
  have PX := Lib.hid px
  have B0 := Lib.hid b0
  have RX := Lib.hid h1
  have RY := Lib.hid g1
  clear px b0 h g h1 g1
  go_enter Tryz.func21, Tryz.ntmps21
  go_wp2_with fail
  obtain ⟨W, E⟩ : ∃ W, W = w.alloc (.cells #[.bool n1, .slice A xs.length c, .bool n2, .slice B ys.length e0] 30) := ⟨_, rfl⟩
  rw [← E] at PX B0 RX RY ⊢
  clear E
  have T0 := Below.refl W.heap.size W
  obtain ⟨l0, x0, x1, x2, x3, -, -, -, -⟩ := (PX.out.below T0).facts
  go_wp2_with fail
  refine (H1.out _ (RX.out.below T0)).mono ?_
  rintro e w1 ⟨rfl, h⟩
  have T1 := belowTo T0 h
  clear h x0 x1 x2 x3 l0
  have BB := belowTo B0.out T1
  go_wp2_with fail
  go_ret
  exact ⟨rfl, BB⟩

set_option maxRecDepth 100000 in
set_option maxHeartbeats 1000000 in
theorem ref02_Check_bad_two (n1 n2 : Bool) (A B : Option Addr) (c e0 : Nat) (xs ys : List Nat) (o1 : okI n1 xs = true) (o : okI n2 ys = false) (w : World) (h : Raw w A c xs) (g : Raw w B e0 ys) :
    Calls Tryz.prog 21 #[.agg #[.bool n1, .slice A xs.length c, .bool n2, .slice B ys.length e0]] w fun e w' => e = .returned (.int .i64 1) ∧ Below w.heap.size w w' := by
  have C1 := fun (V : World) (h : Raw V A c xs) => ref_Check_any n1 A c _ V h
  unfold errI at C1
  rw [if_pos o1] at C1
  have H1 := Lib.hid C1
  have C2 := fun (V : World) (h : Raw V B e0 ys) => ref_Check_any n2 B e0 _ V h
  unfold errI at C2
  rw [if_neg (by rw [o]; decide)] at C2
  have H2 := Lib.hid C2
  clear C2 o1
  clear C1 o
  have px := Quad.new w (.bool n1) (.slice A xs.length c) (.bool n2) (.slice B ys.length e0)
  have b0 := (Below.refl w.heap.size w).alloc (Nat.le_refl _) (.cells #[.bool n1, .slice A xs.length c, .bool n2, .slice B ys.length e0] 30)
  have h1 := h.below b0
  have g1 := g.below b0
  have PX := Lib.hid px
  have B0 := Lib.hid b0
  have RX := Lib.hid h1
  have RY := Lib.hid g1
  clear px b0 h g h1 g1
  go_enter Tryz.func21, Tryz.ntmps21
  go_wp2_with fail
  obtain ⟨W, E⟩ : ∃ W, W = w.alloc (.cells #[.bool n1, .slice A xs.length c, .bool n2, .slice B ys.length e0] 30) := ⟨_, rfl⟩
  rw [← E] at PX B0 RX RY ⊢
  clear E
  have T0 := Below.refl W.heap.size W
  obtain ⟨l0, x0, x1, x2, x3, -, -, -, -⟩ := (PX.out.below T0).facts
  go_wp2_with fail
  refine (H1.out _ (RX.out.below T0)).mono ?_
  rintro e w1 ⟨rfl, h⟩
  have T1 := belowTo T0 h
  clear h x0 x1 x2 x3 l0
  obtain ⟨l1, x0, x1, x2, x3, -, -, -, -⟩ := (PX.out.below T1).facts
  go_wp2_with fail
  refine (H2.out _ (RY.out.below T1)).mono ?_
  rintro e w2 ⟨rfl, h⟩
  have T2 := belowTo T1 h
  clear h x0 x1 x2 x3 l1
  have BB := belowTo B0.out T2
  go_wp2_with fail
  go_ret
  exact ⟨rfl, BB⟩

set_option maxRecDepth 100000 in
set_option maxHeartbeats 1000000 in
theorem ref02_Check_low (n d : Int) (A B : Option Addr) (c e0 : Nat) (w : World) (h : Raw w A c (natL n.natAbs)) (g : Raw w B e0 (natL d.natAbs)) (hn : Fit n) (hd : Fit d) (hd0 : d ≤ 0) :
    Calls Tryz.prog 21 #[.agg #[.bool (decide (n < 0)), .slice A (natL n.natAbs).length c, .bool (decide (d < 0)), .slice B (natL d.natAbs).length e0]] w fun e w' => e = .returned (.int .i64 1) ∧ Below w.heap.size w w' := by
  have C1 := fun (V : World) (h : Raw V A c (natL n.natAbs)) => ref_Check_any (decide (n < 0)) A c _ V h
  have C2 := fun (V : World) (h : Raw V B e0 (natL d.natAbs)) => ref_Check_any (decide (d < 0)) B e0 _ V h
  unfold errI at C1 C2
  rw [if_pos hn.ok] at C1
  rw [if_pos hd.ok] at C2
  have hln : lz n ≤ 2048 := hn
  have hld : lz d ≤ 2048 := hd
  obtain ⟨s, hs⟩ : ∃ k : Int, k = d.sign := ⟨_, rfl⟩
  have C3 := fun (V : World) (h : Raw V B e0 (natL d.natAbs)) => rsign d s B e0 V h hs
  have hs1 : s ≤ 0 := by rw [hs]; exact Int.sign_nonpos_iff.2 hd0
  have H1 := Lib.hid C1
  have H2 := Lib.hid C2
  have H3 := Lib.hid C3
  clear C1 C2 C3 hn hd hd0 hs hln hld
  have px := Quad.new w (.bool (decide (n < 0))) (.slice A (natL n.natAbs).length c) (.bool (decide (d < 0))) (.slice B (natL d.natAbs).length e0)
  have b0 := (Below.refl w.heap.size w).alloc (Nat.le_refl _) (.cells #[.bool (decide (n < 0)), .slice A (natL n.natAbs).length c, .bool (decide (d < 0)), .slice B (natL d.natAbs).length e0] 30)
  have h1 := h.below b0
  have g1 := g.below b0
  have PX := Lib.hid px
  have B0 := Lib.hid b0
  have RX := Lib.hid h1
  have RY := Lib.hid g1
  clear px b0 h g h1 g1
  go_enter Tryz.func21, Tryz.ntmps21
  go_wp2_with fail
  obtain ⟨W, E⟩ : ∃ W, W = w.alloc (.cells #[.bool (decide (n < 0)), .slice A (natL n.natAbs).length c, .bool (decide (d < 0)), .slice B (natL d.natAbs).length e0] 30) := ⟨_, rfl⟩
  rw [← E] at PX B0 RX RY ⊢
  clear E
  have T0 := Below.refl W.heap.size W
  obtain ⟨l0, x0, x1, x2, x3, -, -, -, -⟩ := (PX.out.below T0).facts
  go_wp2_with fail
  refine (H1.out _ (RX.out.below T0)).mono ?_
  rintro e w1 ⟨rfl, h⟩
  have T1 := belowTo T0 h
  clear h x0 x1 x2 x3 l0
  obtain ⟨l1, x0, x1, x2, x3, -, -, -, -⟩ := (PX.out.below T1).facts
  go_wp2_with fail
  refine (H2.out _ (RY.out.below T1)).mono ?_
  rintro e w2 ⟨rfl, h⟩
  have T2 := belowTo T1 h
  clear h x0 x1 x2 x3 l1
  obtain ⟨l2, x0, x1, x2, x3, -, -, -, -⟩ := (PX.out.below T2).facts
  go_wp2_with fail
  refine (H3.out _ (RY.out.below T2)).mono ?_
  rintro e w3 ⟨rfl, h⟩
  have T3 := belowTo T2 h
  clear h x0 x1 x2 x3 l2
  have BB := belowTo B0.out T3
  go_wp2_with fail
  go_ret
  exact ⟨rfl, BB⟩

set_option maxRecDepth 100000 in
set_option maxHeartbeats 1000000 in
theorem ref02_Check_fine (n d : Int) (A B : Option Addr) (c e0 : Nat) (w : World) (h : Raw w A c (natL n.natAbs)) (g : Raw w B e0 (natL d.natAbs)) (hn : Fit n) (hd : Fit d) (hd0 : 0 < d) (hg : gcdZ n d = 1) :
    Calls Tryz.prog 21 #[.agg #[.bool (decide (n < 0)), .slice A (natL n.natAbs).length c, .bool (decide (d < 0)), .slice B (natL d.natAbs).length e0]] w fun e w' => e = .returned (.int .i64 0) ∧ Below w.heap.size w w' := by
  have C1 := fun (V : World) (h : Raw V A c (natL n.natAbs)) => ref_Check_any (decide (n < 0)) A c _ V h
  have C2 := fun (V : World) (h : Raw V B e0 (natL d.natAbs)) => ref_Check_any (decide (d < 0)) B e0 _ V h
  unfold errI at C1 C2
  rw [if_pos hn.ok] at C1
  rw [if_pos hd.ok] at C2
  have hln : lz n ≤ 2048 := hn
  have hld : lz d ≤ 2048 := hd
  obtain ⟨s, hs⟩ : ∃ k : Int, k = d.sign := ⟨_, rfl⟩
  have C3 := fun (V : World) (h : Raw V B e0 (natL d.natAbs)) => rsign d s B e0 V h hs
  have hs1 : 0 < s := by rw [hs]; exact Int.sign_pos_iff.2 hd0
  have H1 := Lib.hid C1
  have H2 := Lib.hid C2
  have H3 := Lib.hid C3
  obtain ⟨m, hm⟩ : ∃ k : Int, k = gcdZ n d := ⟨_, rfl⟩
  have hml : lz m ≤ 2048 := by rw [hm]; exact Nat.le_trans (gcdZ_lz (by omega)) hld
  have hm0 : m = 1 := by rw [hm]; exact hg
  obtain ⟨r, hr⟩ : ∃ k : Bool, k = decide (cmpz 1 m < 0) := ⟨_, rfl⟩
  have C4 := fun (V : World) (h : Raw V A c (natL n.natAbs)) (g : Raw V B e0 (natL d.natAbs)) => common02 n d A B c e0 V h g (by omega) (by omega)
  rw [← hm] at C4
  have C5 := fun (V : World) => ref_Of 1 (by decide) (by decide) V
  have C6 := fun (V : World) (A' B' : Option Addr) (c' e' : Nat) (h : Raw V A' c' (natL m.natAbs)) (g : Raw V B' e' (natL (1 : Int).natAbs)) => rbelow 1 m r B' A' e' c' V g h (by decide) (by omega) hr
  obtain ⟨u, hu⟩ : ∃ k : Int, k = 1 := ⟨_, rfl⟩
  have hr0 : r = false := by rw [hr]; unfold cmpz; rw [hm0]; decide
  have H4 := Lib.hid C4
  have H5 := Lib.hid C5
  have H6 := Lib.hid C6
  clear C1 C2 C3 C4 C5 C6 hn hd hd0 hg hs hln hld hm hml hm0 hr hu
  have px := Quad.new w (.bool (decide (n < 0))) (.slice A (natL n.natAbs).length c) (.bool (decide (d < 0))) (.slice B (natL d.natAbs).length e0)
  have b0 := (Below.refl w.heap.size w).alloc (Nat.le_refl _) (.cells #[.bool (decide (n < 0)), .slice A (natL n.natAbs).length c, .bool (decide (d < 0)), .slice B (natL d.natAbs).length e0] 30)
  have h1 := h.below b0
  have g1 := g.below b0
  have PX := Lib.hid px
  have B0 := Lib.hid b0
  have RX := Lib.hid h1
  have RY := Lib.hid g1
  clear px b0 h g h1 g1
  go_enter Tryz.func21, Tryz.ntmps21
  go_wp2_with fail
  obtain ⟨W, E⟩ : ∃ W, W = w.alloc (.cells #[.bool (decide (n < 0)), .slice A (natL n.natAbs).length c, .bool (decide (d < 0)), .slice B (natL d.natAbs).length e0] 30) := ⟨_, rfl⟩
  rw [← E] at PX B0 RX RY ⊢
  clear E
  have T0 := Below.refl W.heap.size W
  obtain ⟨l0, x0, x1, x2, x3, -, -, -, -⟩ := (PX.out.below T0).facts
  go_wp2_with fail
  refine (H1.out _ (RX.out.below T0)).mono ?_
  rintro e w1 ⟨rfl, h⟩
  have T1 := belowTo T0 h
  clear h x0 x1 x2 x3 l0
  obtain ⟨l1, x0, x1, x2, x3, -, -, -, -⟩ := (PX.out.below T1).facts
  go_wp2_with fail
  refine (H2.out _ (RY.out.below T1)).mono ?_
  rintro e w2 ⟨rfl, h⟩
  have T2 := belowTo T1 h
  clear h x0 x1 x2 x3 l1
  obtain ⟨l2, x0, x1, x2, x3, -, -, -, -⟩ := (PX.out.below T2).facts
  go_wp2_with fail
  refine (H3.out _ (RY.out.below T2)).mono ?_
  rintro e w3 ⟨rfl, h⟩
  have T3 := belowTo T2 h
  clear h x0 x1 x2 x3 l2
  obtain ⟨l3, x0, x1, x2, x3, -, -, -, -⟩ := (PX.out.below T3).facts
  go_wp2_with fail
  refine (H4.out _ (RX.out.below T3) (RY.out.below T3)).mono ?_
  rintro e w4 ⟨v, rfl, i4, h⟩
  have T4 := belowTo T3 h
  obtain ⟨A4, c4, rfl, r4⟩ := i4.form
  clear i4
  clear h x0 x1 x2 x3 l3
  subst hr0
  go_wp2_with fail
  obtain ⟨Y, E⟩ : ∃ Y, Y = w4.alloc (.cells #[.bool (decide (m < 0)), .slice A4 (natL m.natAbs).length c4] 24) := ⟨_, rfl⟩
  have pg := Pair.new w4 24 (.bool (decide (m < 0))) (.slice A4 (natL m.natAbs).length c4)
  have T5 := T4.alloc T4.size (.cells #[.bool (decide (m < 0)), .slice A4 (natL m.natAbs).length c4] 24)
  have r5 := r4.alloc (.cells #[.bool (decide (m < 0)), .slice A4 (natL m.natAbs).length c4] 24)
  rw [← E] at pg T5 r5 ⊢
  have BB := Lib.hid (B0.out.trans (T5.mono B0.out.size))
  have PG := Lib.hid pg
  have R5 := Lib.hid r5
  clear E pg T5 r5 r4 T4 T3 T2 T1 T0
  refine wp_region_free [.any false (fun u V => IntOwn V 0 u 1) [], .val (.agg #[.bool (decide (m < 0)), .slice A4 (natL m.natAbs).length c4]) [], .val (.bool false) [0]] Y.heap.size Y [] blkInt _ mixedOrders2 (Nat.le_refl _) (Below.refl _ _) (KeptV.refl _ _ _) rfl (by kernel_rfl) (by kernel_rfl) (by kernel_rfl) (by kernel_rfl) (by kernel_rfl) (by kernel_rfl) (by kernel_rfl) (by kernel_rfl) rfl (by simp [oldsF]) ?_ ?_ ?_ ?_
  · simp only [StableF, and_true]
    exact fun u V V' h k => h.kept k (by decide)
  · simp only [OldsF]
  · simp (maxSteps := 4000000) [StepsF, DepF, freeAct, fill, pairs]
    repeat' (first | apply And.intro | (intro (u : Value)) | (intro (u : Nat)))
    all_goals first
    | (intro V hV hK
       have qg := PG.out.below hV
       obtain ⟨l9, a_g, b_g, -, -⟩ := qg.facts
       clear hV hK qg
       go_simp
       first
       | exact Below.refl _ _
       | ((with_reducible refine (H5.out V).mono ?_); rintro e w' ⟨v, rfl, hv, hb⟩; exact ⟨hv.base (Nat.zero_le _), hb⟩))
    | (intro V hV hK h1
       have rg := R5.out.below hV
       obtain ⟨A5, c5, rfl, r5⟩ := h1.raw
       clear hV hK h1
       go_simp
       refine (H6.out V A4 A5 c4 c5 rg r5).mono ?_
       rintro e w' ⟨rfl, hb⟩
       exact ⟨rfl, hb⟩)
  · simp [EndF, FactsF, freeAct, fill, pairs]
    intro u1 V hV hK h1 _ _ _
    have B9 := Lib.hid (BB.out.trans (hV.mono BB.out.size))
    clear hV hK h1
    go_wp2_with fail
    go_ret
    exact ⟨rfl, B9.out⟩

set_option maxRecDepth 100000 in
set_option maxHeartbeats 1000000 in
theorem ref02_Check_more (n d : Int) (A B : Option Addr) (c e0 : Nat) (w : World) (h : Raw w A c (natL n.natAbs)) (g : Raw w B e0 (natL d.natAbs)) (hn : Fit n) (hd : Fit d) (hd0 : 0 < d) (hg : gcdZ n d ≠ 1) :
    Calls Tryz.prog 21 #[.agg #[.bool (decide (n < 0)), .slice A (natL n.natAbs).length c, .bool (decide (d < 0)), .slice B (natL d.natAbs).length e0]] w fun e w' => e = .returned (.int .i64 1) ∧ Below w.heap.size w w' := by
  have C1 := fun (V : World) (h : Raw V A c (natL n.natAbs)) => ref_Check_any (decide (n < 0)) A c _ V h
  have C2 := fun (V : World) (h : Raw V B e0 (natL d.natAbs)) => ref_Check_any (decide (d < 0)) B e0 _ V h
  unfold errI at C1 C2
  rw [if_pos hn.ok] at C1
  rw [if_pos hd.ok] at C2
  have hln : lz n ≤ 2048 := hn
  have hld : lz d ≤ 2048 := hd
  obtain ⟨s, hs⟩ : ∃ k : Int, k = d.sign := ⟨_, rfl⟩
  have C3 := fun (V : World) (h : Raw V B e0 (natL d.natAbs)) => rsign d s B e0 V h hs
  have hs1 : 0 < s := by rw [hs]; exact Int.sign_pos_iff.2 hd0
  have H1 := Lib.hid C1
  have H2 := Lib.hid C2
  have H3 := Lib.hid C3
  obtain ⟨m, hm⟩ : ∃ k : Int, k = gcdZ n d := ⟨_, rfl⟩
  have hml : lz m ≤ 2048 := by rw [hm]; exact Nat.le_trans (gcdZ_lz (by omega)) hld
  have hm0 : m ≠ 1 := by rw [hm]; exact hg
  obtain ⟨r, hr⟩ : ∃ k : Bool, k = decide (cmpz 1 m < 0) := ⟨_, rfl⟩
  have C4 := fun (V : World) (h : Raw V A c (natL n.natAbs)) (g : Raw V B e0 (natL d.natAbs)) => common02 n d A B c e0 V h g (by omega) (by omega)
  rw [← hm] at C4
  have C5 := fun (V : World) => ref_Of 1 (by decide) (by decide) V
  have C6 := fun (V : World) (A' B' : Option Addr) (c' e' : Nat) (h : Raw V A' c' (natL m.natAbs)) (g : Raw V B' e' (natL (1 : Int).natAbs)) => rbelow 1 m r B' A' e' c' V g h (by decide) (by omega) hr
  obtain ⟨u, hu⟩ : ∃ k : Int, k = 1 := ⟨_, rfl⟩
  have hm1 : 0 < m := by rw [hm]; exact gcdZ_pos (by omega)
  have hr0 : r = true := by rw [hr]; unfold cmpz; rw [if_pos (by omega)]; decide
  clear hm1
  have H4 := Lib.hid C4
  have H5 := Lib.hid C5
  have H6 := Lib.hid C6
  clear C1 C2 C3 C4 C5 C6 hn hd hd0 hg hs hln hld hm hml hm0 hr hu
  have px := Quad.new w (.bool (decide (n < 0))) (.slice A (natL n.natAbs).length c) (.bool (decide (d < 0))) (.slice B (natL d.natAbs).length e0)
  have b0 := (Below.refl w.heap.size w).alloc (Nat.le_refl _) (.cells #[.bool (decide (n < 0)), .slice A (natL n.natAbs).length c, .bool (decide (d < 0)), .slice B (natL d.natAbs).length e0] 30)
  have h1 := h.below b0
  have g1 := g.below b0
  have PX := Lib.hid px
  have B0 := Lib.hid b0
  have RX := Lib.hid h1
  have RY := Lib.hid g1
  clear px b0 h g h1 g1
  go_enter Tryz.func21, Tryz.ntmps21
  go_wp2_with fail
  obtain ⟨W, E⟩ : ∃ W, W = w.alloc (.cells #[.bool (decide (n < 0)), .slice A (natL n.natAbs).length c, .bool (decide (d < 0)), .slice B (natL d.natAbs).length e0] 30) := ⟨_, rfl⟩
  rw [← E] at PX B0 RX RY ⊢
  clear E
  have T0 := Below.refl W.heap.size W
  obtain ⟨l0, x0, x1, x2, x3, -, -, -, -⟩ := (PX.out.below T0).facts
  go_wp2_with fail
  refine (H1.out _ (RX.out.below T0)).mono ?_
  rintro e w1 ⟨rfl, h⟩
  have T1 := belowTo T0 h
  clear h x0 x1 x2 x3 l0
  obtain ⟨l1, x0, x1, x2, x3, -, -, -, -⟩ := (PX.out.below T1).facts
  go_wp2_with fail
  refine (H2.out _ (RY.out.below T1)).mono ?_
  rintro e w2 ⟨rfl, h⟩
  have T2 := belowTo T1 h
  clear h x0 x1 x2 x3 l1
  obtain ⟨l2, x0, x1, x2, x3, -, -, -, -⟩ := (PX.out.below T2).facts
  go_wp2_with fail
  refine (H3.out _ (RY.out.below T2)).mono ?_
  rintro e w3 ⟨rfl, h⟩
  have T3 := belowTo T2 h
  clear h x0 x1 x2 x3 l2
  obtain ⟨l3, x0, x1, x2, x3, -, -, -, -⟩ := (PX.out.below T3).facts
  go_wp2_with fail
  refine (H4.out _ (RX.out.below T3) (RY.out.below T3)).mono ?_
  rintro e w4 ⟨v, rfl, i4, h⟩
  have T4 := belowTo T3 h
  obtain ⟨A4, c4, rfl, r4⟩ := i4.form
  clear i4
  clear h x0 x1 x2 x3 l3
  subst hr0
  go_wp2_with fail
  obtain ⟨Y, E⟩ : ∃ Y, Y = w4.alloc (.cells #[.bool (decide (m < 0)), .slice A4 (natL m.natAbs).length c4] 24) := ⟨_, rfl⟩
  have pg := Pair.new w4 24 (.bool (decide (m < 0))) (.slice A4 (natL m.natAbs).length c4)
  have T5 := T4.alloc T4.size (.cells #[.bool (decide (m < 0)), .slice A4 (natL m.natAbs).length c4] 24)
  have r5 := r4.alloc (.cells #[.bool (decide (m < 0)), .slice A4 (natL m.natAbs).length c4] 24)
  rw [← E] at pg T5 r5 ⊢
  have BB := Lib.hid (B0.out.trans (T5.mono B0.out.size))
  have PG := Lib.hid pg
  have R5 := Lib.hid r5
  clear E pg T5 r5 r4 T4 T3 T2 T1 T0
  refine wp_region_free [.any false (fun u V => IntOwn V 0 u 1) [], .val (.agg #[.bool (decide (m < 0)), .slice A4 (natL m.natAbs).length c4]) [], .val (.bool true) [0]] Y.heap.size Y [] blkInt _ mixedOrders2 (Nat.le_refl _) (Below.refl _ _) (KeptV.refl _ _ _) rfl (by kernel_rfl) (by kernel_rfl) (by kernel_rfl) (by kernel_rfl) (by kernel_rfl) (by kernel_rfl) (by kernel_rfl) (by kernel_rfl) rfl (by simp [oldsF]) ?_ ?_ ?_ ?_
  · simp only [StableF, and_true]
    exact fun u V V' h k => h.kept k (by decide)
  · simp only [OldsF]
  · simp (maxSteps := 4000000) [StepsF, DepF, freeAct, fill, pairs]
    repeat' (first | apply And.intro | (intro (u : Value)) | (intro (u : Nat)))
    all_goals first
    | (intro V hV hK
       have qg := PG.out.below hV
       obtain ⟨l9, a_g, b_g, -, -⟩ := qg.facts
       clear hV hK qg
       go_simp
       first
       | exact Below.refl _ _
       | ((with_reducible refine (H5.out V).mono ?_); rintro e w' ⟨v, rfl, hv, hb⟩; exact ⟨hv.base (Nat.zero_le _), hb⟩))
    | (intro V hV hK h1
       have rg := R5.out.below hV
       obtain ⟨A5, c5, rfl, r5⟩ := h1.raw
       clear hV hK h1
       go_simp
       refine (H6.out V A4 A5 c4 c5 rg r5).mono ?_
       rintro e w' ⟨rfl, hb⟩
       exact ⟨rfl, hb⟩)
  · simp [EndF, FactsF, freeAct, fill, pairs]
    intro u1 V hV hK h1 _ _ _
    have B9 := Lib.hid (BB.out.trans (hV.mono BB.out.size))
    clear hV hK h1
    go_wp2_with fail
    go_ret
    exact ⟨rfl, B9.out⟩

theorem ref02_Check (n1 n2 : Bool) (A B : Option Addr) (c e0 : Nat) (xs ys : List Nat) (w : World) (h : Raw w A c xs) (g : Raw w B e0 ys) :
    Calls Tryz.prog 21 #[.agg #[.bool n1, .slice A xs.length c, .bool n2, .slice B ys.length e0]] w fun e w' => e = .returned (.int .i64 (chkE n1 n2 xs ys)) ∧ Below w.heap.size w w' := by
  unfold chkE mkOk
  cases o1 : okI n1 xs with
  | false => exact ref02_Check_bad_one n1 n2 A B c e0 xs ys o1 w h g
  | true =>
    cases o2 : okI n2 ys with
    | false => exact ref02_Check_bad_two n1 n2 A B c e0 xs ys o1 o2 w h g
    | true =>
      obtain ⟨a1, a2, a3⟩ := ok_num h.limbs o1
      obtain ⟨b1, b2, b3⟩ := ok_num g.limbs o2
      generalize ival n1 xs = x at a1 a2 a3 ⊢
      generalize ival n2 ys = y at b1 b2 b3 ⊢
      subst a1 a2 b1 b2
      simp only [Bool.and_self, if_true]
      by_cases hy : 0 < y
      · by_cases hg : gcdZ x y = 1
        · rw [if_pos ⟨hy, hg⟩]
          exact ref02_Check_fine x y A B c e0 w h g a3 b3 hy hg
        · rw [if_neg fun q => hg q.2]
          exact ref02_Check_more x y A B c e0 w h g a3 b3 hy hg
      · rw [if_neg fun q => hy q.1]
        exact ref02_Check_low x y A B c e0 w h g a3 b3 (by omega)
end Go.Proofs.YtadmoheohmbieaaGreatDoor

/- Check of package frac. -/
namespace Go.Proofs.YtadmoheohmbieaaGreatDoor
open Go.RowKit

end Go.Proofs.YtadmoheohmbieaaGreatDoor

/- What lowest terms may cost. -/
namespace Go.Proofs.YtadmoheohmbieaaGreatDoor
open Go.RowKit

def costLow (a b : Nat) : Int := ((min a 1048576 : Nat) : Int) * ((min b 1048576 : Nat) : Int) / 16 * 1024
set_option maxRecDepth 100000 in
set_option maxHeartbeats 400000 in
theorem cost_low (n1 n2 : Bool) (A B : Option Addr) (c e0 : Nat) (xs ys : List Nat) (w : World) (h : Raw w A c xs) (g : Raw w B e0 ys) :
    Calls Tryz.prog 13 #[.agg #[.bool n1, .slice A xs.length c], .agg #[.bool n2, .slice B ys.length e0]] w fun e w' => e = .returned (.int .i64 (costLow xs.length ys.length)) ∧ Below w.heap.size w w' := by
  have h1 := h.cap
  have h2 := h.most
  have g1 := g.cap
  have g2 := g.most
  generalize xs.length = a at h1 ⊢
  generalize ys.length = b at g1 ⊢
  clear h g
  have ha : (a : Int) ≤ 9223372036854775807 := by omega
  have hb : (b : Int) ≤ 9223372036854775807 := by omega
  clear h1 h2 g1 g2
  have b0 := Lib.hid (((Below.refl w.heap.size w).alloc (Nat.le_refl _) (.cells #[.bool n1, .slice A a c] 24)).alloc (by simp) (.cells #[.bool n2, .slice B b e0] 24))
  go_enter Tryz.func13, Tryz.ntmps13
  go_wp2_with fail
  go_ret
  refine ⟨?_, b0.out⟩
  obtain ⟨p, hp⟩ : ∃ p : Int, p = min (a : Int) 1048576 := ⟨_, rfl⟩
  obtain ⟨q, hq⟩ : ∃ q : Int, q = min (b : Int) 1048576 := ⟨_, rfl⟩
  have p0 : 0 ≤ p ∧ p ≤ 1048576 := by omega
  have q0 : 0 ≤ q ∧ q ≤ 1048576 := by omega
  have e : costLow a b = p * q / 16 * 1024 := by
    unfold costLow
    rw [show ((min a 1048576 : Nat) : Int) = p by omega, show ((min b 1048576 : Nat) : Int) = q by omega]
  rw [e, ← hp, ← hq]
  have m0 : 0 ≤ p * q := Int.mul_nonneg p0.1 q0.1
  have m1 : p * q ≤ 1048576 * 1048576 := Int.mul_le_mul p0.2 q0.2 q0.1 (by decide)
  generalize p * q = z at m0 m1 ⊢
  have w1 : wrap64 z = z := by unfold wrap64; omega
  have w2 : wrap64 (z.tdiv 16) = z / 16 := by
    rw [Int.tdiv_eq_ediv_of_nonneg m0]
    unfold wrap64; omega
  have w3 : wrap64 (z / 16 * 1024) = z / 16 * 1024 := by unfold wrap64; omega
  rw [w1, w2, w3]
  rfl
end Go.Proofs.YtadmoheohmbieaaGreatDoor

/- The other lists of a Book, of which there is none. (Written by wip/book/gennil.py.) -/
namespace Go.Proofs.YtadmoheohmbieaaGreatDoor
open Go.RowKit

set_option maxRecDepth 100000 in
set_option maxHeartbeats 400000 in
theorem fill_Number (b m : Nat) (lims : Value) (w : World) (h : Blk w b tBook (bookC m lims)) :
    Calls Tryz.prog 73 #[.pointer (some ⟨b, 0, none⟩)] w fun e w' => e = .returned (.tuple #[]) ∧ w = w' := by
  have c := h.cell 2
  simp at c
  clear h
  go_enter Tryz.func73, Tryz.ntmps73
  go_wp2_with fail
  go_loop [2] (fun v => v = .int .i64 0) (fun _ => 0)
  case atStart => exact rfl
  case round =>
    subst hrel
    go_wp2_with fail
    exact bodyPost_end (v := .tuple #[]) (by simp [results, Tryz.results73, go_sem]) rfl ⟨rfl, rfl⟩

set_option maxRecDepth 100000 in
set_option maxHeartbeats 400000 in
theorem grow_Number (b m : Nat) (lims : Value) (w : World) (h : Blk w b tBook (bookC m lims)) :
    Calls Tryz.prog 89 #[.pointer (some ⟨b, 0, none⟩)] w fun e w' => e = .returned (.tuple #[]) ∧ w = w' := by
  have c := h.cell 2
  simp at c
  clear h
  go_enter Tryz.func89, Tryz.ntmps89
  go_wp2_with fail
  go_loop [2] (fun v => v = .int .i64 0) (fun _ => 0)
  case atStart => exact rfl
  case round =>
    subst hrel
    go_wp2_with fail
    exact bodyPost_end (v := .tuple #[]) (by simp [results, Tryz.results89, go_sem]) rfl ⟨rfl, rfl⟩

set_option maxRecDepth 100000 in
set_option maxHeartbeats 400000 in
theorem look_Number (b m : Nat) (lims : Value) (w : World) (h : Blk w b tBook (bookC m lims)) :
    Calls Tryz.prog 105 #[.pointer (some ⟨b, 0, none⟩)] w fun e w' => e = .returned (.bool true) ∧ w = w' := by
  have c := h.cell 2
  simp at c
  clear h
  go_enter Tryz.func105, Tryz.ntmps105
  go_wp2_with fail
  go_loop [3] (fun v => v = .int .i64 0) (fun _ => 0)
  case atStart => exact rfl
  case round =>
    subst hrel
    go_wp2_with fail
    go_ret
    exact ⟨rfl, rfl⟩

set_option maxRecDepth 100000 in
set_option maxHeartbeats 400000 in
theorem fill_Float (b m : Nat) (lims : Value) (w : World) (h : Blk w b tBook (bookC m lims)) :
    Calls Tryz.prog 74 #[.pointer (some ⟨b, 0, none⟩)] w fun e w' => e = .returned (.tuple #[]) ∧ w = w' := by
  have c := h.cell 3
  simp at c
  clear h
  go_enter Tryz.func74, Tryz.ntmps74
  go_wp2_with fail
  go_loop [2] (fun v => v = .int .i64 0) (fun _ => 0)
  case atStart => exact rfl
  case round =>
    subst hrel
    go_wp2_with fail
    exact bodyPost_end (v := .tuple #[]) (by simp [results, Tryz.results74, go_sem]) rfl ⟨rfl, rfl⟩

set_option maxRecDepth 100000 in
set_option maxHeartbeats 400000 in
theorem grow_Float (b m : Nat) (lims : Value) (w : World) (h : Blk w b tBook (bookC m lims)) :
    Calls Tryz.prog 90 #[.pointer (some ⟨b, 0, none⟩)] w fun e w' => e = .returned (.tuple #[]) ∧ w = w' := by
  have c := h.cell 3
  simp at c
  clear h
  go_enter Tryz.func90, Tryz.ntmps90
  go_wp2_with fail
  go_loop [2] (fun v => v = .int .i64 0) (fun _ => 0)
  case atStart => exact rfl
  case round =>
    subst hrel
    go_wp2_with fail
    exact bodyPost_end (v := .tuple #[]) (by simp [results, Tryz.results90, go_sem]) rfl ⟨rfl, rfl⟩

set_option maxRecDepth 100000 in
set_option maxHeartbeats 400000 in
theorem look_Float (b m : Nat) (lims : Value) (w : World) (h : Blk w b tBook (bookC m lims)) :
    Calls Tryz.prog 106 #[.pointer (some ⟨b, 0, none⟩)] w fun e w' => e = .returned (.bool true) ∧ w = w' := by
  have c := h.cell 3
  simp at c
  clear h
  go_enter Tryz.func106, Tryz.ntmps106
  go_wp2_with fail
  go_loop [3] (fun v => v = .int .i64 0) (fun _ => 0)
  case atStart => exact rfl
  case round =>
    subst hrel
    go_wp2_with fail
    go_ret
    exact ⟨rfl, rfl⟩

set_option maxRecDepth 100000 in
set_option maxHeartbeats 400000 in
theorem fill_Complex (b m : Nat) (lims : Value) (w : World) (h : Blk w b tBook (bookC m lims)) :
    Calls Tryz.prog 75 #[.pointer (some ⟨b, 0, none⟩)] w fun e w' => e = .returned (.tuple #[]) ∧ w = w' := by
  have c := h.cell 4
  simp at c
  clear h
  go_enter Tryz.func75, Tryz.ntmps75
  go_wp2_with fail
  go_loop [2] (fun v => v = .int .i64 0) (fun _ => 0)
  case atStart => exact rfl
  case round =>
    subst hrel
    go_wp2_with fail
    exact bodyPost_end (v := .tuple #[]) (by simp [results, Tryz.results75, go_sem]) rfl ⟨rfl, rfl⟩

set_option maxRecDepth 100000 in
set_option maxHeartbeats 400000 in
theorem grow_Complex (b m : Nat) (lims : Value) (w : World) (h : Blk w b tBook (bookC m lims)) :
    Calls Tryz.prog 91 #[.pointer (some ⟨b, 0, none⟩)] w fun e w' => e = .returned (.tuple #[]) ∧ w = w' := by
  have c := h.cell 4
  simp at c
  clear h
  go_enter Tryz.func91, Tryz.ntmps91
  go_wp2_with fail
  go_loop [2] (fun v => v = .int .i64 0) (fun _ => 0)
  case atStart => exact rfl
  case round =>
    subst hrel
    go_wp2_with fail
    exact bodyPost_end (v := .tuple #[]) (by simp [results, Tryz.results91, go_sem]) rfl ⟨rfl, rfl⟩

set_option maxRecDepth 100000 in
set_option maxHeartbeats 400000 in
theorem look_Complex (b m : Nat) (lims : Value) (w : World) (h : Blk w b tBook (bookC m lims)) :
    Calls Tryz.prog 107 #[.pointer (some ⟨b, 0, none⟩)] w fun e w' => e = .returned (.bool true) ∧ w = w' := by
  have c := h.cell 4
  simp at c
  clear h
  go_enter Tryz.func107, Tryz.ntmps107
  go_wp2_with fail
  go_loop [3] (fun v => v = .int .i64 0) (fun _ => 0)
  case atStart => exact rfl
  case round =>
    subst hrel
    go_wp2_with fail
    go_ret
    exact ⟨rfl, rfl⟩

set_option maxRecDepth 100000 in
set_option maxHeartbeats 400000 in
theorem fill_Text (b m : Nat) (lims : Value) (w : World) (h : Blk w b tBook (bookC m lims)) :
    Calls Tryz.prog 76 #[.pointer (some ⟨b, 0, none⟩)] w fun e w' => e = .returned (.tuple #[]) ∧ w = w' := by
  have c := h.cell 5
  simp at c
  clear h
  go_enter Tryz.func76, Tryz.ntmps76
  go_wp2_with fail
  go_loop [2] (fun v => v = .int .i64 0) (fun _ => 0)
  case atStart => exact rfl
  case round =>
    subst hrel
    go_wp2_with fail
    exact bodyPost_end (v := .tuple #[]) (by simp [results, Tryz.results76, go_sem]) rfl ⟨rfl, rfl⟩

set_option maxRecDepth 100000 in
set_option maxHeartbeats 400000 in
theorem grow_Text (b m : Nat) (lims : Value) (w : World) (h : Blk w b tBook (bookC m lims)) :
    Calls Tryz.prog 92 #[.pointer (some ⟨b, 0, none⟩)] w fun e w' => e = .returned (.tuple #[]) ∧ w = w' := by
  have c := h.cell 5
  simp at c
  clear h
  go_enter Tryz.func92, Tryz.ntmps92
  go_wp2_with fail
  go_loop [2] (fun v => v = .int .i64 0) (fun _ => 0)
  case atStart => exact rfl
  case round =>
    subst hrel
    go_wp2_with fail
    exact bodyPost_end (v := .tuple #[]) (by simp [results, Tryz.results92, go_sem]) rfl ⟨rfl, rfl⟩

set_option maxRecDepth 100000 in
set_option maxHeartbeats 400000 in
theorem look_Text (b m : Nat) (lims : Value) (w : World) (h : Blk w b tBook (bookC m lims)) :
    Calls Tryz.prog 108 #[.pointer (some ⟨b, 0, none⟩)] w fun e w' => e = .returned (.bool true) ∧ w = w' := by
  have c := h.cell 5
  simp at c
  clear h
  go_enter Tryz.func108, Tryz.ntmps108
  go_wp2_with fail
  go_loop [3] (fun v => v = .int .i64 0) (fun _ => 0)
  case atStart => exact rfl
  case round =>
    subst hrel
    go_wp2_with fail
    go_ret
    exact ⟨rfl, rfl⟩

set_option maxRecDepth 100000 in
set_option maxHeartbeats 400000 in
theorem fill_Frac (b m : Nat) (lims : Value) (w : World) (h : Blk w b tBook (bookC m lims)) :
    Calls Tryz.prog 77 #[.pointer (some ⟨b, 0, none⟩)] w fun e w' => e = .returned (.tuple #[]) ∧ w = w' := by
  have c := h.cell 6
  simp at c
  clear h
  go_enter Tryz.func77, Tryz.ntmps77
  go_wp2_with fail
  go_loop [2] (fun v => v = .int .i64 0) (fun _ => 0)
  case atStart => exact rfl
  case round =>
    subst hrel
    go_wp2_with fail
    exact bodyPost_end (v := .tuple #[]) (by simp [results, Tryz.results77, go_sem]) rfl ⟨rfl, rfl⟩

set_option maxRecDepth 100000 in
set_option maxHeartbeats 400000 in
theorem grow_Frac (b m : Nat) (lims : Value) (w : World) (h : Blk w b tBook (bookC m lims)) :
    Calls Tryz.prog 93 #[.pointer (some ⟨b, 0, none⟩)] w fun e w' => e = .returned (.tuple #[]) ∧ w = w' := by
  have c := h.cell 6
  simp at c
  clear h
  go_enter Tryz.func93, Tryz.ntmps93
  go_wp2_with fail
  go_loop [2] (fun v => v = .int .i64 0) (fun _ => 0)
  case atStart => exact rfl
  case round =>
    subst hrel
    go_wp2_with fail
    exact bodyPost_end (v := .tuple #[]) (by simp [results, Tryz.results93, go_sem]) rfl ⟨rfl, rfl⟩

set_option maxRecDepth 100000 in
set_option maxHeartbeats 400000 in
theorem look_Frac (b m : Nat) (lims : Value) (w : World) (h : Blk w b tBook (bookC m lims)) :
    Calls Tryz.prog 109 #[.pointer (some ⟨b, 0, none⟩)] w fun e w' => e = .returned (.bool true) ∧ w = w' := by
  have c := h.cell 6
  simp at c
  clear h
  go_enter Tryz.func109, Tryz.ntmps109
  go_wp2_with fail
  go_loop [3] (fun v => v = .int .i64 0) (fun _ => 0)
  case atStart => exact rfl
  case round =>
    subst hrel
    go_wp2_with fail
    go_ret
    exact ⟨rfl, rfl⟩

set_option maxRecDepth 100000 in
set_option maxHeartbeats 400000 in
theorem fill_Gauss (b m : Nat) (lims : Value) (w : World) (h : Blk w b tBook (bookC m lims)) :
    Calls Tryz.prog 78 #[.pointer (some ⟨b, 0, none⟩)] w fun e w' => e = .returned (.tuple #[]) ∧ w = w' := by
  have c := h.cell 7
  simp at c
  clear h
  go_enter Tryz.func78, Tryz.ntmps78
  go_wp2_with fail
  go_loop [2] (fun v => v = .int .i64 0) (fun _ => 0)
  case atStart => exact rfl
  case round =>
    subst hrel
    go_wp2_with fail
    exact bodyPost_end (v := .tuple #[]) (by simp [results, Tryz.results78, go_sem]) rfl ⟨rfl, rfl⟩

set_option maxRecDepth 100000 in
set_option maxHeartbeats 400000 in
theorem grow_Gauss (b m : Nat) (lims : Value) (w : World) (h : Blk w b tBook (bookC m lims)) :
    Calls Tryz.prog 94 #[.pointer (some ⟨b, 0, none⟩)] w fun e w' => e = .returned (.tuple #[]) ∧ w = w' := by
  have c := h.cell 7
  simp at c
  clear h
  go_enter Tryz.func94, Tryz.ntmps94
  go_wp2_with fail
  go_loop [2] (fun v => v = .int .i64 0) (fun _ => 0)
  case atStart => exact rfl
  case round =>
    subst hrel
    go_wp2_with fail
    exact bodyPost_end (v := .tuple #[]) (by simp [results, Tryz.results94, go_sem]) rfl ⟨rfl, rfl⟩

set_option maxRecDepth 100000 in
set_option maxHeartbeats 400000 in
theorem look_Gauss (b m : Nat) (lims : Value) (w : World) (h : Blk w b tBook (bookC m lims)) :
    Calls Tryz.prog 110 #[.pointer (some ⟨b, 0, none⟩)] w fun e w' => e = .returned (.bool true) ∧ w = w' := by
  have c := h.cell 7
  simp at c
  clear h
  go_enter Tryz.func110, Tryz.ntmps110
  go_wp2_with fail
  go_loop [3] (fun v => v = .int .i64 0) (fun _ => 0)
  case atStart => exact rfl
  case round =>
    subst hrel
    go_wp2_with fail
    go_ret
    exact ⟨rfl, rfl⟩

set_option maxRecDepth 100000 in
set_option maxHeartbeats 400000 in
theorem fill_Ray (b m : Nat) (lims : Value) (w : World) (h : Blk w b tBook (bookC m lims)) :
    Calls Tryz.prog 79 #[.pointer (some ⟨b, 0, none⟩)] w fun e w' => e = .returned (.tuple #[]) ∧ w = w' := by
  have c := h.cell 8
  simp at c
  clear h
  go_enter Tryz.func79, Tryz.ntmps79
  go_wp2_with fail
  go_loop [2] (fun v => v = .int .i64 0) (fun _ => 0)
  case atStart => exact rfl
  case round =>
    subst hrel
    go_wp2_with fail
    exact bodyPost_end (v := .tuple #[]) (by simp [results, Tryz.results79, go_sem]) rfl ⟨rfl, rfl⟩

set_option maxRecDepth 100000 in
set_option maxHeartbeats 400000 in
theorem grow_Ray (b m : Nat) (lims : Value) (w : World) (h : Blk w b tBook (bookC m lims)) :
    Calls Tryz.prog 95 #[.pointer (some ⟨b, 0, none⟩)] w fun e w' => e = .returned (.tuple #[]) ∧ w = w' := by
  have c := h.cell 8
  simp at c
  clear h
  go_enter Tryz.func95, Tryz.ntmps95
  go_wp2_with fail
  go_loop [2] (fun v => v = .int .i64 0) (fun _ => 0)
  case atStart => exact rfl
  case round =>
    subst hrel
    go_wp2_with fail
    exact bodyPost_end (v := .tuple #[]) (by simp [results, Tryz.results95, go_sem]) rfl ⟨rfl, rfl⟩

set_option maxRecDepth 100000 in
set_option maxHeartbeats 400000 in
theorem look_Ray (b m : Nat) (lims : Value) (w : World) (h : Blk w b tBook (bookC m lims)) :
    Calls Tryz.prog 111 #[.pointer (some ⟨b, 0, none⟩)] w fun e w' => e = .returned (.bool true) ∧ w = w' := by
  have c := h.cell 8
  simp at c
  clear h
  go_enter Tryz.func111, Tryz.ntmps111
  go_wp2_with fail
  go_loop [3] (fun v => v = .int .i64 0) (fun _ => 0)
  case atStart => exact rfl
  case round =>
    subst hrel
    go_wp2_with fail
    go_ret
    exact ⟨rfl, rfl⟩

set_option maxRecDepth 100000 in
set_option maxHeartbeats 400000 in
theorem fill_Element (b m : Nat) (lims : Value) (w : World) (h : Blk w b tBook (bookC m lims)) :
    Calls Tryz.prog 80 #[.pointer (some ⟨b, 0, none⟩)] w fun e w' => e = .returned (.tuple #[]) ∧ w = w' := by
  have c := h.cell 9
  simp at c
  clear h
  go_enter Tryz.func80, Tryz.ntmps80
  go_wp2_with fail
  go_loop [2] (fun v => v = .int .i64 0) (fun _ => 0)
  case atStart => exact rfl
  case round =>
    subst hrel
    go_wp2_with fail
    exact bodyPost_end (v := .tuple #[]) (by simp [results, Tryz.results80, go_sem]) rfl ⟨rfl, rfl⟩

set_option maxRecDepth 100000 in
set_option maxHeartbeats 400000 in
theorem grow_Element (b m : Nat) (lims : Value) (w : World) (h : Blk w b tBook (bookC m lims)) :
    Calls Tryz.prog 96 #[.pointer (some ⟨b, 0, none⟩)] w fun e w' => e = .returned (.tuple #[]) ∧ w = w' := by
  have c := h.cell 9
  simp at c
  clear h
  go_enter Tryz.func96, Tryz.ntmps96
  go_wp2_with fail
  go_loop [2] (fun v => v = .int .i64 0) (fun _ => 0)
  case atStart => exact rfl
  case round =>
    subst hrel
    go_wp2_with fail
    exact bodyPost_end (v := .tuple #[]) (by simp [results, Tryz.results96, go_sem]) rfl ⟨rfl, rfl⟩

set_option maxRecDepth 100000 in
set_option maxHeartbeats 400000 in
theorem look_Element (b m : Nat) (lims : Value) (w : World) (h : Blk w b tBook (bookC m lims)) :
    Calls Tryz.prog 112 #[.pointer (some ⟨b, 0, none⟩)] w fun e w' => e = .returned (.bool true) ∧ w = w' := by
  have c := h.cell 9
  simp at c
  clear h
  go_enter Tryz.func112, Tryz.ntmps112
  go_wp2_with fail
  go_loop [3] (fun v => v = .int .i64 0) (fun _ => 0)
  case atStart => exact rfl
  case round =>
    subst hrel
    go_wp2_with fail
    go_ret
    exact ⟨rfl, rfl⟩

set_option maxRecDepth 100000 in
set_option maxHeartbeats 400000 in
theorem fill_Coat (b m : Nat) (lims : Value) (w : World) (h : Blk w b tBook (bookC m lims)) :
    Calls Tryz.prog 81 #[.pointer (some ⟨b, 0, none⟩)] w fun e w' => e = .returned (.tuple #[]) ∧ w = w' := by
  have c := h.cell 10
  simp at c
  clear h
  go_enter Tryz.func81, Tryz.ntmps81
  go_wp2_with fail
  go_loop [2] (fun v => v = .int .i64 0) (fun _ => 0)
  case atStart => exact rfl
  case round =>
    subst hrel
    go_wp2_with fail
    exact bodyPost_end (v := .tuple #[]) (by simp [results, Tryz.results81, go_sem]) rfl ⟨rfl, rfl⟩

set_option maxRecDepth 100000 in
set_option maxHeartbeats 400000 in
theorem grow_Coat (b m : Nat) (lims : Value) (w : World) (h : Blk w b tBook (bookC m lims)) :
    Calls Tryz.prog 97 #[.pointer (some ⟨b, 0, none⟩)] w fun e w' => e = .returned (.tuple #[]) ∧ w = w' := by
  have c := h.cell 10
  simp at c
  clear h
  go_enter Tryz.func97, Tryz.ntmps97
  go_wp2_with fail
  go_loop [2] (fun v => v = .int .i64 0) (fun _ => 0)
  case atStart => exact rfl
  case round =>
    subst hrel
    go_wp2_with fail
    exact bodyPost_end (v := .tuple #[]) (by simp [results, Tryz.results97, go_sem]) rfl ⟨rfl, rfl⟩

set_option maxRecDepth 100000 in
set_option maxHeartbeats 400000 in
theorem look_Coat (b m : Nat) (lims : Value) (w : World) (h : Blk w b tBook (bookC m lims)) :
    Calls Tryz.prog 113 #[.pointer (some ⟨b, 0, none⟩)] w fun e w' => e = .returned (.bool true) ∧ w = w' := by
  have c := h.cell 10
  simp at c
  clear h
  go_enter Tryz.func113, Tryz.ntmps113
  go_wp2_with fail
  go_loop [3] (fun v => v = .int .i64 0) (fun _ => 0)
  case atStart => exact rfl
  case round =>
    subst hrel
    go_wp2_with fail
    go_ret
    exact ⟨rfl, rfl⟩

set_option maxRecDepth 100000 in
set_option maxHeartbeats 400000 in
theorem fill_Disc (b m : Nat) (lims : Value) (w : World) (h : Blk w b tBook (bookC m lims)) :
    Calls Tryz.prog 82 #[.pointer (some ⟨b, 0, none⟩)] w fun e w' => e = .returned (.tuple #[]) ∧ w = w' := by
  have c := h.cell 11
  simp at c
  clear h
  go_enter Tryz.func82, Tryz.ntmps82
  go_wp2_with fail
  go_loop [2] (fun v => v = .int .i64 0) (fun _ => 0)
  case atStart => exact rfl
  case round =>
    subst hrel
    go_wp2_with fail
    exact bodyPost_end (v := .tuple #[]) (by simp [results, Tryz.results82, go_sem]) rfl ⟨rfl, rfl⟩

set_option maxRecDepth 100000 in
set_option maxHeartbeats 400000 in
theorem grow_Disc (b m : Nat) (lims : Value) (w : World) (h : Blk w b tBook (bookC m lims)) :
    Calls Tryz.prog 98 #[.pointer (some ⟨b, 0, none⟩)] w fun e w' => e = .returned (.tuple #[]) ∧ w = w' := by
  have c := h.cell 11
  simp at c
  clear h
  go_enter Tryz.func98, Tryz.ntmps98
  go_wp2_with fail
  go_loop [2] (fun v => v = .int .i64 0) (fun _ => 0)
  case atStart => exact rfl
  case round =>
    subst hrel
    go_wp2_with fail
    exact bodyPost_end (v := .tuple #[]) (by simp [results, Tryz.results98, go_sem]) rfl ⟨rfl, rfl⟩

set_option maxRecDepth 100000 in
set_option maxHeartbeats 400000 in
theorem look_Disc (b m : Nat) (lims : Value) (w : World) (h : Blk w b tBook (bookC m lims)) :
    Calls Tryz.prog 114 #[.pointer (some ⟨b, 0, none⟩)] w fun e w' => e = .returned (.bool true) ∧ w = w' := by
  have c := h.cell 11
  simp at c
  clear h
  go_enter Tryz.func114, Tryz.ntmps114
  go_wp2_with fail
  go_loop [3] (fun v => v = .int .i64 0) (fun _ => 0)
  case atStart => exact rfl
  case round =>
    subst hrel
    go_wp2_with fail
    go_ret
    exact ⟨rfl, rfl⟩

set_option maxRecDepth 100000 in
set_option maxHeartbeats 400000 in
theorem fill_Part (b m : Nat) (lims : Value) (w : World) (h : Blk w b tBook (bookC m lims)) :
    Calls Tryz.prog 83 #[.pointer (some ⟨b, 0, none⟩)] w fun e w' => e = .returned (.tuple #[]) ∧ w = w' := by
  have c := h.cell 12
  simp at c
  clear h
  go_enter Tryz.func83, Tryz.ntmps83
  go_wp2_with fail
  go_loop [2] (fun v => v = .int .i64 0) (fun _ => 0)
  case atStart => exact rfl
  case round =>
    subst hrel
    go_wp2_with fail
    exact bodyPost_end (v := .tuple #[]) (by simp [results, Tryz.results83, go_sem]) rfl ⟨rfl, rfl⟩

set_option maxRecDepth 100000 in
set_option maxHeartbeats 400000 in
theorem grow_Part (b m : Nat) (lims : Value) (w : World) (h : Blk w b tBook (bookC m lims)) :
    Calls Tryz.prog 99 #[.pointer (some ⟨b, 0, none⟩)] w fun e w' => e = .returned (.tuple #[]) ∧ w = w' := by
  have c := h.cell 12
  simp at c
  clear h
  go_enter Tryz.func99, Tryz.ntmps99
  go_wp2_with fail
  go_loop [2] (fun v => v = .int .i64 0) (fun _ => 0)
  case atStart => exact rfl
  case round =>
    subst hrel
    go_wp2_with fail
    exact bodyPost_end (v := .tuple #[]) (by simp [results, Tryz.results99, go_sem]) rfl ⟨rfl, rfl⟩

set_option maxRecDepth 100000 in
set_option maxHeartbeats 400000 in
theorem look_Part (b m : Nat) (lims : Value) (w : World) (h : Blk w b tBook (bookC m lims)) :
    Calls Tryz.prog 115 #[.pointer (some ⟨b, 0, none⟩)] w fun e w' => e = .returned (.bool true) ∧ w = w' := by
  have c := h.cell 12
  simp at c
  clear h
  go_enter Tryz.func115, Tryz.ntmps115
  go_wp2_with fail
  go_loop [3] (fun v => v = .int .i64 0) (fun _ => 0)
  case atStart => exact rfl
  case round =>
    subst hrel
    go_wp2_with fail
    go_ret
    exact ⟨rfl, rfl⟩

set_option maxRecDepth 100000 in
set_option maxHeartbeats 400000 in
theorem fill_Def (b m : Nat) (lims : Value) (w : World) (h : Blk w b tBook (bookC m lims)) :
    Calls Tryz.prog 84 #[.pointer (some ⟨b, 0, none⟩)] w fun e w' => e = .returned (.tuple #[]) ∧ w = w' := by
  have c := h.cell 13
  simp at c
  clear h
  go_enter Tryz.func84, Tryz.ntmps84
  go_wp2_with fail
  go_loop [2] (fun v => v = .int .i64 0) (fun _ => 0)
  case atStart => exact rfl
  case round =>
    subst hrel
    go_wp2_with fail
    exact bodyPost_end (v := .tuple #[]) (by simp [results, Tryz.results84, go_sem]) rfl ⟨rfl, rfl⟩

set_option maxRecDepth 100000 in
set_option maxHeartbeats 400000 in
theorem grow_Def (b m : Nat) (lims : Value) (w : World) (h : Blk w b tBook (bookC m lims)) :
    Calls Tryz.prog 100 #[.pointer (some ⟨b, 0, none⟩)] w fun e w' => e = .returned (.tuple #[]) ∧ w = w' := by
  have c := h.cell 13
  simp at c
  clear h
  go_enter Tryz.func100, Tryz.ntmps100
  go_wp2_with fail
  go_loop [2] (fun v => v = .int .i64 0) (fun _ => 0)
  case atStart => exact rfl
  case round =>
    subst hrel
    go_wp2_with fail
    exact bodyPost_end (v := .tuple #[]) (by simp [results, Tryz.results100, go_sem]) rfl ⟨rfl, rfl⟩

set_option maxRecDepth 100000 in
set_option maxHeartbeats 400000 in
theorem look_Def (b m : Nat) (lims : Value) (w : World) (h : Blk w b tBook (bookC m lims)) :
    Calls Tryz.prog 116 #[.pointer (some ⟨b, 0, none⟩)] w fun e w' => e = .returned (.bool true) ∧ w = w' := by
  have c := h.cell 13
  simp at c
  clear h
  go_enter Tryz.func116, Tryz.ntmps116
  go_wp2_with fail
  go_loop [3] (fun v => v = .int .i64 0) (fun _ => 0)
  case atStart => exact rfl
  case round =>
    subst hrel
    go_wp2_with fail
    go_ret
    exact ⟨rfl, rfl⟩

set_option maxRecDepth 100000 in
set_option maxHeartbeats 400000 in
theorem fill_Item (b m : Nat) (lims : Value) (w : World) (h : Blk w b tBook (bookC m lims)) :
    Calls Tryz.prog 85 #[.pointer (some ⟨b, 0, none⟩)] w fun e w' => e = .returned (.tuple #[]) ∧ w = w' := by
  have c := h.cell 14
  simp at c
  clear h
  go_enter Tryz.func85, Tryz.ntmps85
  go_wp2_with fail
  go_loop [2] (fun v => v = .int .i64 0) (fun _ => 0)
  case atStart => exact rfl
  case round =>
    subst hrel
    go_wp2_with fail
    exact bodyPost_end (v := .tuple #[]) (by simp [results, Tryz.results85, go_sem]) rfl ⟨rfl, rfl⟩

set_option maxRecDepth 100000 in
set_option maxHeartbeats 400000 in
theorem grow_Item (b m : Nat) (lims : Value) (w : World) (h : Blk w b tBook (bookC m lims)) :
    Calls Tryz.prog 101 #[.pointer (some ⟨b, 0, none⟩)] w fun e w' => e = .returned (.tuple #[]) ∧ w = w' := by
  have c := h.cell 14
  simp at c
  clear h
  go_enter Tryz.func101, Tryz.ntmps101
  go_wp2_with fail
  go_loop [2] (fun v => v = .int .i64 0) (fun _ => 0)
  case atStart => exact rfl
  case round =>
    subst hrel
    go_wp2_with fail
    exact bodyPost_end (v := .tuple #[]) (by simp [results, Tryz.results101, go_sem]) rfl ⟨rfl, rfl⟩

set_option maxRecDepth 100000 in
set_option maxHeartbeats 400000 in
theorem look_Item (b m : Nat) (lims : Value) (w : World) (h : Blk w b tBook (bookC m lims)) :
    Calls Tryz.prog 117 #[.pointer (some ⟨b, 0, none⟩)] w fun e w' => e = .returned (.bool true) ∧ w = w' := by
  have c := h.cell 14
  simp at c
  clear h
  go_enter Tryz.func117, Tryz.ntmps117
  go_wp2_with fail
  go_loop [3] (fun v => v = .int .i64 0) (fun _ => 0)
  case atStart => exact rfl
  case round =>
    subst hrel
    go_wp2_with fail
    go_ret
    exact ⟨rfl, rfl⟩

set_option maxRecDepth 100000 in
set_option maxHeartbeats 400000 in
theorem fill_Act (b m : Nat) (lims : Value) (w : World) (h : Blk w b tBook (bookC m lims)) :
    Calls Tryz.prog 86 #[.pointer (some ⟨b, 0, none⟩)] w fun e w' => e = .returned (.tuple #[]) ∧ w = w' := by
  have c := h.cell 15
  simp at c
  clear h
  go_enter Tryz.func86, Tryz.ntmps86
  go_wp2_with fail
  go_loop [2] (fun v => v = .int .i64 0) (fun _ => 0)
  case atStart => exact rfl
  case round =>
    subst hrel
    go_wp2_with fail
    exact bodyPost_end (v := .tuple #[]) (by simp [results, Tryz.results86, go_sem]) rfl ⟨rfl, rfl⟩

set_option maxRecDepth 100000 in
set_option maxHeartbeats 400000 in
theorem grow_Act (b m : Nat) (lims : Value) (w : World) (h : Blk w b tBook (bookC m lims)) :
    Calls Tryz.prog 102 #[.pointer (some ⟨b, 0, none⟩)] w fun e w' => e = .returned (.tuple #[]) ∧ w = w' := by
  have c := h.cell 15
  simp at c
  clear h
  go_enter Tryz.func102, Tryz.ntmps102
  go_wp2_with fail
  go_loop [2] (fun v => v = .int .i64 0) (fun _ => 0)
  case atStart => exact rfl
  case round =>
    subst hrel
    go_wp2_with fail
    exact bodyPost_end (v := .tuple #[]) (by simp [results, Tryz.results102, go_sem]) rfl ⟨rfl, rfl⟩

set_option maxRecDepth 100000 in
set_option maxHeartbeats 400000 in
theorem look_Act (b m : Nat) (lims : Value) (w : World) (h : Blk w b tBook (bookC m lims)) :
    Calls Tryz.prog 118 #[.pointer (some ⟨b, 0, none⟩)] w fun e w' => e = .returned (.bool true) ∧ w = w' := by
  have c := h.cell 15
  simp at c
  clear h
  go_enter Tryz.func118, Tryz.ntmps118
  go_wp2_with fail
  go_loop [3] (fun v => v = .int .i64 0) (fun _ => 0)
  case atStart => exact rfl
  case round =>
    subst hrel
    go_wp2_with fail
    go_ret
    exact ⟨rfl, rfl⟩

set_option maxRecDepth 100000 in
set_option maxHeartbeats 400000 in
theorem fill_Reply (b m : Nat) (lims : Value) (w : World) (h : Blk w b tBook (bookC m lims)) :
    Calls Tryz.prog 87 #[.pointer (some ⟨b, 0, none⟩)] w fun e w' => e = .returned (.tuple #[]) ∧ w = w' := by
  have c := h.cell 16
  simp at c
  clear h
  go_enter Tryz.func87, Tryz.ntmps87
  go_wp2_with fail
  go_loop [2] (fun v => v = .int .i64 0) (fun _ => 0)
  case atStart => exact rfl
  case round =>
    subst hrel
    go_wp2_with fail
    exact bodyPost_end (v := .tuple #[]) (by simp [results, Tryz.results87, go_sem]) rfl ⟨rfl, rfl⟩

set_option maxRecDepth 100000 in
set_option maxHeartbeats 400000 in
theorem grow_Reply (b m : Nat) (lims : Value) (w : World) (h : Blk w b tBook (bookC m lims)) :
    Calls Tryz.prog 103 #[.pointer (some ⟨b, 0, none⟩)] w fun e w' => e = .returned (.tuple #[]) ∧ w = w' := by
  have c := h.cell 16
  simp at c
  clear h
  go_enter Tryz.func103, Tryz.ntmps103
  go_wp2_with fail
  go_loop [2] (fun v => v = .int .i64 0) (fun _ => 0)
  case atStart => exact rfl
  case round =>
    subst hrel
    go_wp2_with fail
    exact bodyPost_end (v := .tuple #[]) (by simp [results, Tryz.results103, go_sem]) rfl ⟨rfl, rfl⟩

set_option maxRecDepth 100000 in
set_option maxHeartbeats 400000 in
theorem look_Reply (b m : Nat) (lims : Value) (w : World) (h : Blk w b tBook (bookC m lims)) :
    Calls Tryz.prog 119 #[.pointer (some ⟨b, 0, none⟩)] w fun e w' => e = .returned (.bool true) ∧ w = w' := by
  have c := h.cell 16
  simp at c
  clear h
  go_enter Tryz.func119, Tryz.ntmps119
  go_wp2_with fail
  go_loop [3] (fun v => v = .int .i64 0) (fun _ => 0)
  case atStart => exact rfl
  case round =>
    subst hrel
    go_wp2_with fail
    go_ret
    exact ⟨rfl, rfl⟩
end Go.Proofs.YtadmoheohmbieaaGreatDoor
