/- Several texts in one: RefInt64, FOf, FCheck, FRefCheck, FCheckF. -/
import Derived.Test.YtmcnmoljliggfaaGreatDoorBt17
set_option maxRecDepth 100000
set_option maxHeartbeats 8000000
/- Int64 of the references. -/
namespace Go.Proofs.YtmcnmoljliggfaaGreatDoor
open Go.RowKit

theorem ok64' (n : Int) (h1 : -9223372036854775808 ≤ n) (h2 : n ≤ 9223372036854775807) : okI (decide (n < 0)) (natL n.natAbs) = true := by
  refine okI_true.2 ⟨?_, canon_natL _, fun h => ?_⟩
  · have := (natL_length_le (n := n.natAbs) (k := 2)).2 (by omega); omega
  · have := natL_eq_nil.1 h
    simp; omega
/- Of of package frac. -/

def zN (n d : Int) : Int := if d = 0 then 0 else lowN n d
def zD (n d : Int) : Int := if d = 0 then 0 else lowD n d
def zE (d : Int) : Int := if d = 0 then 3 else 0
/- Check of package ratio. (Written by wip/frac/genfcheck.py.) -/

theorem ratio_Check_bad_one (n1 n2 : Bool) (A B : Option Addr) (c e0 : Nat) (xs ys : List Nat) (o : okI n1 xs = false) (w : World) (h : Raw w A c xs) (g : Raw w B e0 ys) :
    Calls Tryz.prog 68 #[.agg #[.bool n1, .slice A xs.length c, .bool n2, .slice B ys.length e0]] w fun e w' => e = .returned (.int .i64 1) ∧ Below w.heap.size w w' := by
  have C1 := fun (V : World) (h : Raw V A c xs) => exact_Check_any n1 A c _ V h
  unfold errI at C1
  rw [if_neg (by rw [o]; decide)] at C1
  have H1 := Hd C1
  clear C1 o
  have px := Quad.new w (.bool n1) (.slice A xs.length c) (.bool n2) (.slice B ys.length e0)
  have b0 := (Below.refl w.heap.size w).alloc (Nat.le_refl _) (.cells #[.bool n1, .slice A xs.length c, .bool n2, .slice B ys.length e0] 27)
  have h1 := h.below b0
  have g1 := g.below b0
  have PX := Hd px
  have B0 := Hd b0
  have RX := Hd h1
  have RY := Hd g1
  clear px b0 h g h1 g1
  go_enter Tryz.func68, Tryz.ntmps68
  go_wp2_with fail
  obtain ⟨W, E⟩ : ∃ W, W = w.alloc (.cells #[.bool n1, .slice A xs.length c, .bool n2, .slice B ys.length e0] 27) := ⟨_, rfl⟩
  rw [← E] at PX B0 RX RY ⊢
  clear E
  have T0 := Below.refl W.heap.size W
  obtain ⟨l0, x0, x1, x2, x3, -, -, -, -⟩ := (PX.out.below T0).facts
  go_wp2_with fail
  refine (H1.out _ (RX.out.below T0)).mono ?_
  rintro e w1 ⟨rfl, h⟩
  have T1 := belowTo T0 h
  clear h x0 x1 x2 x3 l0
  have BB := belowTo B0.out T1
  go_wp2_with fail
  go_ret
  exact ⟨rfl, BB⟩

theorem ratio_Check_bad_two (n1 n2 : Bool) (A B : Option Addr) (c e0 : Nat) (xs ys : List Nat) (o1 : okI n1 xs = true) (o : okI n2 ys = false) (w : World) (h : Raw w A c xs) (g : Raw w B e0 ys) :
    Calls Tryz.prog 68 #[.agg #[.bool n1, .slice A xs.length c, .bool n2, .slice B ys.length e0]] w fun e w' => e = .returned (.int .i64 1) ∧ Below w.heap.size w w' := by
  have C1 := fun (V : World) (h : Raw V A c xs) => exact_Check_any n1 A c _ V h
  unfold errI at C1
  rw [if_pos o1] at C1
  have H1 := Hd C1
  have C2 := fun (V : World) (h : Raw V B e0 ys) => exact_Check_any n2 B e0 _ V h
  unfold errI at C2
  rw [if_neg (by rw [o]; decide)] at C2
  have H2 := Hd C2
  clear C2 o1
  clear C1 o
  have px := Quad.new w (.bool n1) (.slice A xs.length c) (.bool n2) (.slice B ys.length e0)
  have b0 := (Below.refl w.heap.size w).alloc (Nat.le_refl _) (.cells #[.bool n1, .slice A xs.length c, .bool n2, .slice B ys.length e0] 27)
  have h1 := h.below b0
  have g1 := g.below b0
  have PX := Hd px
  have B0 := Hd b0
  have RX := Hd h1
  have RY := Hd g1
  clear px b0 h g h1 g1
  go_enter Tryz.func68, Tryz.ntmps68
  go_wp2_with fail
  obtain ⟨W, E⟩ : ∃ W, W = w.alloc (.cells #[.bool n1, .slice A xs.length c, .bool n2, .slice B ys.length e0] 27) := ⟨_, rfl⟩
  rw [← E] at PX B0 RX RY ⊢
  clear E
  have T0 := Below.refl W.heap.size W
  obtain ⟨l0, x0, x1, x2, x3, -, -, -, -⟩ := (PX.out.below T0).facts
  go_wp2_with fail
  refine (H1.out _ (RX.out.below T0)).mono ?_
  rintro e w1 ⟨rfl, h⟩
  have T1 := belowTo T0 h
  clear h x0 x1 x2 x3 l0
  obtain ⟨l1, x0, x1, x2, x3, -, -, -, -⟩ := (PX.out.below T1).facts
  go_wp2_with fail
  refine (H2.out _ (RY.out.below T1)).mono ?_
  rintro e w2 ⟨rfl, h⟩
  have T2 := belowTo T1 h
  clear h x0 x1 x2 x3 l1
  have BB := belowTo B0.out T2
  go_wp2_with fail
  go_ret
  exact ⟨rfl, BB⟩

theorem ratio_Check_low (n d : Int) (A B : Option Addr) (c e0 : Nat) (w : World) (h : Raw w A c (natL n.natAbs)) (g : Raw w B e0 (natL d.natAbs)) (hn : Fit n) (hd : Fit d) (hd0 : d ≤ 0) :
    Calls Tryz.prog 68 #[.agg #[.bool (decide (n < 0)), .slice A (natL n.natAbs).length c, .bool (decide (d < 0)), .slice B (natL d.natAbs).length e0]] w fun e w' => e = .returned (.int .i64 1) ∧ Below w.heap.size w w' := by
  have C1 := fun (V : World) (h : Raw V A c (natL n.natAbs)) => exact_Check_any (decide (n < 0)) A c _ V h
  have C2 := fun (V : World) (h : Raw V B e0 (natL d.natAbs)) => exact_Check_any (decide (d < 0)) B e0 _ V h
  unfold errI at C1 C2
  rw [if_pos hn.ok] at C1
  rw [if_pos hd.ok] at C2
  have hln : lz n ≤ 2048 := hn
  have hld : lz d ≤ 2048 := hd
  obtain ⟨s, hs⟩ : ∃ k : Int, k = d.sign := ⟨_, rfl⟩
  have C3 := fun (V : World) (h : Raw V B e0 (natL d.natAbs)) => esign d s B e0 V h hs
  have hs1 : s ≤ 0 := by rw [hs]; exact Int.sign_nonpos_iff.2 hd0
  have H1 := Hd C1
  have H2 := Hd C2
  have H3 := Hd C3
  clear C1 C2 C3 hn hd hd0 hs hln hld
  have px := Quad.new w (.bool (decide (n < 0))) (.slice A (natL n.natAbs).length c) (.bool (decide (d < 0))) (.slice B (natL d.natAbs).length e0)
  have b0 := (Below.refl w.heap.size w).alloc (Nat.le_refl _) (.cells #[.bool (decide (n < 0)), .slice A (natL n.natAbs).length c, .bool (decide (d < 0)), .slice B (natL d.natAbs).length e0] 27)
  have h1 := h.below b0
  have g1 := g.below b0
  have PX := Hd px
  have B0 := Hd b0
  have RX := Hd h1
  have RY := Hd g1
  clear px b0 h g h1 g1
  go_enter Tryz.func68, Tryz.ntmps68
  go_wp2_with fail
  obtain ⟨W, E⟩ : ∃ W, W = w.alloc (.cells #[.bool (decide (n < 0)), .slice A (natL n.natAbs).length c, .bool (decide (d < 0)), .slice B (natL d.natAbs).length e0] 27) := ⟨_, rfl⟩
  rw [← E] at PX B0 RX RY ⊢
  clear E
  have T0 := Below.refl W.heap.size W
  obtain ⟨l0, x0, x1, x2, x3, -, -, -, -⟩ := (PX.out.below T0).facts
  go_wp2_with fail
  refine (H1.out _ (RX.out.below T0)).mono ?_
  rintro e w1 ⟨rfl, h⟩
  have T1 := belowTo T0 h
  clear h x0 x1 x2 x3 l0
  obtain ⟨l1, x0, x1, x2, x3, -, -, -, -⟩ := (PX.out.below T1).facts
  go_wp2_with fail
  refine (H2.out _ (RY.out.below T1)).mono ?_
  rintro e w2 ⟨rfl, h⟩
  have T2 := belowTo T1 h
  clear h x0 x1 x2 x3 l1
  obtain ⟨l2, x0, x1, x2, x3, -, -, -, -⟩ := (PX.out.below T2).facts
  go_wp2_with fail
  refine (H3.out _ (RY.out.below T2)).mono ?_
  rintro e w3 ⟨rfl, h⟩
  have T3 := belowTo T2 h
  clear h x0 x1 x2 x3 l2
  have BB := belowTo B0.out T3
  go_wp2_with fail
  go_ret
  exact ⟨rfl, BB⟩

theorem ratio_Check_fine (n d : Int) (A B : Option Addr) (c e0 : Nat) (w : World) (h : Raw w A c (natL n.natAbs)) (g : Raw w B e0 (natL d.natAbs)) (hn : Fit n) (hd : Fit d) (hd0 : 0 < d) (hg : gcdZ n d = 1) :
    Calls Tryz.prog 68 #[.agg #[.bool (decide (n < 0)), .slice A (natL n.natAbs).length c, .bool (decide (d < 0)), .slice B (natL d.natAbs).length e0]] w fun e w' => e = .returned (.int .i64 0) ∧ Below w.heap.size w w' := by
  have C1 := fun (V : World) (h : Raw V A c (natL n.natAbs)) => exact_Check_any (decide (n < 0)) A c _ V h
  have C2 := fun (V : World) (h : Raw V B e0 (natL d.natAbs)) => exact_Check_any (decide (d < 0)) B e0 _ V h
  unfold errI at C1 C2
  rw [if_pos hn.ok] at C1
  rw [if_pos hd.ok] at C2
  have hln : lz n ≤ 2048 := hn
  have hld : lz d ≤ 2048 := hd
  obtain ⟨s, hs⟩ : ∃ k : Int, k = d.sign := ⟨_, rfl⟩
  have C3 := fun (V : World) (h : Raw V B e0 (natL d.natAbs)) => esign d s B e0 V h hs
  have hs1 : 0 < s := by rw [hs]; exact Int.sign_pos_iff.2 hd0
  have H1 := Hd C1
  have H2 := Hd C2
  have H3 := Hd C3
  obtain ⟨m, hm⟩ : ∃ k : Int, k = gcdZ n d := ⟨_, rfl⟩
  have hml : lz m ≤ 2048 := by rw [hm]; exact Nat.le_trans (gcdZ_lz (by omega)) hld
  have hm0 : m = 1 := by rw [hm]; exact hg
  obtain ⟨r, hr⟩ : ∃ k : Int, k = cmpz m 1 := ⟨_, rfl⟩
  have C4 := fun (V : World) (h : Raw V A c (natL n.natAbs)) (g : Raw V B e0 (natL d.natAbs)) => ecommon n d m A B c e0 V h g (by omega) (by omega) hm
  have C5 := fun (V : World) => eof 1 1 rfl (by decide) (by decide) V
  have C6 := fun (V : World) (A' B' : Option Addr) (c' e' : Nat) (h : Raw V A' c' (natL m.natAbs)) (g : Raw V B' e' (natL (1 : Int).natAbs)) => ecmp m 1 r A' B' c' e' V h g (by omega) (by decide) hr
  obtain ⟨u, hu⟩ : ∃ k : Int, k = 1 := ⟨_, rfl⟩
  have hr0 : r = 0 := by rw [hr]; unfold cmpz; rw [hm0]; decide
  have H4 := Hd C4
  have H5 := Hd C5
  have H6 := Hd C6
  clear C1 C2 C3 C4 C5 C6 hn hd hd0 hg hs hln hld hm hml hm0 hr hu
  have px := Quad.new w (.bool (decide (n < 0))) (.slice A (natL n.natAbs).length c) (.bool (decide (d < 0))) (.slice B (natL d.natAbs).length e0)
  have b0 := (Below.refl w.heap.size w).alloc (Nat.le_refl _) (.cells #[.bool (decide (n < 0)), .slice A (natL n.natAbs).length c, .bool (decide (d < 0)), .slice B (natL d.natAbs).length e0] 27)
  have h1 := h.below b0
  have g1 := g.below b0
  have PX := Hd px
  have B0 := Hd b0
  have RX := Hd h1
  have RY := Hd g1
  clear px b0 h g h1 g1
  go_enter Tryz.func68, Tryz.ntmps68
  go_wp2_with fail
  obtain ⟨W, E⟩ : ∃ W, W = w.alloc (.cells #[.bool (decide (n < 0)), .slice A (natL n.natAbs).length c, .bool (decide (d < 0)), .slice B (natL d.natAbs).length e0] 27) := ⟨_, rfl⟩
  rw [← E] at PX B0 RX RY ⊢
  clear E
  have T0 := Below.refl W.heap.size W
  obtain ⟨l0, x0, x1, x2, x3, -, -, -, -⟩ := (PX.out.below T0).facts
  go_wp2_with fail
  refine (H1.out _ (RX.out.below T0)).mono ?_
  rintro e w1 ⟨rfl, h⟩
  have T1 := belowTo T0 h
  clear h x0 x1 x2 x3 l0
  obtain ⟨l1, x0, x1, x2, x3, -, -, -, -⟩ := (PX.out.below T1).facts
  go_wp2_with fail
  refine (H2.out _ (RY.out.below T1)).mono ?_
  rintro e w2 ⟨rfl, h⟩
  have T2 := belowTo T1 h
  clear h x0 x1 x2 x3 l1
  obtain ⟨l2, x0, x1, x2, x3, -, -, -, -⟩ := (PX.out.below T2).facts
  go_wp2_with fail
  refine (H3.out _ (RY.out.below T2)).mono ?_
  rintro e w3 ⟨rfl, h⟩
  have T3 := belowTo T2 h
  clear h x0 x1 x2 x3 l2
  obtain ⟨l3, x0, x1, x2, x3, -, -, -, -⟩ := (PX.out.below T3).facts
  go_wp2_with fail
  refine (H4.out _ (RX.out.below T3) (RY.out.below T3)).mono ?_
  rintro e w4 ⟨v, rfl, i4, h⟩
  have T4 := belowTo T3 h
  obtain ⟨A4, c4, rfl, r4⟩ := i4.raw
  clear i4
  clear h x0 x1 x2 x3 l3
  obtain ⟨l4, x0, x1, x2, x3, -, -, -, -⟩ := (PX.out.below T4).facts
  go_wp2_with fail
  refine (H5.out _).mono ?_
  rintro e w5 ⟨v, rfl, i5, h⟩
  have T5 := belowTo T4 h
  obtain ⟨A5, c5, rfl, r5⟩ := i5.raw
  have r45 := r4.below h
  clear i5 r4
  clear h x0 x1 x2 x3 l4
  obtain ⟨l5, x0, x1, x2, x3, -, -, -, -⟩ := (PX.out.below T5).facts
  go_wp2_with fail
  refine (H6.out _ A4 A5 c4 c5 r45 r5).mono ?_
  rintro e w6 ⟨rfl, h⟩
  have T6 := belowTo T5 h
  clear h x0 x1 x2 x3 l5
  have BB := belowTo B0.out T6
  go_wp2_with fail
  go_ret
  exact ⟨rfl, BB⟩

theorem ratio_Check_more (n d : Int) (A B : Option Addr) (c e0 : Nat) (w : World) (h : Raw w A c (natL n.natAbs)) (g : Raw w B e0 (natL d.natAbs)) (hn : Fit n) (hd : Fit d) (hd0 : 0 < d) (hg : gcdZ n d ≠ 1) :
    Calls Tryz.prog 68 #[.agg #[.bool (decide (n < 0)), .slice A (natL n.natAbs).length c, .bool (decide (d < 0)), .slice B (natL d.natAbs).length e0]] w fun e w' => e = .returned (.int .i64 1) ∧ Below w.heap.size w w' := by
  have C1 := fun (V : World) (h : Raw V A c (natL n.natAbs)) => exact_Check_any (decide (n < 0)) A c _ V h
  have C2 := fun (V : World) (h : Raw V B e0 (natL d.natAbs)) => exact_Check_any (decide (d < 0)) B e0 _ V h
  unfold errI at C1 C2
  rw [if_pos hn.ok] at C1
  rw [if_pos hd.ok] at C2
  have hln : lz n ≤ 2048 := hn
  have hld : lz d ≤ 2048 := hd
  obtain ⟨s, hs⟩ : ∃ k : Int, k = d.sign := ⟨_, rfl⟩
  have C3 := fun (V : World) (h : Raw V B e0 (natL d.natAbs)) => esign d s B e0 V h hs
  have hs1 : 0 < s := by rw [hs]; exact Int.sign_pos_iff.2 hd0
  have H1 := Hd C1
  have H2 := Hd C2
  have H3 := Hd C3
  obtain ⟨m, hm⟩ : ∃ k : Int, k = gcdZ n d := ⟨_, rfl⟩
  have hml : lz m ≤ 2048 := by rw [hm]; exact Nat.le_trans (gcdZ_lz (by omega)) hld
  have hm0 : m ≠ 1 := by rw [hm]; exact hg
  obtain ⟨r, hr⟩ : ∃ k : Int, k = cmpz m 1 := ⟨_, rfl⟩
  have C4 := fun (V : World) (h : Raw V A c (natL n.natAbs)) (g : Raw V B e0 (natL d.natAbs)) => ecommon n d m A B c e0 V h g (by omega) (by omega) hm
  have C5 := fun (V : World) => eof 1 1 rfl (by decide) (by decide) V
  have C6 := fun (V : World) (A' B' : Option Addr) (c' e' : Nat) (h : Raw V A' c' (natL m.natAbs)) (g : Raw V B' e' (natL (1 : Int).natAbs)) => ecmp m 1 r A' B' c' e' V h g (by omega) (by decide) hr
  obtain ⟨u, hu⟩ : ∃ k : Int, k = 1 := ⟨_, rfl⟩
  have hr0 : r ≠ 0 := by rw [hr]; unfold cmpz; split <;> (try split) <;> omega
  have H4 := Hd C4
  have H5 := Hd C5
  have H6 := Hd C6
  clear C1 C2 C3 C4 C5 C6 hn hd hd0 hg hs hln hld hm hml hm0 hr hu
  have px := Quad.new w (.bool (decide (n < 0))) (.slice A (natL n.natAbs).length c) (.bool (decide (d < 0))) (.slice B (natL d.natAbs).length e0)
  have b0 := (Below.refl w.heap.size w).alloc (Nat.le_refl _) (.cells #[.bool (decide (n < 0)), .slice A (natL n.natAbs).length c, .bool (decide (d < 0)), .slice B (natL d.natAbs).length e0] 27)
  have h1 := h.below b0
  have g1 := g.below b0
  have PX := Hd px
  have B0 := Hd b0
  have RX := Hd h1
  have RY := Hd g1
  clear px b0 h g h1 g1
  go_enter Tryz.func68, Tryz.ntmps68
  go_wp2_with fail
  obtain ⟨W, E⟩ : ∃ W, W = w.alloc (.cells #[.bool (decide (n < 0)), .slice A (natL n.natAbs).length c, .bool (decide (d < 0)), .slice B (natL d.natAbs).length e0] 27) := ⟨_, rfl⟩
  rw [← E] at PX B0 RX RY ⊢
  clear E
  have T0 := Below.refl W.heap.size W
  obtain ⟨l0, x0, x1, x2, x3, -, -, -, -⟩ := (PX.out.below T0).facts
  go_wp2_with fail
  refine (H1.out _ (RX.out.below T0)).mono ?_
  rintro e w1 ⟨rfl, h⟩
  have T1 := belowTo T0 h
  clear h x0 x1 x2 x3 l0
  obtain ⟨l1, x0, x1, x2, x3, -, -, -, -⟩ := (PX.out.below T1).facts
  go_wp2_with fail
  refine (H2.out _ (RY.out.below T1)).mono ?_
  rintro e w2 ⟨rfl, h⟩
  have T2 := belowTo T1 h
  clear h x0 x1 x2 x3 l1
  obtain ⟨l2, x0, x1, x2, x3, -, -, -, -⟩ := (PX.out.below T2).facts
  go_wp2_with fail
  refine (H3.out _ (RY.out.below T2)).mono ?_
  rintro e w3 ⟨rfl, h⟩
  have T3 := belowTo T2 h
  clear h x0 x1 x2 x3 l2
  obtain ⟨l3, x0, x1, x2, x3, -, -, -, -⟩ := (PX.out.below T3).facts
  go_wp2_with fail
  refine (H4.out _ (RX.out.below T3) (RY.out.below T3)).mono ?_
  rintro e w4 ⟨v, rfl, i4, h⟩
  have T4 := belowTo T3 h
  obtain ⟨A4, c4, rfl, r4⟩ := i4.raw
  clear i4
  clear h x0 x1 x2 x3 l3
  obtain ⟨l4, x0, x1, x2, x3, -, -, -, -⟩ := (PX.out.below T4).facts
  go_wp2_with fail
  refine (H5.out _).mono ?_
  rintro e w5 ⟨v, rfl, i5, h⟩
  have T5 := belowTo T4 h
  obtain ⟨A5, c5, rfl, r5⟩ := i5.raw
  have r45 := r4.below h
  clear i5 r4
  clear h x0 x1 x2 x3 l4
  obtain ⟨l5, x0, x1, x2, x3, -, -, -, -⟩ := (PX.out.below T5).facts
  go_wp2_with fail
  refine (H6.out _ A4 A5 c4 c5 r45 r5).mono ?_
  rintro e w6 ⟨rfl, h⟩
  have T6 := belowTo T5 h
  clear h x0 x1 x2 x3 l5
  have BB := belowTo B0.out T6
  go_wp2_with fail
  go_ret
  exact ⟨rfl, BB⟩

def chkE (n1 n2 : Bool) (xs ys : List Nat) : Int := if mkOk n1 n2 xs ys then (if 0 < ival n2 ys ∧ gcdZ (ival n1 xs) (ival n2 ys) = 1 then 0 else 1) else 1
theorem ratio_Check (n1 n2 : Bool) (A B : Option Addr) (c e0 : Nat) (xs ys : List Nat) (w : World) (h : Raw w A c xs) (g : Raw w B e0 ys) :
    Calls Tryz.prog 68 #[.agg #[.bool n1, .slice A xs.length c, .bool n2, .slice B ys.length e0]] w fun e w' => e = .returned (.int .i64 (chkE n1 n2 xs ys)) ∧ Below w.heap.size w w' := by
  unfold chkE mkOk
  cases o1 : okI n1 xs with
  | false => exact ratio_Check_bad_one n1 n2 A B c e0 xs ys o1 w h g
  | true =>
    cases o2 : okI n2 ys with
    | false => exact ratio_Check_bad_two n1 n2 A B c e0 xs ys o1 o2 w h g
    | true =>
      obtain ⟨a1, a2, a3⟩ := ok_num h.limbs o1
      obtain ⟨b1, b2, b3⟩ := ok_num g.limbs o2
      generalize ival n1 xs = x at a1 a2 a3 ⊢
      generalize ival n2 ys = y at b1 b2 b3 ⊢
      subst a1 a2 b1 b2
      simp only [Bool.and_self, if_true]
      by_cases hy : 0 < y
      · by_cases hg : gcdZ x y = 1
        · rw [if_pos ⟨hy, hg⟩]
          exact ratio_Check_fine x y A B c e0 w h g a3 b3 hy hg
        · rw [if_neg fun q => hg q.2]
          exact ratio_Check_more x y A B c e0 w h g a3 b3 hy hg
      · rw [if_neg fun q => hy q.1]
        exact ratio_Check_low x y A B c e0 w h g a3 b3 (by omega)
/- Check of the references of chapter 02. (Written by wip/frac/genfrefcheck.py.) -/

/- Check of package frac. -/

theorem frac_Check (n1 n2 : Bool) (A B : Option Addr) (c e0 : Nat) (xs ys : List Nat) (w : World) (h : Raw w A c xs) (g : Raw w B e0 ys) :
    Calls Tryz.prog 36 #[.agg #[.bool n1, .slice A xs.length c, .bool n2, .slice B ys.length e0]] w fun e w' => e = .returned (.int .i64 (chkE n1 n2 xs ys)) ∧ Below w.heap.size w w' := by
  have b0 := (Below.refl w.heap.size w).alloc (Nat.le_refl _) (.cells #[.bool n1, .slice A xs.length c, .bool n2, .slice B ys.length e0] 27)
  obtain ⟨k, hk⟩ : ∃ k : Int, k = chkE n1 n2 xs ys := ⟨_, rfl⟩
  have H := Hd (ratio_Check n1 n2 A B c e0 xs ys _ (h.below b0) (g.below b0))
  rw [← hk] at H ⊢
  have B0 := Hd b0
  clear h g b0 hk
  go_enter Tryz.func36, Tryz.ntmps36
  go_wp2_with fail
  refine H.out.mono ?_
  rintro e w1 ⟨rfl, hb⟩
  go_wp2_with fail
  go_ret
  exact ⟨rfl, belowTo B0.out hb⟩
end Go.Proofs.YtmcnmoljliggfaaGreatDoor
