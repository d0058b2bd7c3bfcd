/- Several texts in one: FOf, FCheck, FRefCheck, FCheckF, FCost. -/
import Derived.Test.YtdonecnhdkjniaaGreatDoorGx18
set_option maxRecDepth 100000
set_option maxHeartbeats 8000000
namespace Go.Proofs.YtdonecnhdkjniaaGreatDoor
open Go.RowKit

def zN (n d : Int) : Int := if d = 0 then 0 else YX n d
def zD (n d : Int) : Int := if d = 0 then 0 else YP n d
def zE (d : Int) : Int := if d = 0 then 3 else 0

theorem ratio_Check_bad_one (n1 n2 : Bool) (A B : Option Addr) (c e0 : Nat) (xs ys : List Nat) (o : okI n1 xs = false) (w : World) (h : Zm w A c xs) (g : Zm w B e0 ys) :
  Calls Tryz.prog 159 #[.agg #[.bool n1, .slice A xs.length c, .bool n2, .slice B ys.length e0]] w fun e w' => e = .returned (.int .i64 1) /\ Below w.heap.size w w' := by
 have C1 := fun (V : World) (h : Zm V A c xs) => Yi n1 A c _ V h
 unfold X7 at C1
 rw [if_neg (by rw [o]; decide)] at C1
 have H1 := Hd C1
 clear C1 o
 have px := Zz.new w (.bool n1) (.slice A xs.length c) (.bool n2) (.slice B ys.length e0)
 have b0 := (Below.refl w.heap.size w).alloc (Nat.le_refl _) (.cells #[.bool n1, .slice A xs.length c, .bool n2, .slice B ys.length e0] 26)
 have h1 := h.below b0
 have g1 := g.below b0
 have PX := Hd px
 have B0 := Hd b0
 have RX := Hd h1
 have RY := Hd g1
 clear px b0 h g h1 g1
 go_enter Tryz.func159, Tryz.ntmps159
 go_wp2_with fail
 obtain ⟨W, E⟩ : ∃ W, W = w.alloc (.cells #[.bool n1, .slice A xs.length c, .bool n2, .slice B ys.length e0] 26) := ⟨_, rfl⟩
 rw [<- E] at PX B0 RX RY ⊢
 clear E
 have T0 := Below.refl W.heap.size W
 obtain ⟨l0, x0, x1, x2, x3, -, -, -, -⟩ := (PX.out.below T0).facts
 go_wp2_with fail
 refine (H1.out _ (RX.out.below T0)).mono ?_
 rintro e w1 ⟨rfl, h⟩
 have T1 := Zb T0 h
 clear h x0 x1 x2 x3 l0
 have BB := Zb B0.out T1
 go_wp2_with fail
 go_ret
 exact ⟨rfl, BB⟩

theorem ratio_Check_bad_two (n1 n2 : Bool) (A B : Option Addr) (c e0 : Nat) (xs ys : List Nat) (o1 : okI n1 xs = true) (o : okI n2 ys = false) (w : World) (h : Zm w A c xs) (g : Zm w B e0 ys) :
  Calls Tryz.prog 159 #[.agg #[.bool n1, .slice A xs.length c, .bool n2, .slice B ys.length e0]] w fun e w' => e = .returned (.int .i64 1) /\ Below w.heap.size w w' := by
 have C1 := fun (V : World) (h : Zm V A c xs) => Yi n1 A c _ V h
 unfold X7 at C1
 rw [if_pos o1] at C1
 have H1 := Hd C1
 have C2 := fun (V : World) (h : Zm V B e0 ys) => Yi n2 B e0 _ V h
 unfold X7 at C2
 rw [if_neg (by rw [o]; decide)] at C2
 have H2 := Hd C2
 clear C2 o1
 clear C1 o
 have px := Zz.new w (.bool n1) (.slice A xs.length c) (.bool n2) (.slice B ys.length e0)
 have b0 := (Below.refl w.heap.size w).alloc (Nat.le_refl _) (.cells #[.bool n1, .slice A xs.length c, .bool n2, .slice B ys.length e0] 26)
 have h1 := h.below b0
 have g1 := g.below b0
 have PX := Hd px
 have B0 := Hd b0
 have RX := Hd h1
 have RY := Hd g1
 clear px b0 h g h1 g1
 go_enter Tryz.func159, Tryz.ntmps159
 go_wp2_with fail
 obtain ⟨W, E⟩ : ∃ W, W = w.alloc (.cells #[.bool n1, .slice A xs.length c, .bool n2, .slice B ys.length e0] 26) := ⟨_, rfl⟩
 rw [<- E] at PX B0 RX RY ⊢
 clear E
 have T0 := Below.refl W.heap.size W
 obtain ⟨l0, x0, x1, x2, x3, -, -, -, -⟩ := (PX.out.below T0).facts
 go_wp2_with fail
 refine (H1.out _ (RX.out.below T0)).mono ?_
 rintro e w1 ⟨rfl, h⟩
 have T1 := Zb T0 h
 clear h x0 x1 x2 x3 l0
 obtain ⟨l1, x0, x1, x2, x3, -, -, -, -⟩ := (PX.out.below T1).facts
 go_wp2_with fail
 refine (H2.out _ (RY.out.below T1)).mono ?_
 rintro e w2 ⟨rfl, h⟩
 have T2 := Zb T1 h
 clear h x0 x1 x2 x3 l1
 have BB := Zb B0.out T2
 go_wp2_with fail
 go_ret
 exact ⟨rfl, BB⟩

theorem ratio_Check_low (n d : Int) (A B : Option Addr) (c e0 : Nat) (w : World) (h : Zm w A c (Za n.natAbs)) (g : Zm w B e0 (Za d.natAbs)) (hn : Fit n) (hd : Fit d) (hd0 : d <= 0) :
  Calls Tryz.prog 159 #[.agg #[.bool (decide (n < 0)), .slice A (Za n.natAbs).length c, .bool (decide (d < 0)), .slice B (Za d.natAbs).length e0]] w fun e w' => e = .returned (.int .i64 1) /\ Below w.heap.size w w' := by
 have C1 := fun (V : World) (h : Zm V A c (Za n.natAbs)) => Yi (decide (n < 0)) A c _ V h
 have C2 := fun (V : World) (h : Zm V B e0 (Za d.natAbs)) => Yi (decide (d < 0)) B e0 _ V h
 unfold X7 at C1 C2
 rw [if_pos hn.ok] at C1
 rw [if_pos hd.ok] at C2
 have hln : lz n <= 2048 := hn
 have hld : lz d <= 2048 := hd
 obtain ⟨s, hs⟩ : ∃ k : Int, k = d.sign := ⟨_, rfl⟩
 have C3 := fun (V : World) (h : Zm V B e0 (Za d.natAbs)) => esign d s B e0 V h hs
 have hs1 : s <= 0 := by rw [hs]; exact Int.sign_nonpos_iff.2 hd0
 have H1 := Hd C1
 have H2 := Hd C2
 have H3 := Hd C3
 clear C1 C2 C3 hn hd hd0 hs hln hld
 have px := Zz.new w (.bool (decide (n < 0))) (.slice A (Za n.natAbs).length c) (.bool (decide (d < 0))) (.slice B (Za d.natAbs).length e0)
 have b0 := (Below.refl w.heap.size w).alloc (Nat.le_refl _) (.cells #[.bool (decide (n < 0)), .slice A (Za n.natAbs).length c, .bool (decide (d < 0)), .slice B (Za d.natAbs).length e0] 26)
 have h1 := h.below b0
 have g1 := g.below b0
 have PX := Hd px
 have B0 := Hd b0
 have RX := Hd h1
 have RY := Hd g1
 clear px b0 h g h1 g1
 go_enter Tryz.func159, Tryz.ntmps159
 go_wp2_with fail
 obtain ⟨W, E⟩ : ∃ W, W = w.alloc (.cells #[.bool (decide (n < 0)), .slice A (Za n.natAbs).length c, .bool (decide (d < 0)), .slice B (Za d.natAbs).length e0] 26) := ⟨_, rfl⟩
 rw [<- E] at PX B0 RX RY ⊢
 clear E
 have T0 := Below.refl W.heap.size W
 obtain ⟨l0, x0, x1, x2, x3, -, -, -, -⟩ := (PX.out.below T0).facts
 go_wp2_with fail
 refine (H1.out _ (RX.out.below T0)).mono ?_
 rintro e w1 ⟨rfl, h⟩
 have T1 := Zb T0 h
 clear h x0 x1 x2 x3 l0
 obtain ⟨l1, x0, x1, x2, x3, -, -, -, -⟩ := (PX.out.below T1).facts
 go_wp2_with fail
 refine (H2.out _ (RY.out.below T1)).mono ?_
 rintro e w2 ⟨rfl, h⟩
 have T2 := Zb T1 h
 clear h x0 x1 x2 x3 l1
 obtain ⟨l2, x0, x1, x2, x3, -, -, -, -⟩ := (PX.out.below T2).facts
 go_wp2_with fail
 refine (H3.out _ (RY.out.below T2)).mono ?_
 rintro e w3 ⟨rfl, h⟩
 have T3 := Zb T2 h
 clear h x0 x1 x2 x3 l2
 have BB := Zb B0.out T3
 go_wp2_with fail
 go_ret
 exact ⟨rfl, BB⟩

theorem ratio_Check_fine (n d : Int) (A B : Option Addr) (c e0 : Nat) (w : World) (h : Zm w A c (Za n.natAbs)) (g : Zm w B e0 (Za d.natAbs)) (hn : Fit n) (hd : Fit d) (hd0 : 0 < d) (hg : ZL n d = 1) :
  Calls Tryz.prog 159 #[.agg #[.bool (decide (n < 0)), .slice A (Za n.natAbs).length c, .bool (decide (d < 0)), .slice B (Za d.natAbs).length e0]] w fun e w' => e = .returned (.int .i64 0) /\ Below w.heap.size w w' := by
 have C1 := fun (V : World) (h : Zm V A c (Za n.natAbs)) => Yi (decide (n < 0)) A c _ V h
 have C2 := fun (V : World) (h : Zm V B e0 (Za d.natAbs)) => Yi (decide (d < 0)) B e0 _ V h
 unfold X7 at C1 C2
 rw [if_pos hn.ok] at C1
 rw [if_pos hd.ok] at C2
 have hln : lz n <= 2048 := hn
 have hld : lz d <= 2048 := hd
 obtain ⟨s, hs⟩ : ∃ k : Int, k = d.sign := ⟨_, rfl⟩
 have C3 := fun (V : World) (h : Zm V B e0 (Za d.natAbs)) => esign d s B e0 V h hs
 have hs1 : 0 < s := by rw [hs]; exact Int.sign_pos_iff.2 hd0
 have H1 := Hd C1
 have H2 := Hd C2
 have H3 := Hd C3
 obtain ⟨m, hm⟩ : ∃ k : Int, k = ZL n d := ⟨_, rfl⟩
 have hml : lz m <= 2048 := by rw [hm]; exact Nat.le_trans (gcdZ_lz (by omega)) hld
 have hm0 : m = 1 := by rw [hm]; exact hg
 obtain ⟨r, hr⟩ : ∃ k : Int, k = Jt m 1 := ⟨_, rfl⟩
 have C4 := fun (V : World) (h : Zm V A c (Za n.natAbs)) (g : Zm V B e0 (Za d.natAbs)) => ecommon n d m A B c e0 V h g (by omega) (by omega) hm
 have C5 := fun (V : World) => eof 1 1 rfl (by decide) (by decide) V
 have C6 := fun (V : World) (A' B' : Option Addr) (c' e' : Nat) (h : Zm V A' c' (Za m.natAbs)) (g : Zm V B' e' (Za (1 : Int).natAbs)) => ecmp m 1 r A' B' c' e' V h g (by omega) (by decide) hr
 obtain ⟨u, hu⟩ : ∃ k : Int, k = 1 := ⟨_, rfl⟩
 have hr0 : r = 0 := by rw [hr]; unfold Jt; rw [hm0]; decide
 have H4 := Hd C4
 have H5 := Hd C5
 have H6 := Hd C6
 clear C1 C2 C3 C4 C5 C6 hn hd hd0 hg hs hln hld hm hml hm0 hr hu
 have px := Zz.new w (.bool (decide (n < 0))) (.slice A (Za n.natAbs).length c) (.bool (decide (d < 0))) (.slice B (Za d.natAbs).length e0)
 have b0 := (Below.refl w.heap.size w).alloc (Nat.le_refl _) (.cells #[.bool (decide (n < 0)), .slice A (Za n.natAbs).length c, .bool (decide (d < 0)), .slice B (Za d.natAbs).length e0] 26)
 have h1 := h.below b0
 have g1 := g.below b0
 have PX := Hd px
 have B0 := Hd b0
 have RX := Hd h1
 have RY := Hd g1
 clear px b0 h g h1 g1
 go_enter Tryz.func159, Tryz.ntmps159
 go_wp2_with fail
 obtain ⟨W, E⟩ : ∃ W, W = w.alloc (.cells #[.bool (decide (n < 0)), .slice A (Za n.natAbs).length c, .bool (decide (d < 0)), .slice B (Za d.natAbs).length e0] 26) := ⟨_, rfl⟩
 rw [<- E] at PX B0 RX RY ⊢
 clear E
 have T0 := Below.refl W.heap.size W
 obtain ⟨l0, x0, x1, x2, x3, -, -, -, -⟩ := (PX.out.below T0).facts
 go_wp2_with fail
 refine (H1.out _ (RX.out.below T0)).mono ?_
 rintro e w1 ⟨rfl, h⟩
 have T1 := Zb T0 h
 clear h x0 x1 x2 x3 l0
 obtain ⟨l1, x0, x1, x2, x3, -, -, -, -⟩ := (PX.out.below T1).facts
 go_wp2_with fail
 refine (H2.out _ (RY.out.below T1)).mono ?_
 rintro e w2 ⟨rfl, h⟩
 have T2 := Zb T1 h
 clear h x0 x1 x2 x3 l1
 obtain ⟨l2, x0, x1, x2, x3, -, -, -, -⟩ := (PX.out.below T2).facts
 go_wp2_with fail
 refine (H3.out _ (RY.out.below T2)).mono ?_
 rintro e w3 ⟨rfl, h⟩
 have T3 := Zb T2 h
 clear h x0 x1 x2 x3 l2
 obtain ⟨l3, x0, x1, x2, x3, -, -, -, -⟩ := (PX.out.below T3).facts
 go_wp2_with fail
 refine (H4.out _ (RX.out.below T3) (RY.out.below T3)).mono ?_
 rintro e w4 ⟨v, rfl, i4, h⟩
 have T4 := Zb T3 h
 obtain ⟨A4, c4, rfl, r4⟩ := i4.raw
 clear i4
 clear h x0 x1 x2 x3 l3
 obtain ⟨l4, x0, x1, x2, x3, -, -, -, -⟩ := (PX.out.below T4).facts
 go_wp2_with fail
 refine (H5.out _).mono ?_
 rintro e w5 ⟨v, rfl, i5, h⟩
 have T5 := Zb T4 h
 obtain ⟨A5, c5, rfl, r5⟩ := i5.raw
 have r45 := r4.below h
 clear i5 r4
 clear h x0 x1 x2 x3 l4
 obtain ⟨l5, x0, x1, x2, x3, -, -, -, -⟩ := (PX.out.below T5).facts
 go_wp2_with fail
 refine (H6.out _ A4 A5 c4 c5 r45 r5).mono ?_
 rintro e w6 ⟨rfl, h⟩
 have T6 := Zb T5 h
 clear h x0 x1 x2 x3 l5
 have BB := Zb B0.out T6
 go_wp2_with fail
 go_ret
 exact ⟨rfl, BB⟩

theorem ratio_Check_more (n d : Int) (A B : Option Addr) (c e0 : Nat) (w : World) (h : Zm w A c (Za n.natAbs)) (g : Zm w B e0 (Za d.natAbs)) (hn : Fit n) (hd : Fit d) (hd0 : 0 < d) (hg : ZL n d ≠ 1) :
  Calls Tryz.prog 159 #[.agg #[.bool (decide (n < 0)), .slice A (Za n.natAbs).length c, .bool (decide (d < 0)), .slice B (Za d.natAbs).length e0]] w fun e w' => e = .returned (.int .i64 1) /\ Below w.heap.size w w' := by
 have C1 := fun (V : World) (h : Zm V A c (Za n.natAbs)) => Yi (decide (n < 0)) A c _ V h
 have C2 := fun (V : World) (h : Zm V B e0 (Za d.natAbs)) => Yi (decide (d < 0)) B e0 _ V h
 unfold X7 at C1 C2
 rw [if_pos hn.ok] at C1
 rw [if_pos hd.ok] at C2
 have hln : lz n <= 2048 := hn
 have hld : lz d <= 2048 := hd
 obtain ⟨s, hs⟩ : ∃ k : Int, k = d.sign := ⟨_, rfl⟩
 have C3 := fun (V : World) (h : Zm V B e0 (Za d.natAbs)) => esign d s B e0 V h hs
 have hs1 : 0 < s := by rw [hs]; exact Int.sign_pos_iff.2 hd0
 have H1 := Hd C1
 have H2 := Hd C2
 have H3 := Hd C3
 obtain ⟨m, hm⟩ : ∃ k : Int, k = ZL n d := ⟨_, rfl⟩
 have hml : lz m <= 2048 := by rw [hm]; exact Nat.le_trans (gcdZ_lz (by omega)) hld
 have hm0 : m ≠ 1 := by rw [hm]; exact hg
 obtain ⟨r, hr⟩ : ∃ k : Int, k = Jt m 1 := ⟨_, rfl⟩
 have C4 := fun (V : World) (h : Zm V A c (Za n.natAbs)) (g : Zm V B e0 (Za d.natAbs)) => ecommon n d m A B c e0 V h g (by omega) (by omega) hm
 have C5 := fun (V : World) => eof 1 1 rfl (by decide) (by decide) V
 have C6 := fun (V : World) (A' B' : Option Addr) (c' e' : Nat) (h : Zm V A' c' (Za m.natAbs)) (g : Zm V B' e' (Za (1 : Int).natAbs)) => ecmp m 1 r A' B' c' e' V h g (by omega) (by decide) hr
 obtain ⟨u, hu⟩ : ∃ k : Int, k = 1 := ⟨_, rfl⟩
 have hr0 : r ≠ 0 := by rw [hr]; unfold Jt; split <;> (try split) <;> omega
 have H4 := Hd C4
 have H5 := Hd C5
 have H6 := Hd C6
 clear C1 C2 C3 C4 C5 C6 hn hd hd0 hg hs hln hld hm hml hm0 hr hu
 have px := Zz.new w (.bool (decide (n < 0))) (.slice A (Za n.natAbs).length c) (.bool (decide (d < 0))) (.slice B (Za d.natAbs).length e0)
 have b0 := (Below.refl w.heap.size w).alloc (Nat.le_refl _) (.cells #[.bool (decide (n < 0)), .slice A (Za n.natAbs).length c, .bool (decide (d < 0)), .slice B (Za d.natAbs).length e0] 26)
 have h1 := h.below b0
 have g1 := g.below b0
 have PX := Hd px
 have B0 := Hd b0
 have RX := Hd h1
 have RY := Hd g1
 clear px b0 h g h1 g1
 go_enter Tryz.func159, Tryz.ntmps159
 go_wp2_with fail
 obtain ⟨W, E⟩ : ∃ W, W = w.alloc (.cells #[.bool (decide (n < 0)), .slice A (Za n.natAbs).length c, .bool (decide (d < 0)), .slice B (Za d.natAbs).length e0] 26) := ⟨_, rfl⟩
 rw [<- E] at PX B0 RX RY ⊢
 clear E
 have T0 := Below.refl W.heap.size W
 obtain ⟨l0, x0, x1, x2, x3, -, -, -, -⟩ := (PX.out.below T0).facts
 go_wp2_with fail
 refine (H1.out _ (RX.out.below T0)).mono ?_
 rintro e w1 ⟨rfl, h⟩
 have T1 := Zb T0 h
 clear h x0 x1 x2 x3 l0
 obtain ⟨l1, x0, x1, x2, x3, -, -, -, -⟩ := (PX.out.below T1).facts
 go_wp2_with fail
 refine (H2.out _ (RY.out.below T1)).mono ?_
 rintro e w2 ⟨rfl, h⟩
 have T2 := Zb T1 h
 clear h x0 x1 x2 x3 l1
 obtain ⟨l2, x0, x1, x2, x3, -, -, -, -⟩ := (PX.out.below T2).facts
 go_wp2_with fail
 refine (H3.out _ (RY.out.below T2)).mono ?_
 rintro e w3 ⟨rfl, h⟩
 have T3 := Zb T2 h
 clear h x0 x1 x2 x3 l2
 obtain ⟨l3, x0, x1, x2, x3, -, -, -, -⟩ := (PX.out.below T3).facts
 go_wp2_with fail
 refine (H4.out _ (RX.out.below T3) (RY.out.below T3)).mono ?_
 rintro e w4 ⟨v, rfl, i4, h⟩
 have T4 := Zb T3 h
 obtain ⟨A4, c4, rfl, r4⟩ := i4.raw
 clear i4
 clear h x0 x1 x2 x3 l3
 obtain ⟨l4, x0, x1, x2, x3, -, -, -, -⟩ := (PX.out.below T4).facts
 go_wp2_with fail
 refine (H5.out _).mono ?_
 rintro e w5 ⟨v, rfl, i5, h⟩
 have T5 := Zb T4 h
 obtain ⟨A5, c5, rfl, r5⟩ := i5.raw
 have r45 := r4.below h
 clear i5 r4
 clear h x0 x1 x2 x3 l4
 obtain ⟨l5, x0, x1, x2, x3, -, -, -, -⟩ := (PX.out.below T5).facts
 go_wp2_with fail
 refine (H6.out _ A4 A5 c4 c5 r45 r5).mono ?_
 rintro e w6 ⟨rfl, h⟩
 have T6 := Zb T5 h
 clear h x0 x1 x2 x3 l5
 have BB := Zb B0.out T6
 go_wp2_with fail
 go_ret
 exact ⟨rfl, BB⟩

def XC (n1 n2 : Bool) (xs ys : List Nat) : Int := if mkOk n1 n2 xs ys then (if 0 < Zv n2 ys /\ ZL (Zv n1 xs) (Zv n2 ys) = 1 then 0 else 1) else 1
theorem ratio_Check (n1 n2 : Bool) (A B : Option Addr) (c e0 : Nat) (xs ys : List Nat) (w : World) (h : Zm w A c xs) (g : Zm w B e0 ys) :
  Calls Tryz.prog 159 #[.agg #[.bool n1, .slice A xs.length c, .bool n2, .slice B ys.length e0]] w fun e w' => e = .returned (.int .i64 (XC n1 n2 xs ys)) /\ Below w.heap.size w w' := by
 unfold XC mkOk
 cases o1 : okI n1 xs with
 | false => exact ratio_Check_bad_one n1 n2 A B c e0 xs ys o1 w h g
 | true =>
  cases o2 : okI n2 ys with
  | false => exact ratio_Check_bad_two n1 n2 A B c e0 xs ys o1 o2 w h g
  | true =>
   obtain ⟨a1, a2, a3⟩ := ok_num h.limbs o1
   obtain ⟨b1, b2, b3⟩ := ok_num g.limbs o2
   generalize Zv n1 xs = x at a1 a2 a3 ⊢
   generalize Zv n2 ys = y at b1 b2 b3 ⊢
   subst a1 a2 b1 b2
   simp only [Bool.and_self, if_true]
   by_cases hy : 0 < y
   . by_cases hg : ZL x y = 1
     . rw [if_pos ⟨hy, hg⟩]
       exact ratio_Check_fine x y A B c e0 w h g a3 b3 hy hg
     . rw [if_neg fun q => hg q.2]
       exact ratio_Check_more x y A B c e0 w h g a3 b3 hy hg
   . rw [if_neg fun q => hy q.1]
     exact ratio_Check_low x y A B c e0 w h g a3 b3 (by omega)

theorem rbelow (x y : Int) (b : Bool) (A B : Option Addr) (c d : Nat) (w : World) (h : Zm w A c (Za x.natAbs)) (g : Zm w B d (Za y.natAbs)) (hx : lz x <= 500000000) (hy : lz y <= 500000000) (hb : b = decide (Jt x y < 0)) :
  Calls Tryz.prog 226 #[.agg #[.bool (decide (x < 0)), .slice A (Za x.natAbs).length c], .agg #[.bool (decide (y < 0)), .slice B (Za y.natAbs).length d]] w fun e w' => e = .returned (.bool b) /\ Below w.heap.size w w' := by
 obtain ⟨k, hk⟩ : ∃ k : Int, k = Jt x y := ⟨_, rfl⟩
 rw [<- hk] at hb
 have b0 := ((Below.refl w.heap.size w).alloc (Nat.le_refl _) (.cells #[.bool (decide (x < 0)), .slice A (Za x.natAbs).length c] 24)).alloc (by simp) (.cells #[.bool (decide (y < 0)), .slice B (Za y.natAbs).length d] 24)
 have H := Hd (rcmp x y k A B c d _ (h.below b0) (g.below b0) hx hy hk)
 have B0 := Hd b0
 have HB := Hd hb
 clear h g hx hy hk b0 hb
 go_enter Tryz.func226, Tryz.ntmps226
 go_wp2_with fail
 refine H.out.mono ?_
 rintro e w1 ⟨rfl, hb⟩
 go_wp2_with fail
 go_ret
 exact ⟨by rw [HB.out]; rfl, Zb B0.out hb⟩

theorem ref02_Check_bad_one (n1 n2 : Bool) (A B : Option Addr) (c e0 : Nat) (xs ys : List Nat) (o : okI n1 xs = false) (w : World) (h : Zm w A c xs) (g : Zm w B e0 ys) :
  Calls Tryz.prog 184 #[.agg #[.bool n1, .slice A xs.length c, .bool n2, .slice B ys.length e0]] w fun e w' => e = .returned (.int .i64 1) /\ Below w.heap.size w w' := by
 have C1 := fun (V : World) (h : Zm V A c xs) => YA n1 A c _ V h
 unfold X7 at C1
 rw [if_neg (by rw [o]; decide)] at C1
 have H1 := Hd C1
 clear C1 o
 have px := Zz.new w (.bool n1) (.slice A xs.length c) (.bool n2) (.slice B ys.length e0)
 have b0 := (Below.refl w.heap.size w).alloc (Nat.le_refl _) (.cells #[.bool n1, .slice A xs.length c, .bool n2, .slice B ys.length e0] 26)
 have h1 := h.below b0
 have g1 := g.below b0
 have PX := Hd px
 have B0 := Hd b0
 have RX := Hd h1
 have RY := Hd g1
 clear px b0 h g h1 g1
 go_enter Tryz.func184, Tryz.ntmps184
 go_wp2_with fail
 obtain ⟨W, E⟩ : ∃ W, W = w.alloc (.cells #[.bool n1, .slice A xs.length c, .bool n2, .slice B ys.length e0] 26) := ⟨_, rfl⟩
 rw [<- E] at PX B0 RX RY ⊢
 clear E
 have T0 := Below.refl W.heap.size W
 obtain ⟨l0, x0, x1, x2, x3, -, -, -, -⟩ := (PX.out.below T0).facts
 go_wp2_with fail
 refine (H1.out _ (RX.out.below T0)).mono ?_
 rintro e w1 ⟨rfl, h⟩
 have T1 := Zb T0 h
 clear h x0 x1 x2 x3 l0
 have BB := Zb B0.out T1
 go_wp2_with fail
 go_ret
 exact ⟨rfl, BB⟩

theorem ref02_Check_bad_two (n1 n2 : Bool) (A B : Option Addr) (c e0 : Nat) (xs ys : List Nat) (o1 : okI n1 xs = true) (o : okI n2 ys = false) (w : World) (h : Zm w A c xs) (g : Zm w B e0 ys) :
  Calls Tryz.prog 184 #[.agg #[.bool n1, .slice A xs.length c, .bool n2, .slice B ys.length e0]] w fun e w' => e = .returned (.int .i64 1) /\ Below w.heap.size w w' := by
 have C1 := fun (V : World) (h : Zm V A c xs) => YA n1 A c _ V h
 unfold X7 at C1
 rw [if_pos o1] at C1
 have H1 := Hd C1
 have C2 := fun (V : World) (h : Zm V B e0 ys) => YA n2 B e0 _ V h
 unfold X7 at C2
 rw [if_neg (by rw [o]; decide)] at C2
 have H2 := Hd C2
 clear C2 o1
 clear C1 o
 have px := Zz.new w (.bool n1) (.slice A xs.length c) (.bool n2) (.slice B ys.length e0)
 have b0 := (Below.refl w.heap.size w).alloc (Nat.le_refl _) (.cells #[.bool n1, .slice A xs.length c, .bool n2, .slice B ys.length e0] 26)
 have h1 := h.below b0
 have g1 := g.below b0
 have PX := Hd px
 have B0 := Hd b0
 have RX := Hd h1
 have RY := Hd g1
 clear px b0 h g h1 g1
 go_enter Tryz.func184, Tryz.ntmps184
 go_wp2_with fail
 obtain ⟨W, E⟩ : ∃ W, W = w.alloc (.cells #[.bool n1, .slice A xs.length c, .bool n2, .slice B ys.length e0] 26) := ⟨_, rfl⟩
 rw [<- E] at PX B0 RX RY ⊢
 clear E
 have T0 := Below.refl W.heap.size W
 obtain ⟨l0, x0, x1, x2, x3, -, -, -, -⟩ := (PX.out.below T0).facts
 go_wp2_with fail
 refine (H1.out _ (RX.out.below T0)).mono ?_
 rintro e w1 ⟨rfl, h⟩
 have T1 := Zb T0 h
 clear h x0 x1 x2 x3 l0
 obtain ⟨l1, x0, x1, x2, x3, -, -, -, -⟩ := (PX.out.below T1).facts
 go_wp2_with fail
 refine (H2.out _ (RY.out.below T1)).mono ?_
 rintro e w2 ⟨rfl, h⟩
 have T2 := Zb T1 h
 clear h x0 x1 x2 x3 l1
 have BB := Zb B0.out T2
 go_wp2_with fail
 go_ret
 exact ⟨rfl, BB⟩

theorem ref02_Check_low (n d : Int) (A B : Option Addr) (c e0 : Nat) (w : World) (h : Zm w A c (Za n.natAbs)) (g : Zm w B e0 (Za d.natAbs)) (hn : Fit n) (hd : Fit d) (hd0 : d <= 0) :
  Calls Tryz.prog 184 #[.agg #[.bool (decide (n < 0)), .slice A (Za n.natAbs).length c, .bool (decide (d < 0)), .slice B (Za d.natAbs).length e0]] w fun e w' => e = .returned (.int .i64 1) /\ Below w.heap.size w w' := by
 have C1 := fun (V : World) (h : Zm V A c (Za n.natAbs)) => YA (decide (n < 0)) A c _ V h
 have C2 := fun (V : World) (h : Zm V B e0 (Za d.natAbs)) => YA (decide (d < 0)) B e0 _ V h
 unfold X7 at C1 C2
 rw [if_pos hn.ok] at C1
 rw [if_pos hd.ok] at C2
 have hln : lz n <= 2048 := hn
 have hld : lz d <= 2048 := hd
 obtain ⟨s, hs⟩ : ∃ k : Int, k = d.sign := ⟨_, rfl⟩
 have C3 := fun (V : World) (h : Zm V B e0 (Za d.natAbs)) => rsign d s B e0 V h hs
 have hs1 : s <= 0 := by rw [hs]; exact Int.sign_nonpos_iff.2 hd0
 have H1 := Hd C1
 have H2 := Hd C2
 have H3 := Hd C3
 clear C1 C2 C3 hn hd hd0 hs hln hld
 have px := Zz.new w (.bool (decide (n < 0))) (.slice A (Za n.natAbs).length c) (.bool (decide (d < 0))) (.slice B (Za d.natAbs).length e0)
 have b0 := (Below.refl w.heap.size w).alloc (Nat.le_refl _) (.cells #[.bool (decide (n < 0)), .slice A (Za n.natAbs).length c, .bool (decide (d < 0)), .slice B (Za d.natAbs).length e0] 26)
 have h1 := h.below b0
 have g1 := g.below b0
 have PX := Hd px
 have B0 := Hd b0
 have RX := Hd h1
 have RY := Hd g1
 clear px b0 h g h1 g1
 go_enter Tryz.func184, Tryz.ntmps184
 go_wp2_with fail
 obtain ⟨W, E⟩ : ∃ W, W = w.alloc (.cells #[.bool (decide (n < 0)), .slice A (Za n.natAbs).length c, .bool (decide (d < 0)), .slice B (Za d.natAbs).length e0] 26) := ⟨_, rfl⟩
 rw [<- E] at PX B0 RX RY ⊢
 clear E
 have T0 := Below.refl W.heap.size W
 obtain ⟨l0, x0, x1, x2, x3, -, -, -, -⟩ := (PX.out.below T0).facts
 go_wp2_with fail
 refine (H1.out _ (RX.out.below T0)).mono ?_
 rintro e w1 ⟨rfl, h⟩
 have T1 := Zb T0 h
 clear h x0 x1 x2 x3 l0
 obtain ⟨l1, x0, x1, x2, x3, -, -, -, -⟩ := (PX.out.below T1).facts
 go_wp2_with fail
 refine (H2.out _ (RY.out.below T1)).mono ?_
 rintro e w2 ⟨rfl, h⟩
 have T2 := Zb T1 h
 clear h x0 x1 x2 x3 l1
 obtain ⟨l2, x0, x1, x2, x3, -, -, -, -⟩ := (PX.out.below T2).facts
 go_wp2_with fail
 refine (H3.out _ (RY.out.below T2)).mono ?_
 rintro e w3 ⟨rfl, h⟩
 have T3 := Zb T2 h
 clear h x0 x1 x2 x3 l2
 have BB := Zb B0.out T3
 go_wp2_with fail
 go_ret
 exact ⟨rfl, BB⟩

theorem ref02_Check_fine (n d : Int) (A B : Option Addr) (c e0 : Nat) (w : World) (h : Zm w A c (Za n.natAbs)) (g : Zm w B e0 (Za d.natAbs)) (hn : Fit n) (hd : Fit d) (hd0 : 0 < d) (hg : ZL n d = 1) :
   Calls Tryz.prog 184 #[.agg #[.bool (decide (n < 0)), .slice A (Za n.natAbs).length c, .bool (decide (d < 0)), .slice B (Za d.natAbs).length e0]] w fun e w' => e = .returned (.int .i64 0) /\ Below w.heap.size w w' := by
 have C1 := fun (V : World) (h : Zm V A c (Za n.natAbs)) => YA (decide (n < 0)) A c _ V h
 have C2 := fun (V : World) (h : Zm V B e0 (Za d.natAbs)) => YA (decide (d < 0)) B e0 _ V h
 unfold X7 at C1 C2
 rw [if_pos hn.ok] at C1
 rw [if_pos hd.ok] at C2
 have hln : lz n <= 2048 := hn
 have hld : lz d <= 2048 := hd
 obtain ⟨s, hs⟩ : ∃ k : Int, k = d.sign := ⟨_, rfl⟩
 have C3 := fun (V : World) (h : Zm V B e0 (Za d.natAbs)) => rsign d s B e0 V h hs
 have hs1 : 0 < s := by rw [hs]; exact Int.sign_pos_iff.2 hd0
 have H1 := Hd C1
 have H2 := Hd C2
 have H3 := Hd C3
 obtain ⟨m, hm⟩ : ∃ k : Int, k = ZL n d := ⟨_, rfl⟩
 have hml : lz m <= 2048 := by rw [hm]; exact Nat.le_trans (gcdZ_lz (by omega)) hld
 have hm0 : m = 1 := by rw [hm]; exact hg
 obtain ⟨r, hr⟩ : ∃ k : Bool, k = decide (Jt 1 m < 0) := ⟨_, rfl⟩
 have C4 := fun (V : World) (h : Zm V A c (Za n.natAbs)) (g : Zm V B e0 (Za d.natAbs)) => common02 n d A B c e0 V h g (by omega) (by omega)
 rw [<- hm] at C4
 have C5 := fun (V : World) => ref_Of 1 (by decide) (by decide) V
 have C6 := fun (V : World) (A' B' : Option Addr) (c' e' : Nat) (h : Zm V A' c' (Za m.natAbs)) (g : Zm V B' e' (Za (1 : Int).natAbs)) => rbelow 1 m r B' A' e' c' V g h (by decide) (by omega) hr
 obtain ⟨u, hu⟩ : ∃ k : Int, k = 1 := ⟨_, rfl⟩
 have hr0 : r = false := by rw [hr]; unfold Jt; rw [hm0]; decide
 have H4 := Hd C4
 have H5 := Hd C5
 have H6 := Hd C6
 clear C1 C2 C3 C4 C5 C6 hn hd hd0 hg hs hln hld hm hml hm0 hr hu
 have px := Zz.new w (.bool (decide (n < 0))) (.slice A (Za n.natAbs).length c) (.bool (decide (d < 0))) (.slice B (Za d.natAbs).length e0)
 have b0 := (Below.refl w.heap.size w).alloc (Nat.le_refl _) (.cells #[.bool (decide (n < 0)), .slice A (Za n.natAbs).length c, .bool (decide (d < 0)), .slice B (Za d.natAbs).length e0] 26)
 have h1 := h.below b0
 have g1 := g.below b0
 have PX := Hd px
 have B0 := Hd b0
 have RX := Hd h1
 have RY := Hd g1
 clear px b0 h g h1 g1
 go_enter Tryz.func184, Tryz.ntmps184
 go_wp2_with fail
 obtain ⟨W, E⟩ : ∃ W, W = w.alloc (.cells #[.bool (decide (n < 0)), .slice A (Za n.natAbs).length c, .bool (decide (d < 0)), .slice B (Za d.natAbs).length e0] 26) := ⟨_, rfl⟩
 rw [<- E] at PX B0 RX RY ⊢
 clear E
 have T0 := Below.refl W.heap.size W
 obtain ⟨l0, x0, x1, x2, x3, -, -, -, -⟩ := (PX.out.below T0).facts
 go_wp2_with fail
 refine (H1.out _ (RX.out.below T0)).mono ?_
 rintro e w1 ⟨rfl, h⟩
 have T1 := Zb T0 h
 clear h x0 x1 x2 x3 l0
 obtain ⟨l1, x0, x1, x2, x3, -, -, -, -⟩ := (PX.out.below T1).facts
 go_wp2_with fail
 refine (H2.out _ (RY.out.below T1)).mono ?_
 rintro e w2 ⟨rfl, h⟩
 have T2 := Zb T1 h
 clear h x0 x1 x2 x3 l1
 obtain ⟨l2, x0, x1, x2, x3, -, -, -, -⟩ := (PX.out.below T2).facts
 go_wp2_with fail
 refine (H3.out _ (RY.out.below T2)).mono ?_
 rintro e w3 ⟨rfl, h⟩
 have T3 := Zb T2 h
 clear h x0 x1 x2 x3 l2
 obtain ⟨l3, x0, x1, x2, x3, -, -, -, -⟩ := (PX.out.below T3).facts
 go_wp2_with fail
 refine (H4.out _ (RX.out.below T3) (RY.out.below T3)).mono ?_
 rintro e w4 ⟨v, rfl, i4, h⟩
 have T4 := Zb T3 h
 obtain ⟨A4, c4, rfl, r4⟩ := i4.form
 clear i4
 clear h x0 x1 x2 x3 l3
 subst hr0
 go_wp2_with fail
 obtain ⟨Y, E⟩ : ∃ Y, Y = w4.alloc (.cells #[.bool (decide (m < 0)), .slice A4 (Za m.natAbs).length c4] 24) := ⟨_, rfl⟩
 have pg := Zr.new w4 24 (.bool (decide (m < 0))) (.slice A4 (Za m.natAbs).length c4)
 have T5 := T4.alloc T4.size (.cells #[.bool (decide (m < 0)), .slice A4 (Za m.natAbs).length c4] 24)
 have r5 := r4.alloc (.cells #[.bool (decide (m < 0)), .slice A4 (Za m.natAbs).length c4] 24)
 rw [<- E] at pg T5 r5 ⊢
 have BB := Hd (B0.out.trans (T5.mono B0.out.size))
 have PG := Hd pg
 have R5 := Hd r5
 clear E pg T5 r5 r4 T4 T3 T2 T1 T0
 refine Zd [.any false (fun u V => Zc V 0 u 1) [], .val (.agg #[.bool (decide (m < 0)), .slice A4 (Za m.natAbs).length c4]) [], .val (.bool false) [0]] Y.heap.size Y [] X6 _ Zf (Nat.le_refl _) (Below.refl _ _) (Zu.refl _ _ _) rfl ?_ ?_ ?_ ?_ ?_ ?_ ?_ ?_ rfl (by simp [ZP]) ?_ ?_ ?_ ?_
 iterate 8 kernel_rfl
 . simp only [Zy, and_true]
   exact fun u V V' h k => h.kept k (by decide)
 . simp only [Z5]
 . simp (maxSteps := 4000000) [ZH, YD, Zg, ZF, Zn]
   repeat' (first | apply And.intro | (intro (u : Value)) | (intro (u : Nat)))
   all_goals first
   | (intro V hV hK
      have qg := PG.out.below hV
      obtain ⟨l9, a_g, b_g, -, -⟩ := qg.facts
      clear hV hK qg
      go_simp
      first
      | exact Below.refl _ _
      | ((with_reducible refine (H5.out V).mono ?_); rintro _ _ ⟨_, rfl, x, y⟩; exact ⟨x.base (Nat.zero_le _), y⟩))
   | (intro V hV hK h1
      have rg := R5.out.below hV
      obtain ⟨A5, c5, rfl, r5⟩ := h1.raw
      clear hV hK h1
      go_simp
      refine (H6.out V A4 A5 c4 c5 rg r5).mono ?_
      rintro e w' ⟨rfl, hb⟩
      exact ⟨rfl, hb⟩)
 . simp [YH, ZK, Zg, ZF, Zn]
   intro u1 V hV hK h1 _ _ _
   have B9 := Hd (BB.out.trans (hV.mono BB.out.size))
   clear hV hK h1
   go_wp2_with fail
   go_ret
   exact ⟨rfl, B9.out⟩

theorem ref02_Check_more (n d : Int) (A B : Option Addr) (c e0 : Nat) (w : World) (h : Zm w A c (Za n.natAbs)) (g : Zm w B e0 (Za d.natAbs)) (hn : Fit n) (hd : Fit d) (hd0 : 0 < d) (hg : ZL n d ≠ 1) :
   Calls Tryz.prog 184 #[.agg #[.bool (decide (n < 0)), .slice A (Za n.natAbs).length c, .bool (decide (d < 0)), .slice B (Za d.natAbs).length e0]] w fun e w' => e = .returned (.int .i64 1) /\ Below w.heap.size w w' := by
 have C1 := fun (V : World) (h : Zm V A c (Za n.natAbs)) => YA (decide (n < 0)) A c _ V h
 have C2 := fun (V : World) (h : Zm V B e0 (Za d.natAbs)) => YA (decide (d < 0)) B e0 _ V h
 unfold X7 at C1 C2
 rw [if_pos hn.ok] at C1
 rw [if_pos hd.ok] at C2
 have hln : lz n <= 2048 := hn
 have hld : lz d <= 2048 := hd
 obtain ⟨s, hs⟩ : ∃ k : Int, k = d.sign := ⟨_, rfl⟩
 have C3 := fun (V : World) (h : Zm V B e0 (Za d.natAbs)) => rsign d s B e0 V h hs
 have hs1 : 0 < s := by rw [hs]; exact Int.sign_pos_iff.2 hd0
 have H1 := Hd C1
 have H2 := Hd C2
 have H3 := Hd C3
 obtain ⟨m, hm⟩ : ∃ k : Int, k = ZL n d := ⟨_, rfl⟩
 have hml : lz m <= 2048 := by rw [hm]; exact Nat.le_trans (gcdZ_lz (by omega)) hld
 have hm0 : m ≠ 1 := by rw [hm]; exact hg
 obtain ⟨r, hr⟩ : ∃ k : Bool, k = decide (Jt 1 m < 0) := ⟨_, rfl⟩
 have C4 := fun (V : World) (h : Zm V A c (Za n.natAbs)) (g : Zm V B e0 (Za d.natAbs)) => common02 n d A B c e0 V h g (by omega) (by omega)
 rw [<- hm] at C4
 have C5 := fun (V : World) => ref_Of 1 (by decide) (by decide) V
 have C6 := fun (V : World) (A' B' : Option Addr) (c' e' : Nat) (h : Zm V A' c' (Za m.natAbs)) (g : Zm V B' e' (Za (1 : Int).natAbs)) => rbelow 1 m r B' A' e' c' V g h (by decide) (by omega) hr
 obtain ⟨u, hu⟩ : ∃ k : Int, k = 1 := ⟨_, rfl⟩
 have hm1 : 0 < m := by rw [hm]; exact Km (by omega)
 have hr0 : r = true := by rw [hr]; unfold Jt; rw [if_pos (by omega)]; decide
 clear hm1
 have H4 := Hd C4
 have H5 := Hd C5
 have H6 := Hd C6
 clear C1 C2 C3 C4 C5 C6 hn hd hd0 hg hs hln hld hm hml hm0 hr hu
 have px := Zz.new w (.bool (decide (n < 0))) (.slice A (Za n.natAbs).length c) (.bool (decide (d < 0))) (.slice B (Za d.natAbs).length e0)
 have b0 := (Below.refl w.heap.size w).alloc (Nat.le_refl _) (.cells #[.bool (decide (n < 0)), .slice A (Za n.natAbs).length c, .bool (decide (d < 0)), .slice B (Za d.natAbs).length e0] 26)
 have h1 := h.below b0
 have g1 := g.below b0
 have PX := Hd px
 have B0 := Hd b0
 have RX := Hd h1
 have RY := Hd g1
 clear px b0 h g h1 g1
 go_enter Tryz.func184, Tryz.ntmps184
 go_wp2_with fail
 obtain ⟨W, E⟩ : ∃ W, W = w.alloc (.cells #[.bool (decide (n < 0)), .slice A (Za n.natAbs).length c, .bool (decide (d < 0)), .slice B (Za d.natAbs).length e0] 26) := ⟨_, rfl⟩
 rw [<- E] at PX B0 RX RY ⊢
 clear E
 have T0 := Below.refl W.heap.size W
 obtain ⟨l0, x0, x1, x2, x3, -, -, -, -⟩ := (PX.out.below T0).facts
 go_wp2_with fail
 refine (H1.out _ (RX.out.below T0)).mono ?_
 rintro e w1 ⟨rfl, h⟩
 have T1 := Zb T0 h
 clear h x0 x1 x2 x3 l0
 obtain ⟨l1, x0, x1, x2, x3, -, -, -, -⟩ := (PX.out.below T1).facts
 go_wp2_with fail
 refine (H2.out _ (RY.out.below T1)).mono ?_
 rintro e w2 ⟨rfl, h⟩
 have T2 := Zb T1 h
 clear h x0 x1 x2 x3 l1
 obtain ⟨l2, x0, x1, x2, x3, -, -, -, -⟩ := (PX.out.below T2).facts
 go_wp2_with fail
 refine (H3.out _ (RY.out.below T2)).mono ?_
 rintro e w3 ⟨rfl, h⟩
 have T3 := Zb T2 h
 clear h x0 x1 x2 x3 l2
 obtain ⟨l3, x0, x1, x2, x3, -, -, -, -⟩ := (PX.out.below T3).facts
 go_wp2_with fail
 refine (H4.out _ (RX.out.below T3) (RY.out.below T3)).mono ?_
 rintro e w4 ⟨v, rfl, i4, h⟩
 have T4 := Zb T3 h
 obtain ⟨A4, c4, rfl, r4⟩ := i4.form
 clear i4
 clear h x0 x1 x2 x3 l3
 subst hr0
 go_wp2_with fail
 obtain ⟨Y, E⟩ : ∃ Y, Y = w4.alloc (.cells #[.bool (decide (m < 0)), .slice A4 (Za m.natAbs).length c4] 24) := ⟨_, rfl⟩
 have pg := Zr.new w4 24 (.bool (decide (m < 0))) (.slice A4 (Za m.natAbs).length c4)
 have T5 := T4.alloc T4.size (.cells #[.bool (decide (m < 0)), .slice A4 (Za m.natAbs).length c4] 24)
 have r5 := r4.alloc (.cells #[.bool (decide (m < 0)), .slice A4 (Za m.natAbs).length c4] 24)
 rw [<- E] at pg T5 r5 ⊢
 have BB := Hd (B0.out.trans (T5.mono B0.out.size))
 have PG := Hd pg
 have R5 := Hd r5
 clear E pg T5 r5 r4 T4 T3 T2 T1 T0
 refine Zd [.any false (fun u V => Zc V 0 u 1) [], .val (.agg #[.bool (decide (m < 0)), .slice A4 (Za m.natAbs).length c4]) [], .val (.bool true) [0]] Y.heap.size Y [] X6 _ Zf (Nat.le_refl _) (Below.refl _ _) (Zu.refl _ _ _) rfl ?_ ?_ ?_ ?_ ?_ ?_ ?_ ?_ rfl (by simp [ZP]) ?_ ?_ ?_ ?_
 iterate 8 kernel_rfl
 . simp only [Zy, and_true]
   exact fun u V V' h k => h.kept k (by decide)
 . simp only [Z5]
 . simp (maxSteps := 4000000) [ZH, YD, Zg, ZF, Zn]
   repeat' (first | apply And.intro | (intro (u : Value)) | (intro (u : Nat)))
   all_goals first
   | (intro V hV hK
      have qg := PG.out.below hV
      obtain ⟨l9, a_g, b_g, -, -⟩ := qg.facts
      clear hV hK qg
      go_simp
      first
      | exact Below.refl _ _
      | ((with_reducible refine (H5.out V).mono ?_); rintro _ _ ⟨_, rfl, x, y⟩; exact ⟨x.base (Nat.zero_le _), y⟩))
   | (intro V hV hK h1
      have rg := R5.out.below hV
      obtain ⟨A5, c5, rfl, r5⟩ := h1.raw
      clear hV hK h1
      go_simp
      refine (H6.out V A4 A5 c4 c5 rg r5).mono ?_
      rintro e w' ⟨rfl, hb⟩
      exact ⟨rfl, hb⟩)
 . simp [YH, ZK, Zg, ZF, Zn]
   intro u1 V hV hK h1 _ _ _
   have B9 := Hd (BB.out.trans (hV.mono BB.out.size))
   clear hV hK h1
   go_wp2_with fail
   go_ret
   exact ⟨rfl, B9.out⟩

theorem ref02_Check (n1 n2 : Bool) (A B : Option Addr) (c e0 : Nat) (xs ys : List Nat) (w : World) (h : Zm w A c xs) (g : Zm w B e0 ys) :
  Calls Tryz.prog 184 #[.agg #[.bool n1, .slice A xs.length c, .bool n2, .slice B ys.length e0]] w fun e w' => e = .returned (.int .i64 (XC n1 n2 xs ys)) /\ Below w.heap.size w w' := by
 unfold XC mkOk
 cases o1 : okI n1 xs with
 | false => exact ref02_Check_bad_one n1 n2 A B c e0 xs ys o1 w h g
 | true =>
  cases o2 : okI n2 ys with
  | false => exact ref02_Check_bad_two n1 n2 A B c e0 xs ys o1 o2 w h g
  | true =>
   obtain ⟨a1, a2, a3⟩ := ok_num h.limbs o1
   obtain ⟨b1, b2, b3⟩ := ok_num g.limbs o2
   generalize Zv n1 xs = x at a1 a2 a3 ⊢
   generalize Zv n2 ys = y at b1 b2 b3 ⊢
   subst a1 a2 b1 b2
   simp only [Bool.and_self, if_true]
   by_cases hy : 0 < y
   . by_cases hg : ZL x y = 1
     . rw [if_pos ⟨hy, hg⟩]
       exact ref02_Check_fine x y A B c e0 w h g a3 b3 hy hg
     . rw [if_neg fun q => hg q.2]
       exact ref02_Check_more x y A B c e0 w h g a3 b3 hy hg
   . rw [if_neg fun q => hy q.1]
     exact ref02_Check_low x y A B c e0 w h g a3 b3 (by omega)


def costLow (a b : Nat) : Int := ((min a 1048576 : Nat) : Int) * ((min b 1048576 : Nat) : Int) / 16 * 1024
theorem cost_low (n1 n2 : Bool) (A B : Option Addr) (c e0 : Nat) (xs ys : List Nat) (w : World) (h : Zm w A c xs) (g : Zm w B e0 ys) :
  Calls Tryz.prog 90 #[.agg #[.bool n1, .slice A xs.length c], .agg #[.bool n2, .slice B ys.length e0]] w fun e w' => e = .returned (.int .i64 (costLow xs.length ys.length)) /\ Below w.heap.size w w' := by
 have h1 := h.cap
 have h2 := h.most
 have g1 := g.cap
 have g2 := g.most
 generalize xs.length = a at h1 ⊢
 generalize ys.length = b at g1 ⊢
 clear h g
 have ha : (a : Int) <= 9223372036854775807 := by omega
 have hb : (b : Int) <= 9223372036854775807 := by omega
 clear h1 h2 g1 g2
 have b0 := Hd (((Below.refl w.heap.size w).alloc (Nat.le_refl _) (.cells #[.bool n1, .slice A a c] 24)).alloc (by simp) (.cells #[.bool n2, .slice B b e0] 24))
 go_enter Tryz.func90, Tryz.ntmps90
 go_wp2_with fail
 go_ret
 refine ⟨?_, b0.out⟩
 obtain ⟨p, hp⟩ : ∃ p : Int, p = min (a : Int) 1048576 := ⟨_, rfl⟩
 obtain ⟨q, hq⟩ : ∃ q : Int, q = min (b : Int) 1048576 := ⟨_, rfl⟩
 have p0 : 0 <= p /\ p <= 1048576 := by omega
 have q0 : 0 <= q /\ q <= 1048576 := by omega
 have e : costLow a b = p * q / 16 * 1024 := by
  unfold costLow
  rw [show ((min a 1048576 : Nat) : Int) = p by omega, show ((min b 1048576 : Nat) : Int) = q by omega]
 rw [e, <- hp, <- hq]
 have m0 : 0 <= p * q := Int.mul_nonneg p0.1 q0.1
 have m1 : p * q <= 1048576 * 1048576 := Int.mul_le_mul p0.2 q0.2 q0.1 (by decide)
 generalize p * q = z at m0 m1 ⊢
 have w1 : wrap64 z = z := by unfold wrap64; omega
 have w2 : wrap64 (z.tdiv 16) = z / 16 := by
  rw [Int.tdiv_eq_ediv_of_nonneg m0]
  unfold wrap64; omega
 have w3 : wrap64 (z / 16 * 1024) = z / 16 * 1024 := by unfold wrap64; omega
 rw [w1, w2, w3]
 rfl
end Go.Proofs.YtdonecnhdkjniaaGreatDoor
