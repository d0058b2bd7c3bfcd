/- Several texts in one: FRefCheck, FCheckF, FCost, Nil, Fill. -/
import Derived.Test.YthlehkjcfhnplaaGreatDoorGv19
set_option maxRecDepth 100000
set_option maxHeartbeats 8000000
namespace Go.Proofs.YthlehkjcfhnplaaGreatDoor
open Go.RowKit

theorem rbelow (x y : Int) (b : Bool) (A B : Option Addr) (c d : Nat) (w : World) (h : Zj w A c (Za x.natAbs)) (g : Zj w B d (Za y.natAbs)) (hx : lz x <= 500000000) (hy : lz y <= 500000000) (hb : b = decide (XW x y < 0)) :
  Calls Tryz.prog 253 #[.agg #[.bool (decide (x < 0)), .slice A (Za x.natAbs).length c], .agg #[.bool (decide (y < 0)), .slice B (Za y.natAbs).length d]] w fun e w' => e = .returned (.bool b) /\ Below w.heap.size w w' := by
 obtain ⟨k, hk⟩ : ∃ k : Int, k = XW x y := ⟨_, rfl⟩
 rw [<- hk] at hb
 have b0 := ((Below.refl w.heap.size w).alloc (Nat.le_refl _) (.cells #[.bool (decide (x < 0)), .slice A (Za x.natAbs).length c] 24)).alloc (by simp) (.cells #[.bool (decide (y < 0)), .slice B (Za y.natAbs).length d] 24)
 have H := Hd (rcmp x y k A B c d _ (h.below b0) (g.below b0) hx hy hk)
 have B0 := Hd b0
 have HB := Hd hb
 clear h g hx hy hk b0 hb
 go_enter Tryz.func253, Tryz.ntmps253
 go_wp2_with fail
 refine H.out.mono ?_
 rintro e w1 ⟨rfl, hb⟩
 go_wp2_with fail
 go_ret
 exact ⟨by rw [HB.out]; rfl, Zb B0.out hb⟩

theorem ref02_Check_bad_one (n1 n2 : Bool) (A B : Option Addr) (c e0 : Nat) (xs ys : List Nat) (o : okI n1 xs = false) (w : World) (h : Zj w A c xs) (g : Zj w B e0 ys) :
  Calls Tryz.prog 207 #[.agg #[.bool n1, .slice A xs.length c, .bool n2, .slice B ys.length e0]] w fun e w' => e = .returned (.int .i64 1) /\ Below w.heap.size w w' := by
 have C1 := fun (V : World) (h : Zj V A c xs) => Yy n1 A c _ V h
 unfold XH at C1
 rw [if_neg (by rw [o]; decide)] at C1
 have H1 := Hd C1
 clear C1 o
 have px := ZB.new w (.bool n1) (.slice A xs.length c) (.bool n2) (.slice B ys.length e0)
 have b0 := (Below.refl w.heap.size w).alloc (Nat.le_refl _) (.cells #[.bool n1, .slice A xs.length c, .bool n2, .slice B ys.length e0] 26)
 have h1 := h.below b0
 have g1 := g.below b0
 have PX := Hd px
 have B0 := Hd b0
 have RX := Hd h1
 have RY := Hd g1
 clear px b0 h g h1 g1
 go_enter Tryz.func207, Tryz.ntmps207
 go_wp2_with fail
 obtain ⟨W, E⟩ : ∃ W, W = w.alloc (.cells #[.bool n1, .slice A xs.length c, .bool n2, .slice B ys.length e0] 26) := ⟨_, rfl⟩
 rw [<- E] at PX B0 RX RY ⊢
 clear E
 have T0 := Below.refl W.heap.size W
 obtain ⟨l0, x0, x1, x2, x3, -, -, -, -⟩ := (PX.out.below T0).facts
 go_wp2_with fail
 refine (H1.out _ (RX.out.below T0)).mono ?_
 rintro e w1 ⟨rfl, h⟩
 have T1 := Zb T0 h
 clear h x0 x1 x2 x3 l0
 have BB := Zb B0.out T1
 go_wp2_with fail
 go_ret
 exact ⟨rfl, BB⟩

theorem ref02_Check_bad_two (n1 n2 : Bool) (A B : Option Addr) (c e0 : Nat) (xs ys : List Nat) (o1 : okI n1 xs = true) (o : okI n2 ys = false) (w : World) (h : Zj w A c xs) (g : Zj w B e0 ys) :
  Calls Tryz.prog 207 #[.agg #[.bool n1, .slice A xs.length c, .bool n2, .slice B ys.length e0]] w fun e w' => e = .returned (.int .i64 1) /\ Below w.heap.size w w' := by
 have C1 := fun (V : World) (h : Zj V A c xs) => Yy n1 A c _ V h
 unfold XH at C1
 rw [if_pos o1] at C1
 have H1 := Hd C1
 have C2 := fun (V : World) (h : Zj V B e0 ys) => Yy n2 B e0 _ V h
 unfold XH at C2
 rw [if_neg (by rw [o]; decide)] at C2
 have H2 := Hd C2
 clear C2 o1
 clear C1 o
 have px := ZB.new w (.bool n1) (.slice A xs.length c) (.bool n2) (.slice B ys.length e0)
 have b0 := (Below.refl w.heap.size w).alloc (Nat.le_refl _) (.cells #[.bool n1, .slice A xs.length c, .bool n2, .slice B ys.length e0] 26)
 have h1 := h.below b0
 have g1 := g.below b0
 have PX := Hd px
 have B0 := Hd b0
 have RX := Hd h1
 have RY := Hd g1
 clear px b0 h g h1 g1
 go_enter Tryz.func207, Tryz.ntmps207
 go_wp2_with fail
 obtain ⟨W, E⟩ : ∃ W, W = w.alloc (.cells #[.bool n1, .slice A xs.length c, .bool n2, .slice B ys.length e0] 26) := ⟨_, rfl⟩
 rw [<- E] at PX B0 RX RY ⊢
 clear E
 have T0 := Below.refl W.heap.size W
 obtain ⟨l0, x0, x1, x2, x3, -, -, -, -⟩ := (PX.out.below T0).facts
 go_wp2_with fail
 refine (H1.out _ (RX.out.below T0)).mono ?_
 rintro e w1 ⟨rfl, h⟩
 have T1 := Zb T0 h
 clear h x0 x1 x2 x3 l0
 obtain ⟨l1, x0, x1, x2, x3, -, -, -, -⟩ := (PX.out.below T1).facts
 go_wp2_with fail
 refine (H2.out _ (RY.out.below T1)).mono ?_
 rintro e w2 ⟨rfl, h⟩
 have T2 := Zb T1 h
 clear h x0 x1 x2 x3 l1
 have BB := Zb B0.out T2
 go_wp2_with fail
 go_ret
 exact ⟨rfl, BB⟩

theorem ref02_Check_low (n d : Int) (A B : Option Addr) (c e0 : Nat) (w : World) (h : Zj w A c (Za n.natAbs)) (g : Zj w B e0 (Za d.natAbs)) (hn : Fit n) (hd : Fit d) (hd0 : d <= 0) :
  Calls Tryz.prog 207 #[.agg #[.bool (decide (n < 0)), .slice A (Za n.natAbs).length c, .bool (decide (d < 0)), .slice B (Za d.natAbs).length e0]] w fun e w' => e = .returned (.int .i64 1) /\ Below w.heap.size w w' := by
 have C1 := fun (V : World) (h : Zj V A c (Za n.natAbs)) => Yy (decide (n < 0)) A c _ V h
 have C2 := fun (V : World) (h : Zj V B e0 (Za d.natAbs)) => Yy (decide (d < 0)) B e0 _ V h
 unfold XH at C1 C2
 rw [if_pos hn.ok] at C1
 rw [if_pos hd.ok] at C2
 have hln : lz n <= 2048 := hn
 have hld : lz d <= 2048 := hd
 obtain ⟨s, hs⟩ : ∃ k : Int, k = d.sign := ⟨_, rfl⟩
 have C3 := fun (V : World) (h : Zj V B e0 (Za d.natAbs)) => rsign d s B e0 V h hs
 have hs1 : s <= 0 := by rw [hs]; exact Int.sign_nonpos_iff.2 hd0
 have H1 := Hd C1
 have H2 := Hd C2
 have H3 := Hd C3
 clear C1 C2 C3 hn hd hd0 hs hln hld
 have px := ZB.new w (.bool (decide (n < 0))) (.slice A (Za n.natAbs).length c) (.bool (decide (d < 0))) (.slice B (Za d.natAbs).length e0)
 have b0 := (Below.refl w.heap.size w).alloc (Nat.le_refl _) (.cells #[.bool (decide (n < 0)), .slice A (Za n.natAbs).length c, .bool (decide (d < 0)), .slice B (Za d.natAbs).length e0] 26)
 have h1 := h.below b0
 have g1 := g.below b0
 have PX := Hd px
 have B0 := Hd b0
 have RX := Hd h1
 have RY := Hd g1
 clear px b0 h g h1 g1
 go_enter Tryz.func207, Tryz.ntmps207
 go_wp2_with fail
 obtain ⟨W, E⟩ : ∃ W, W = w.alloc (.cells #[.bool (decide (n < 0)), .slice A (Za n.natAbs).length c, .bool (decide (d < 0)), .slice B (Za d.natAbs).length e0] 26) := ⟨_, rfl⟩
 rw [<- E] at PX B0 RX RY ⊢
 clear E
 have T0 := Below.refl W.heap.size W
 obtain ⟨l0, x0, x1, x2, x3, -, -, -, -⟩ := (PX.out.below T0).facts
 go_wp2_with fail
 refine (H1.out _ (RX.out.below T0)).mono ?_
 rintro e w1 ⟨rfl, h⟩
 have T1 := Zb T0 h
 clear h x0 x1 x2 x3 l0
 obtain ⟨l1, x0, x1, x2, x3, -, -, -, -⟩ := (PX.out.below T1).facts
 go_wp2_with fail
 refine (H2.out _ (RY.out.below T1)).mono ?_
 rintro e w2 ⟨rfl, h⟩
 have T2 := Zb T1 h
 clear h x0 x1 x2 x3 l1
 obtain ⟨l2, x0, x1, x2, x3, -, -, -, -⟩ := (PX.out.below T2).facts
 go_wp2_with fail
 refine (H3.out _ (RY.out.below T2)).mono ?_
 rintro e w3 ⟨rfl, h⟩
 have T3 := Zb T2 h
 clear h x0 x1 x2 x3 l2
 have BB := Zb B0.out T3
 go_wp2_with fail
 go_ret
 exact ⟨rfl, BB⟩

theorem ref02_Check_fine (n d : Int) (A B : Option Addr) (c e0 : Nat) (w : World) (h : Zj w A c (Za n.natAbs)) (g : Zj w B e0 (Za d.natAbs)) (hn : Fit n) (hd : Fit d) (hd0 : 0 < d) (hg : ZX n d = 1) :
   Calls Tryz.prog 207 #[.agg #[.bool (decide (n < 0)), .slice A (Za n.natAbs).length c, .bool (decide (d < 0)), .slice B (Za d.natAbs).length e0]] w fun e w' => e = .returned (.int .i64 0) /\ Below w.heap.size w w' := by
 have C1 := fun (V : World) (h : Zj V A c (Za n.natAbs)) => Yy (decide (n < 0)) A c _ V h
 have C2 := fun (V : World) (h : Zj V B e0 (Za d.natAbs)) => Yy (decide (d < 0)) B e0 _ V h
 unfold XH at C1 C2
 rw [if_pos hn.ok] at C1
 rw [if_pos hd.ok] at C2
 have hln : lz n <= 2048 := hn
 have hld : lz d <= 2048 := hd
 obtain ⟨s, hs⟩ : ∃ k : Int, k = d.sign := ⟨_, rfl⟩
 have C3 := fun (V : World) (h : Zj V B e0 (Za d.natAbs)) => rsign d s B e0 V h hs
 have hs1 : 0 < s := by rw [hs]; exact Int.sign_pos_iff.2 hd0
 have H1 := Hd C1
 have H2 := Hd C2
 have H3 := Hd C3
 obtain ⟨m, hm⟩ : ∃ k : Int, k = ZX n d := ⟨_, rfl⟩
 have hml : lz m <= 2048 := by rw [hm]; exact Nat.le_trans (XP (by omega)) hld
 have hm0 : m = 1 := by rw [hm]; exact hg
 obtain ⟨r, hr⟩ : ∃ k : Bool, k = decide (XW 1 m < 0) := ⟨_, rfl⟩
 have C4 := fun (V : World) (h : Zj V A c (Za n.natAbs)) (g : Zj V B e0 (Za d.natAbs)) => common02 n d A B c e0 V h g (by omega) (by omega)
 rw [<- hm] at C4
 have C5 := fun (V : World) => ref_Of 1 (by decide) (by decide) V
 have C6 := fun (V : World) (A' B' : Option Addr) (c' e' : Nat) (h : Zj V A' c' (Za m.natAbs)) (g : Zj V B' e' (Za (1 : Int).natAbs)) => rbelow 1 m r B' A' e' c' V g h (by decide) (by omega) hr
 obtain ⟨u, hu⟩ : ∃ k : Int, k = 1 := ⟨_, rfl⟩
 have hr0 : r = false := by rw [hr]; unfold XW; rw [hm0]; decide
 have H4 := Hd C4
 have H5 := Hd C5
 have H6 := Hd C6
 clear C1 C2 C3 C4 C5 C6 hn hd hd0 hg hs hln hld hm hml hm0 hr hu
 have px := ZB.new w (.bool (decide (n < 0))) (.slice A (Za n.natAbs).length c) (.bool (decide (d < 0))) (.slice B (Za d.natAbs).length e0)
 have b0 := (Below.refl w.heap.size w).alloc (Nat.le_refl _) (.cells #[.bool (decide (n < 0)), .slice A (Za n.natAbs).length c, .bool (decide (d < 0)), .slice B (Za d.natAbs).length e0] 26)
 have h1 := h.below b0
 have g1 := g.below b0
 have PX := Hd px
 have B0 := Hd b0
 have RX := Hd h1
 have RY := Hd g1
 clear px b0 h g h1 g1
 go_enter Tryz.func207, Tryz.ntmps207
 go_wp2_with fail
 obtain ⟨W, E⟩ : ∃ W, W = w.alloc (.cells #[.bool (decide (n < 0)), .slice A (Za n.natAbs).length c, .bool (decide (d < 0)), .slice B (Za d.natAbs).length e0] 26) := ⟨_, rfl⟩
 rw [<- E] at PX B0 RX RY ⊢
 clear E
 have T0 := Below.refl W.heap.size W
 obtain ⟨l0, x0, x1, x2, x3, -, -, -, -⟩ := (PX.out.below T0).facts
 go_wp2_with fail
 refine (H1.out _ (RX.out.below T0)).mono ?_
 rintro e w1 ⟨rfl, h⟩
 have T1 := Zb T0 h
 clear h x0 x1 x2 x3 l0
 obtain ⟨l1, x0, x1, x2, x3, -, -, -, -⟩ := (PX.out.below T1).facts
 go_wp2_with fail
 refine (H2.out _ (RY.out.below T1)).mono ?_
 rintro e w2 ⟨rfl, h⟩
 have T2 := Zb T1 h
 clear h x0 x1 x2 x3 l1
 obtain ⟨l2, x0, x1, x2, x3, -, -, -, -⟩ := (PX.out.below T2).facts
 go_wp2_with fail
 refine (H3.out _ (RY.out.below T2)).mono ?_
 rintro e w3 ⟨rfl, h⟩
 have T3 := Zb T2 h
 clear h x0 x1 x2 x3 l2
 obtain ⟨l3, x0, x1, x2, x3, -, -, -, -⟩ := (PX.out.below T3).facts
 go_wp2_with fail
 refine (H4.out _ (RX.out.below T3) (RY.out.below T3)).mono ?_
 rintro e w4 ⟨v, rfl, i4, h⟩
 have T4 := Zb T3 h
 obtain ⟨A4, c4, rfl, r4⟩ := i4.form
 clear i4
 clear h x0 x1 x2 x3 l3
 subst hr0
 go_wp2_with fail
 obtain ⟨Y, E⟩ : ∃ Y, Y = w4.alloc (.cells #[.bool (decide (m < 0)), .slice A4 (Za m.natAbs).length c4] 24) := ⟨_, rfl⟩
 have pg := Zl.new w4 24 (.bool (decide (m < 0))) (.slice A4 (Za m.natAbs).length c4)
 have T5 := T4.alloc T4.size (.cells #[.bool (decide (m < 0)), .slice A4 (Za m.natAbs).length c4] 24)
 have r5 := r4.alloc (.cells #[.bool (decide (m < 0)), .slice A4 (Za m.natAbs).length c4] 24)
 rw [<- E] at pg T5 r5 ⊢
 have BB := Hd (B0.out.trans (T5.mono B0.out.size))
 have PG := Hd pg
 have R5 := Hd r5
 clear E pg T5 r5 r4 T4 T3 T2 T1 T0
 refine Zc [.any false (fun u V => Zf V 0 u 1) [], .val (.agg #[.bool (decide (m < 0)), .slice A4 (Za m.natAbs).length c4]) [], .val (.bool false) [0]] Y.heap.size Y [] YT _ Zd (Nat.le_refl _) (Below.refl _ _) (Zr.refl _ _ _) rfl ?_ ?_ ?_ ?_ ?_ ?_ ?_ ?_ rfl (by simp [ZI]) ?_ ?_ ?_ ?_
 iterate 8 kernel_rfl
 . simp only [Zq, and_true]
   exact fun u V V' h k => h.kept k (by decide)
 . simp only [ZK]
 . simp (maxSteps := 4000000) [Zv, Z6, Ze, Zs, Zg]
   repeat' (first | apply And.intro | (intro (u : Value)) | (intro (u : Nat)))
   all_goals first
   | (intro V hV hK
      have qg := PG.out.below hV
      obtain ⟨l9, a_g, b_g, -, -⟩ := qg.facts
      clear hV hK qg
      go_simp
      first
      | exact Below.refl _ _
      | ((with_reducible refine (H5.out V).mono ?_); rintro _ _ ⟨_, rfl, x, y⟩; exact ⟨x.base (Nat.zero_le _), y⟩))
   | (intro V hV hK h1
      have rg := R5.out.below hV
      obtain ⟨A5, c5, rfl, r5⟩ := h1.raw
      clear hV hK h1
      go_simp
      refine (H6.out V A4 A5 c4 c5 rg r5).mono ?_
      rintro e w' ⟨rfl, hb⟩
      exact ⟨rfl, hb⟩)
 . simp [Z8, Zx, Ze, Zs, Zg]
   intro u1 V hV hK h1 _ _ _
   have B9 := Hd (BB.out.trans (hV.mono BB.out.size))
   clear hV hK h1
   go_wp2_with fail
   go_ret
   exact ⟨rfl, B9.out⟩

theorem ref02_Check_more (n d : Int) (A B : Option Addr) (c e0 : Nat) (w : World) (h : Zj w A c (Za n.natAbs)) (g : Zj w B e0 (Za d.natAbs)) (hn : Fit n) (hd : Fit d) (hd0 : 0 < d) (hg : ZX n d ≠ 1) :
   Calls Tryz.prog 207 #[.agg #[.bool (decide (n < 0)), .slice A (Za n.natAbs).length c, .bool (decide (d < 0)), .slice B (Za d.natAbs).length e0]] w fun e w' => e = .returned (.int .i64 1) /\ Below w.heap.size w w' := by
 have C1 := fun (V : World) (h : Zj V A c (Za n.natAbs)) => Yy (decide (n < 0)) A c _ V h
 have C2 := fun (V : World) (h : Zj V B e0 (Za d.natAbs)) => Yy (decide (d < 0)) B e0 _ V h
 unfold XH at C1 C2
 rw [if_pos hn.ok] at C1
 rw [if_pos hd.ok] at C2
 have hln : lz n <= 2048 := hn
 have hld : lz d <= 2048 := hd
 obtain ⟨s, hs⟩ : ∃ k : Int, k = d.sign := ⟨_, rfl⟩
 have C3 := fun (V : World) (h : Zj V B e0 (Za d.natAbs)) => rsign d s B e0 V h hs
 have hs1 : 0 < s := by rw [hs]; exact Int.sign_pos_iff.2 hd0
 have H1 := Hd C1
 have H2 := Hd C2
 have H3 := Hd C3
 obtain ⟨m, hm⟩ : ∃ k : Int, k = ZX n d := ⟨_, rfl⟩
 have hml : lz m <= 2048 := by rw [hm]; exact Nat.le_trans (XP (by omega)) hld
 have hm0 : m ≠ 1 := by rw [hm]; exact hg
 obtain ⟨r, hr⟩ : ∃ k : Bool, k = decide (XW 1 m < 0) := ⟨_, rfl⟩
 have C4 := fun (V : World) (h : Zj V A c (Za n.natAbs)) (g : Zj V B e0 (Za d.natAbs)) => common02 n d A B c e0 V h g (by omega) (by omega)
 rw [<- hm] at C4
 have C5 := fun (V : World) => ref_Of 1 (by decide) (by decide) V
 have C6 := fun (V : World) (A' B' : Option Addr) (c' e' : Nat) (h : Zj V A' c' (Za m.natAbs)) (g : Zj V B' e' (Za (1 : Int).natAbs)) => rbelow 1 m r B' A' e' c' V g h (by decide) (by omega) hr
 obtain ⟨u, hu⟩ : ∃ k : Int, k = 1 := ⟨_, rfl⟩
 have hm1 : 0 < m := by rw [hm]; exact Xw (by omega)
 have hr0 : r = true := by rw [hr]; unfold XW; rw [if_pos (by omega)]; decide
 clear hm1
 have H4 := Hd C4
 have H5 := Hd C5
 have H6 := Hd C6
 clear C1 C2 C3 C4 C5 C6 hn hd hd0 hg hs hln hld hm hml hm0 hr hu
 have px := ZB.new w (.bool (decide (n < 0))) (.slice A (Za n.natAbs).length c) (.bool (decide (d < 0))) (.slice B (Za d.natAbs).length e0)
 have b0 := (Below.refl w.heap.size w).alloc (Nat.le_refl _) (.cells #[.bool (decide (n < 0)), .slice A (Za n.natAbs).length c, .bool (decide (d < 0)), .slice B (Za d.natAbs).length e0] 26)
 have h1 := h.below b0
 have g1 := g.below b0
 have PX := Hd px
 have B0 := Hd b0
 have RX := Hd h1
 have RY := Hd g1
 clear px b0 h g h1 g1
 go_enter Tryz.func207, Tryz.ntmps207
 go_wp2_with fail
 obtain ⟨W, E⟩ : ∃ W, W = w.alloc (.cells #[.bool (decide (n < 0)), .slice A (Za n.natAbs).length c, .bool (decide (d < 0)), .slice B (Za d.natAbs).length e0] 26) := ⟨_, rfl⟩
 rw [<- E] at PX B0 RX RY ⊢
 clear E
 have T0 := Below.refl W.heap.size W
 obtain ⟨l0, x0, x1, x2, x3, -, -, -, -⟩ := (PX.out.below T0).facts
 go_wp2_with fail
 refine (H1.out _ (RX.out.below T0)).mono ?_
 rintro e w1 ⟨rfl, h⟩
 have T1 := Zb T0 h
 clear h x0 x1 x2 x3 l0
 obtain ⟨l1, x0, x1, x2, x3, -, -, -, -⟩ := (PX.out.below T1).facts
 go_wp2_with fail
 refine (H2.out _ (RY.out.below T1)).mono ?_
 rintro e w2 ⟨rfl, h⟩
 have T2 := Zb T1 h
 clear h x0 x1 x2 x3 l1
 obtain ⟨l2, x0, x1, x2, x3, -, -, -, -⟩ := (PX.out.below T2).facts
 go_wp2_with fail
 refine (H3.out _ (RY.out.below T2)).mono ?_
 rintro e w3 ⟨rfl, h⟩
 have T3 := Zb T2 h
 clear h x0 x1 x2 x3 l2
 obtain ⟨l3, x0, x1, x2, x3, -, -, -, -⟩ := (PX.out.below T3).facts
 go_wp2_with fail
 refine (H4.out _ (RX.out.below T3) (RY.out.below T3)).mono ?_
 rintro e w4 ⟨v, rfl, i4, h⟩
 have T4 := Zb T3 h
 obtain ⟨A4, c4, rfl, r4⟩ := i4.form
 clear i4
 clear h x0 x1 x2 x3 l3
 subst hr0
 go_wp2_with fail
 obtain ⟨Y, E⟩ : ∃ Y, Y = w4.alloc (.cells #[.bool (decide (m < 0)), .slice A4 (Za m.natAbs).length c4] 24) := ⟨_, rfl⟩
 have pg := Zl.new w4 24 (.bool (decide (m < 0))) (.slice A4 (Za m.natAbs).length c4)
 have T5 := T4.alloc T4.size (.cells #[.bool (decide (m < 0)), .slice A4 (Za m.natAbs).length c4] 24)
 have r5 := r4.alloc (.cells #[.bool (decide (m < 0)), .slice A4 (Za m.natAbs).length c4] 24)
 rw [<- E] at pg T5 r5 ⊢
 have BB := Hd (B0.out.trans (T5.mono B0.out.size))
 have PG := Hd pg
 have R5 := Hd r5
 clear E pg T5 r5 r4 T4 T3 T2 T1 T0
 refine Zc [.any false (fun u V => Zf V 0 u 1) [], .val (.agg #[.bool (decide (m < 0)), .slice A4 (Za m.natAbs).length c4]) [], .val (.bool true) [0]] Y.heap.size Y [] YT _ Zd (Nat.le_refl _) (Below.refl _ _) (Zr.refl _ _ _) rfl ?_ ?_ ?_ ?_ ?_ ?_ ?_ ?_ rfl (by simp [ZI]) ?_ ?_ ?_ ?_
 iterate 8 kernel_rfl
 . simp only [Zq, and_true]
   exact fun u V V' h k => h.kept k (by decide)
 . simp only [ZK]
 . simp (maxSteps := 4000000) [Zv, Z6, Ze, Zs, Zg]
   repeat' (first | apply And.intro | (intro (u : Value)) | (intro (u : Nat)))
   all_goals first
   | (intro V hV hK
      have qg := PG.out.below hV
      obtain ⟨l9, a_g, b_g, -, -⟩ := qg.facts
      clear hV hK qg
      go_simp
      first
      | exact Below.refl _ _
      | ((with_reducible refine (H5.out V).mono ?_); rintro _ _ ⟨_, rfl, x, y⟩; exact ⟨x.base (Nat.zero_le _), y⟩))
   | (intro V hV hK h1
      have rg := R5.out.below hV
      obtain ⟨A5, c5, rfl, r5⟩ := h1.raw
      clear hV hK h1
      go_simp
      refine (H6.out V A4 A5 c4 c5 rg r5).mono ?_
      rintro e w' ⟨rfl, hb⟩
      exact ⟨rfl, hb⟩)
 . simp [Z8, Zx, Ze, Zs, Zg]
   intro u1 V hV hK h1 _ _ _
   have B9 := Hd (BB.out.trans (hV.mono BB.out.size))
   clear hV hK h1
   go_wp2_with fail
   go_ret
   exact ⟨rfl, B9.out⟩

theorem ref02_Check (n1 n2 : Bool) (A B : Option Addr) (c e0 : Nat) (xs ys : List Nat) (w : World) (h : Zj w A c xs) (g : Zj w B e0 ys) :
  Calls Tryz.prog 207 #[.agg #[.bool n1, .slice A xs.length c, .bool n2, .slice B ys.length e0]] w fun e w' => e = .returned (.int .i64 (YV n1 n2 xs ys)) /\ Below w.heap.size w w' := by
 unfold YV mkOk
 cases o1 : okI n1 xs with
 | false => exact ref02_Check_bad_one n1 n2 A B c e0 xs ys o1 w h g
 | true =>
  cases o2 : okI n2 ys with
  | false => exact ref02_Check_bad_two n1 n2 A B c e0 xs ys o1 o2 w h g
  | true =>
   obtain ⟨a1, a2, a3⟩ := ok_num h.limbs o1
   obtain ⟨b1, b2, b3⟩ := ok_num g.limbs o2
   generalize Zu n1 xs = x at a1 a2 a3 ⊢
   generalize Zu n2 ys = y at b1 b2 b3 ⊢
   subst a1 a2 b1 b2
   simp only [Bool.and_self, if_true]
   by_cases hy : 0 < y
   . by_cases hg : ZX x y = 1
     . rw [if_pos ⟨hy, hg⟩]
       exact ref02_Check_fine x y A B c e0 w h g a3 b3 hy hg
     . rw [if_neg fun q => hg q.2]
       exact ref02_Check_more x y A B c e0 w h g a3 b3 hy hg
   . rw [if_neg fun q => hy q.1]
     exact ref02_Check_low x y A B c e0 w h g a3 b3 (by omega)


def costLow (a b : Nat) : Int := ((min a 1048576 : Nat) : Int) * ((min b 1048576 : Nat) : Int) / 16 * 1024
theorem cost_low (n1 n2 : Bool) (A B : Option Addr) (c e0 : Nat) (xs ys : List Nat) (w : World) (h : Zj w A c xs) (g : Zj w B e0 ys) :
  Calls Tryz.prog 118 #[.agg #[.bool n1, .slice A xs.length c], .agg #[.bool n2, .slice B ys.length e0]] w fun e w' => e = .returned (.int .i64 (costLow xs.length ys.length)) /\ Below w.heap.size w w' := by
 have h1 := h.cap
 have h2 := h.most
 have g1 := g.cap
 have g2 := g.most
 generalize xs.length = a at h1 ⊢
 generalize ys.length = b at g1 ⊢
 clear h g
 have ha : (a : Int) <= 9223372036854775807 := by omega
 have hb : (b : Int) <= 9223372036854775807 := by omega
 clear h1 h2 g1 g2
 have b0 := Hd (((Below.refl w.heap.size w).alloc (Nat.le_refl _) (.cells #[.bool n1, .slice A a c] 24)).alloc (by simp) (.cells #[.bool n2, .slice B b e0] 24))
 go_enter Tryz.func118, Tryz.ntmps118
 go_wp2_with fail
 go_ret
 refine ⟨?_, b0.out⟩
 obtain ⟨p, hp⟩ : ∃ p : Int, p = min (a : Int) 1048576 := ⟨_, rfl⟩
 obtain ⟨q, hq⟩ : ∃ q : Int, q = min (b : Int) 1048576 := ⟨_, rfl⟩
 have p0 : 0 <= p /\ p <= 1048576 := by omega
 have q0 : 0 <= q /\ q <= 1048576 := by omega
 have e : costLow a b = p * q / 16 * 1024 := by
  unfold costLow
  rw [show ((min a 1048576 : Nat) : Int) = p by omega, show ((min b 1048576 : Nat) : Int) = q by omega]
 rw [e, <- hp, <- hq]
 have m0 : 0 <= p * q := Int.mul_nonneg p0.1 q0.1
 have m1 : p * q <= 1048576 * 1048576 := Int.mul_le_mul p0.2 q0.2 q0.1 (by decide)
 generalize p * q = z at m0 m1 ⊢
 have w1 : wrap64 z = z := by unfold wrap64; omega
 have w2 : wrap64 (z.tdiv 16) = z / 16 := by
  rw [Int.tdiv_eq_ediv_of_nonneg m0]
  unfold wrap64; omega
 have w3 : wrap64 (z / 16 * 1024) = z / 16 * 1024 := by unfold wrap64; omega
 rw [w1, w2, w3]
 rfl

theorem fill_Number (b m : Nat) (lims : Value) (w : World) (h : ZR w b Z1 (Z9 m lims)) :
  Calls Tryz.prog 57 #[.pointer (some ⟨b, 0, none⟩)] w fun e w' => e = .returned (.tuple #[]) /\ w = w' := by
 have c := h.cell 2
 simp at c
 clear h
 go_enter Tryz.func57, Tryz.ntmps57
 go_wp2_with fail
 go_loop [2] (fun v => v = .int .i64 0) (fun _ => 0)
 case atStart => exact rfl
 case round =>
  subst hrel
  go_wp2_with fail
  exact bodyPost_end (v := .tuple #[]) (by simp [results, Tryz.results57, go_sem]) rfl ⟨rfl, rfl⟩

theorem grow_Number (b m : Nat) (lims : Value) (w : World) (h : ZR w b Z1 (Z9 m lims)) :
  Calls Tryz.prog 73 #[.pointer (some ⟨b, 0, none⟩)] w fun e w' => e = .returned (.tuple #[]) /\ w = w' := by
 have c := h.cell 2
 simp at c
 clear h
 go_enter Tryz.func73, Tryz.ntmps73
 go_wp2_with fail
 go_loop [2] (fun v => v = .int .i64 0) (fun _ => 0)
 case atStart => exact rfl
 case round =>
  subst hrel
  go_wp2_with fail
  exact bodyPost_end (v := .tuple #[]) (by simp [results, Tryz.results73, go_sem]) rfl ⟨rfl, rfl⟩

theorem look_Number (b m : Nat) (lims : Value) (w : World) (h : ZR w b Z1 (Z9 m lims)) :
  Calls Tryz.prog 89 #[.pointer (some ⟨b, 0, none⟩)] w fun e w' => e = .returned (.bool true) /\ w = w' := by
 have c := h.cell 2
 simp at c
 clear h
 go_enter Tryz.func89, Tryz.ntmps89
 go_wp2_with fail
 go_loop [3] (fun v => v = .int .i64 0) (fun _ => 0)
 case atStart => exact rfl
 case round =>
  subst hrel
  go_wp2_with fail
  go_ret
  exact ⟨rfl, rfl⟩

theorem fill_Float (b m : Nat) (lims : Value) (w : World) (h : ZR w b Z1 (Z9 m lims)) :
  Calls Tryz.prog 58 #[.pointer (some ⟨b, 0, none⟩)] w fun e w' => e = .returned (.tuple #[]) /\ w = w' := by
 have c := h.cell 3
 simp at c
 clear h
 go_enter Tryz.func58, Tryz.ntmps58
 go_wp2_with fail
 go_loop [2] (fun v => v = .int .i64 0) (fun _ => 0)
 case atStart => exact rfl
 case round =>
  subst hrel
  go_wp2_with fail
  exact bodyPost_end (v := .tuple #[]) (by simp [results, Tryz.results58, go_sem]) rfl ⟨rfl, rfl⟩

theorem grow_Float (b m : Nat) (lims : Value) (w : World) (h : ZR w b Z1 (Z9 m lims)) :
  Calls Tryz.prog 74 #[.pointer (some ⟨b, 0, none⟩)] w fun e w' => e = .returned (.tuple #[]) /\ w = w' := by
 have c := h.cell 3
 simp at c
 clear h
 go_enter Tryz.func74, Tryz.ntmps74
 go_wp2_with fail
 go_loop [2] (fun v => v = .int .i64 0) (fun _ => 0)
 case atStart => exact rfl
 case round =>
  subst hrel
  go_wp2_with fail
  exact bodyPost_end (v := .tuple #[]) (by simp [results, Tryz.results74, go_sem]) rfl ⟨rfl, rfl⟩

theorem look_Float (b m : Nat) (lims : Value) (w : World) (h : ZR w b Z1 (Z9 m lims)) :
  Calls Tryz.prog 90 #[.pointer (some ⟨b, 0, none⟩)] w fun e w' => e = .returned (.bool true) /\ w = w' := by
 have c := h.cell 3
 simp at c
 clear h
 go_enter Tryz.func90, Tryz.ntmps90
 go_wp2_with fail
 go_loop [3] (fun v => v = .int .i64 0) (fun _ => 0)
 case atStart => exact rfl
 case round =>
  subst hrel
  go_wp2_with fail
  go_ret
  exact ⟨rfl, rfl⟩

theorem fill_Complex (b m : Nat) (lims : Value) (w : World) (h : ZR w b Z1 (Z9 m lims)) :
  Calls Tryz.prog 59 #[.pointer (some ⟨b, 0, none⟩)] w fun e w' => e = .returned (.tuple #[]) /\ w = w' := by
 have c := h.cell 4
 simp at c
 clear h
 go_enter Tryz.func59, Tryz.ntmps59
 go_wp2_with fail
 go_loop [2] (fun v => v = .int .i64 0) (fun _ => 0)
 case atStart => exact rfl
 case round =>
  subst hrel
  go_wp2_with fail
  exact bodyPost_end (v := .tuple #[]) (by simp [results, Tryz.results59, go_sem]) rfl ⟨rfl, rfl⟩

theorem grow_Complex (b m : Nat) (lims : Value) (w : World) (h : ZR w b Z1 (Z9 m lims)) :
  Calls Tryz.prog 75 #[.pointer (some ⟨b, 0, none⟩)] w fun e w' => e = .returned (.tuple #[]) /\ w = w' := by
 have c := h.cell 4
 simp at c
 clear h
 go_enter Tryz.func75, Tryz.ntmps75
 go_wp2_with fail
 go_loop [2] (fun v => v = .int .i64 0) (fun _ => 0)
 case atStart => exact rfl
 case round =>
  subst hrel
  go_wp2_with fail
  exact bodyPost_end (v := .tuple #[]) (by simp [results, Tryz.results75, go_sem]) rfl ⟨rfl, rfl⟩

theorem look_Complex (b m : Nat) (lims : Value) (w : World) (h : ZR w b Z1 (Z9 m lims)) :
  Calls Tryz.prog 91 #[.pointer (some ⟨b, 0, none⟩)] w fun e w' => e = .returned (.bool true) /\ w = w' := by
 have c := h.cell 4
 simp at c
 clear h
 go_enter Tryz.func91, Tryz.ntmps91
 go_wp2_with fail
 go_loop [3] (fun v => v = .int .i64 0) (fun _ => 0)
 case atStart => exact rfl
 case round =>
  subst hrel
  go_wp2_with fail
  go_ret
  exact ⟨rfl, rfl⟩

theorem fill_Text (b m : Nat) (lims : Value) (w : World) (h : ZR w b Z1 (Z9 m lims)) :
  Calls Tryz.prog 60 #[.pointer (some ⟨b, 0, none⟩)] w fun e w' => e = .returned (.tuple #[]) /\ w = w' := by
 have c := h.cell 5
 simp at c
 clear h
 go_enter Tryz.func60, Tryz.ntmps60
 go_wp2_with fail
 go_loop [2] (fun v => v = .int .i64 0) (fun _ => 0)
 case atStart => exact rfl
 case round =>
  subst hrel
  go_wp2_with fail
  exact bodyPost_end (v := .tuple #[]) (by simp [results, Tryz.results60, go_sem]) rfl ⟨rfl, rfl⟩

theorem grow_Text (b m : Nat) (lims : Value) (w : World) (h : ZR w b Z1 (Z9 m lims)) :
  Calls Tryz.prog 76 #[.pointer (some ⟨b, 0, none⟩)] w fun e w' => e = .returned (.tuple #[]) /\ w = w' := by
 have c := h.cell 5
 simp at c
 clear h
 go_enter Tryz.func76, Tryz.ntmps76
 go_wp2_with fail
 go_loop [2] (fun v => v = .int .i64 0) (fun _ => 0)
 case atStart => exact rfl
 case round =>
  subst hrel
  go_wp2_with fail
  exact bodyPost_end (v := .tuple #[]) (by simp [results, Tryz.results76, go_sem]) rfl ⟨rfl, rfl⟩

theorem look_Text (b m : Nat) (lims : Value) (w : World) (h : ZR w b Z1 (Z9 m lims)) :
  Calls Tryz.prog 92 #[.pointer (some ⟨b, 0, none⟩)] w fun e w' => e = .returned (.bool true) /\ w = w' := by
 have c := h.cell 5
 simp at c
 clear h
 go_enter Tryz.func92, Tryz.ntmps92
 go_wp2_with fail
 go_loop [3] (fun v => v = .int .i64 0) (fun _ => 0)
 case atStart => exact rfl
 case round =>
  subst hrel
  go_wp2_with fail
  go_ret
  exact ⟨rfl, rfl⟩

theorem fill_Frac (b m : Nat) (lims : Value) (w : World) (h : ZR w b Z1 (Z9 m lims)) :
  Calls Tryz.prog 61 #[.pointer (some ⟨b, 0, none⟩)] w fun e w' => e = .returned (.tuple #[]) /\ w = w' := by
 have c := h.cell 6
 simp at c
 clear h
 go_enter Tryz.func61, Tryz.ntmps61
 go_wp2_with fail
 go_loop [2] (fun v => v = .int .i64 0) (fun _ => 0)
 case atStart => exact rfl
 case round =>
  subst hrel
  go_wp2_with fail
  exact bodyPost_end (v := .tuple #[]) (by simp [results, Tryz.results61, go_sem]) rfl ⟨rfl, rfl⟩

theorem grow_Frac (b m : Nat) (lims : Value) (w : World) (h : ZR w b Z1 (Z9 m lims)) :
  Calls Tryz.prog 77 #[.pointer (some ⟨b, 0, none⟩)] w fun e w' => e = .returned (.tuple #[]) /\ w = w' := by
 have c := h.cell 6
 simp at c
 clear h
 go_enter Tryz.func77, Tryz.ntmps77
 go_wp2_with fail
 go_loop [2] (fun v => v = .int .i64 0) (fun _ => 0)
 case atStart => exact rfl
 case round =>
  subst hrel
  go_wp2_with fail
  exact bodyPost_end (v := .tuple #[]) (by simp [results, Tryz.results77, go_sem]) rfl ⟨rfl, rfl⟩

theorem look_Frac (b m : Nat) (lims : Value) (w : World) (h : ZR w b Z1 (Z9 m lims)) :
  Calls Tryz.prog 93 #[.pointer (some ⟨b, 0, none⟩)] w fun e w' => e = .returned (.bool true) /\ w = w' := by
 have c := h.cell 6
 simp at c
 clear h
 go_enter Tryz.func93, Tryz.ntmps93
 go_wp2_with fail
 go_loop [3] (fun v => v = .int .i64 0) (fun _ => 0)
 case atStart => exact rfl
 case round =>
  subst hrel
  go_wp2_with fail
  go_ret
  exact ⟨rfl, rfl⟩

theorem fill_Gauss (b m : Nat) (lims : Value) (w : World) (h : ZR w b Z1 (Z9 m lims)) :
  Calls Tryz.prog 62 #[.pointer (some ⟨b, 0, none⟩)] w fun e w' => e = .returned (.tuple #[]) /\ w = w' := by
 have c := h.cell 7
 simp at c
 clear h
 go_enter Tryz.func62, Tryz.ntmps62
 go_wp2_with fail
 go_loop [2] (fun v => v = .int .i64 0) (fun _ => 0)
 case atStart => exact rfl
 case round =>
  subst hrel
  go_wp2_with fail
  exact bodyPost_end (v := .tuple #[]) (by simp [results, Tryz.results62, go_sem]) rfl ⟨rfl, rfl⟩

theorem grow_Gauss (b m : Nat) (lims : Value) (w : World) (h : ZR w b Z1 (Z9 m lims)) :
  Calls Tryz.prog 78 #[.pointer (some ⟨b, 0, none⟩)] w fun e w' => e = .returned (.tuple #[]) /\ w = w' := by
 have c := h.cell 7
 simp at c
 clear h
 go_enter Tryz.func78, Tryz.ntmps78
 go_wp2_with fail
 go_loop [2] (fun v => v = .int .i64 0) (fun _ => 0)
 case atStart => exact rfl
 case round =>
  subst hrel
  go_wp2_with fail
  exact bodyPost_end (v := .tuple #[]) (by simp [results, Tryz.results78, go_sem]) rfl ⟨rfl, rfl⟩

theorem look_Gauss (b m : Nat) (lims : Value) (w : World) (h : ZR w b Z1 (Z9 m lims)) :
  Calls Tryz.prog 94 #[.pointer (some ⟨b, 0, none⟩)] w fun e w' => e = .returned (.bool true) /\ w = w' := by
 have c := h.cell 7
 simp at c
 clear h
 go_enter Tryz.func94, Tryz.ntmps94
 go_wp2_with fail
 go_loop [3] (fun v => v = .int .i64 0) (fun _ => 0)
 case atStart => exact rfl
 case round =>
  subst hrel
  go_wp2_with fail
  go_ret
  exact ⟨rfl, rfl⟩

theorem fill_Ray (b m : Nat) (lims : Value) (w : World) (h : ZR w b Z1 (Z9 m lims)) :
  Calls Tryz.prog 63 #[.pointer (some ⟨b, 0, none⟩)] w fun e w' => e = .returned (.tuple #[]) /\ w = w' := by
 have c := h.cell 8
 simp at c
 clear h
 go_enter Tryz.func63, Tryz.ntmps63
 go_wp2_with fail
 go_loop [2] (fun v => v = .int .i64 0) (fun _ => 0)
 case atStart => exact rfl
 case round =>
  subst hrel
  go_wp2_with fail
  exact bodyPost_end (v := .tuple #[]) (by simp [results, Tryz.results63, go_sem]) rfl ⟨rfl, rfl⟩

theorem grow_Ray (b m : Nat) (lims : Value) (w : World) (h : ZR w b Z1 (Z9 m lims)) :
  Calls Tryz.prog 79 #[.pointer (some ⟨b, 0, none⟩)] w fun e w' => e = .returned (.tuple #[]) /\ w = w' := by
 have c := h.cell 8
 simp at c
 clear h
 go_enter Tryz.func79, Tryz.ntmps79
 go_wp2_with fail
 go_loop [2] (fun v => v = .int .i64 0) (fun _ => 0)
 case atStart => exact rfl
 case round =>
  subst hrel
  go_wp2_with fail
  exact bodyPost_end (v := .tuple #[]) (by simp [results, Tryz.results79, go_sem]) rfl ⟨rfl, rfl⟩

theorem look_Ray (b m : Nat) (lims : Value) (w : World) (h : ZR w b Z1 (Z9 m lims)) :
  Calls Tryz.prog 95 #[.pointer (some ⟨b, 0, none⟩)] w fun e w' => e = .returned (.bool true) /\ w = w' := by
 have c := h.cell 8
 simp at c
 clear h
 go_enter Tryz.func95, Tryz.ntmps95
 go_wp2_with fail
 go_loop [3] (fun v => v = .int .i64 0) (fun _ => 0)
 case atStart => exact rfl
 case round =>
  subst hrel
  go_wp2_with fail
  go_ret
  exact ⟨rfl, rfl⟩

theorem fill_Element (b m : Nat) (lims : Value) (w : World) (h : ZR w b Z1 (Z9 m lims)) :
  Calls Tryz.prog 64 #[.pointer (some ⟨b, 0, none⟩)] w fun e w' => e = .returned (.tuple #[]) /\ w = w' := by
 have c := h.cell 9
 simp at c
 clear h
 go_enter Tryz.func64, Tryz.ntmps64
 go_wp2_with fail
 go_loop [2] (fun v => v = .int .i64 0) (fun _ => 0)
 case atStart => exact rfl
 case round =>
  subst hrel
  go_wp2_with fail
  exact bodyPost_end (v := .tuple #[]) (by simp [results, Tryz.results64, go_sem]) rfl ⟨rfl, rfl⟩

theorem grow_Element (b m : Nat) (lims : Value) (w : World) (h : ZR w b Z1 (Z9 m lims)) :
  Calls Tryz.prog 80 #[.pointer (some ⟨b, 0, none⟩)] w fun e w' => e = .returned (.tuple #[]) /\ w = w' := by
 have c := h.cell 9
 simp at c
 clear h
 go_enter Tryz.func80, Tryz.ntmps80
 go_wp2_with fail
 go_loop [2] (fun v => v = .int .i64 0) (fun _ => 0)
 case atStart => exact rfl
 case round =>
  subst hrel
  go_wp2_with fail
  exact bodyPost_end (v := .tuple #[]) (by simp [results, Tryz.results80, go_sem]) rfl ⟨rfl, rfl⟩

theorem look_Element (b m : Nat) (lims : Value) (w : World) (h : ZR w b Z1 (Z9 m lims)) :
  Calls Tryz.prog 96 #[.pointer (some ⟨b, 0, none⟩)] w fun e w' => e = .returned (.bool true) /\ w = w' := by
 have c := h.cell 9
 simp at c
 clear h
 go_enter Tryz.func96, Tryz.ntmps96
 go_wp2_with fail
 go_loop [3] (fun v => v = .int .i64 0) (fun _ => 0)
 case atStart => exact rfl
 case round =>
  subst hrel
  go_wp2_with fail
  go_ret
  exact ⟨rfl, rfl⟩

theorem fill_Coat (b m : Nat) (lims : Value) (w : World) (h : ZR w b Z1 (Z9 m lims)) :
  Calls Tryz.prog 65 #[.pointer (some ⟨b, 0, none⟩)] w fun e w' => e = .returned (.tuple #[]) /\ w = w' := by
 have c := h.cell 10
 simp at c
 clear h
 go_enter Tryz.func65, Tryz.ntmps65
 go_wp2_with fail
 go_loop [2] (fun v => v = .int .i64 0) (fun _ => 0)
 case atStart => exact rfl
 case round =>
  subst hrel
  go_wp2_with fail
  exact bodyPost_end (v := .tuple #[]) (by simp [results, Tryz.results65, go_sem]) rfl ⟨rfl, rfl⟩

theorem grow_Coat (b m : Nat) (lims : Value) (w : World) (h : ZR w b Z1 (Z9 m lims)) :
  Calls Tryz.prog 81 #[.pointer (some ⟨b, 0, none⟩)] w fun e w' => e = .returned (.tuple #[]) /\ w = w' := by
 have c := h.cell 10
 simp at c
 clear h
 go_enter Tryz.func81, Tryz.ntmps81
 go_wp2_with fail
 go_loop [2] (fun v => v = .int .i64 0) (fun _ => 0)
 case atStart => exact rfl
 case round =>
  subst hrel
  go_wp2_with fail
  exact bodyPost_end (v := .tuple #[]) (by simp [results, Tryz.results81, go_sem]) rfl ⟨rfl, rfl⟩

theorem look_Coat (b m : Nat) (lims : Value) (w : World) (h : ZR w b Z1 (Z9 m lims)) :
  Calls Tryz.prog 97 #[.pointer (some ⟨b, 0, none⟩)] w fun e w' => e = .returned (.bool true) /\ w = w' := by
 have c := h.cell 10
 simp at c
 clear h
 go_enter Tryz.func97, Tryz.ntmps97
 go_wp2_with fail
 go_loop [3] (fun v => v = .int .i64 0) (fun _ => 0)
 case atStart => exact rfl
 case round =>
  subst hrel
  go_wp2_with fail
  go_ret
  exact ⟨rfl, rfl⟩

theorem fill_Disc (b m : Nat) (lims : Value) (w : World) (h : ZR w b Z1 (Z9 m lims)) :
  Calls Tryz.prog 66 #[.pointer (some ⟨b, 0, none⟩)] w fun e w' => e = .returned (.tuple #[]) /\ w = w' := by
 have c := h.cell 11
 simp at c
 clear h
 go_enter Tryz.func66, Tryz.ntmps66
 go_wp2_with fail
 go_loop [2] (fun v => v = .int .i64 0) (fun _ => 0)
 case atStart => exact rfl
 case round =>
  subst hrel
  go_wp2_with fail
  exact bodyPost_end (v := .tuple #[]) (by simp [results, Tryz.results66, go_sem]) rfl ⟨rfl, rfl⟩

theorem grow_Disc (b m : Nat) (lims : Value) (w : World) (h : ZR w b Z1 (Z9 m lims)) :
  Calls Tryz.prog 82 #[.pointer (some ⟨b, 0, none⟩)] w fun e w' => e = .returned (.tuple #[]) /\ w = w' := by
 have c := h.cell 11
 simp at c
 clear h
 go_enter Tryz.func82, Tryz.ntmps82
 go_wp2_with fail
 go_loop [2] (fun v => v = .int .i64 0) (fun _ => 0)
 case atStart => exact rfl
 case round =>
  subst hrel
  go_wp2_with fail
  exact bodyPost_end (v := .tuple #[]) (by simp [results, Tryz.results82, go_sem]) rfl ⟨rfl, rfl⟩

theorem look_Disc (b m : Nat) (lims : Value) (w : World) (h : ZR w b Z1 (Z9 m lims)) :
  Calls Tryz.prog 98 #[.pointer (some ⟨b, 0, none⟩)] w fun e w' => e = .returned (.bool true) /\ w = w' := by
 have c := h.cell 11
 simp at c
 clear h
 go_enter Tryz.func98, Tryz.ntmps98
 go_wp2_with fail
 go_loop [3] (fun v => v = .int .i64 0) (fun _ => 0)
 case atStart => exact rfl
 case round =>
  subst hrel
  go_wp2_with fail
  go_ret
  exact ⟨rfl, rfl⟩

theorem fill_Part (b m : Nat) (lims : Value) (w : World) (h : ZR w b Z1 (Z9 m lims)) :
  Calls Tryz.prog 67 #[.pointer (some ⟨b, 0, none⟩)] w fun e w' => e = .returned (.tuple #[]) /\ w = w' := by
 have c := h.cell 12
 simp at c
 clear h
 go_enter Tryz.func67, Tryz.ntmps67
 go_wp2_with fail
 go_loop [2] (fun v => v = .int .i64 0) (fun _ => 0)
 case atStart => exact rfl
 case round =>
  subst hrel
  go_wp2_with fail
  exact bodyPost_end (v := .tuple #[]) (by simp [results, Tryz.results67, go_sem]) rfl ⟨rfl, rfl⟩

theorem grow_Part (b m : Nat) (lims : Value) (w : World) (h : ZR w b Z1 (Z9 m lims)) :
  Calls Tryz.prog 83 #[.pointer (some ⟨b, 0, none⟩)] w fun e w' => e = .returned (.tuple #[]) /\ w = w' := by
 have c := h.cell 12
 simp at c
 clear h
 go_enter Tryz.func83, Tryz.ntmps83
 go_wp2_with fail
 go_loop [2] (fun v => v = .int .i64 0) (fun _ => 0)
 case atStart => exact rfl
 case round =>
  subst hrel
  go_wp2_with fail
  exact bodyPost_end (v := .tuple #[]) (by simp [results, Tryz.results83, go_sem]) rfl ⟨rfl, rfl⟩

theorem look_Part (b m : Nat) (lims : Value) (w : World) (h : ZR w b Z1 (Z9 m lims)) :
  Calls Tryz.prog 99 #[.pointer (some ⟨b, 0, none⟩)] w fun e w' => e = .returned (.bool true) /\ w = w' := by
 have c := h.cell 12
 simp at c
 clear h
 go_enter Tryz.func99, Tryz.ntmps99
 go_wp2_with fail
 go_loop [3] (fun v => v = .int .i64 0) (fun _ => 0)
 case atStart => exact rfl
 case round =>
  subst hrel
  go_wp2_with fail
  go_ret
  exact ⟨rfl, rfl⟩

theorem fill_Def (b m : Nat) (lims : Value) (w : World) (h : ZR w b Z1 (Z9 m lims)) :
  Calls Tryz.prog 68 #[.pointer (some ⟨b, 0, none⟩)] w fun e w' => e = .returned (.tuple #[]) /\ w = w' := by
 have c := h.cell 13
 simp at c
 clear h
 go_enter Tryz.func68, Tryz.ntmps68
 go_wp2_with fail
 go_loop [2] (fun v => v = .int .i64 0) (fun _ => 0)
 case atStart => exact rfl
 case round =>
  subst hrel
  go_wp2_with fail
  exact bodyPost_end (v := .tuple #[]) (by simp [results, Tryz.results68, go_sem]) rfl ⟨rfl, rfl⟩

theorem grow_Def (b m : Nat) (lims : Value) (w : World) (h : ZR w b Z1 (Z9 m lims)) :
  Calls Tryz.prog 84 #[.pointer (some ⟨b, 0, none⟩)] w fun e w' => e = .returned (.tuple #[]) /\ w = w' := by
 have c := h.cell 13
 simp at c
 clear h
 go_enter Tryz.func84, Tryz.ntmps84
 go_wp2_with fail
 go_loop [2] (fun v => v = .int .i64 0) (fun _ => 0)
 case atStart => exact rfl
 case round =>
  subst hrel
  go_wp2_with fail
  exact bodyPost_end (v := .tuple #[]) (by simp [results, Tryz.results84, go_sem]) rfl ⟨rfl, rfl⟩

theorem look_Def (b m : Nat) (lims : Value) (w : World) (h : ZR w b Z1 (Z9 m lims)) :
  Calls Tryz.prog 100 #[.pointer (some ⟨b, 0, none⟩)] w fun e w' => e = .returned (.bool true) /\ w = w' := by
 have c := h.cell 13
 simp at c
 clear h
 go_enter Tryz.func100, Tryz.ntmps100
 go_wp2_with fail
 go_loop [3] (fun v => v = .int .i64 0) (fun _ => 0)
 case atStart => exact rfl
 case round =>
  subst hrel
  go_wp2_with fail
  go_ret
  exact ⟨rfl, rfl⟩

theorem fill_Item (b m : Nat) (lims : Value) (w : World) (h : ZR w b Z1 (Z9 m lims)) :
  Calls Tryz.prog 69 #[.pointer (some ⟨b, 0, none⟩)] w fun e w' => e = .returned (.tuple #[]) /\ w = w' := by
 have c := h.cell 14
 simp at c
 clear h
 go_enter Tryz.func69, Tryz.ntmps69
 go_wp2_with fail
 go_loop [2] (fun v => v = .int .i64 0) (fun _ => 0)
 case atStart => exact rfl
 case round =>
  subst hrel
  go_wp2_with fail
  exact bodyPost_end (v := .tuple #[]) (by simp [results, Tryz.results69, go_sem]) rfl ⟨rfl, rfl⟩

theorem grow_Item (b m : Nat) (lims : Value) (w : World) (h : ZR w b Z1 (Z9 m lims)) :
  Calls Tryz.prog 85 #[.pointer (some ⟨b, 0, none⟩)] w fun e w' => e = .returned (.tuple #[]) /\ w = w' := by
 have c := h.cell 14
 simp at c
 clear h
 go_enter Tryz.func85, Tryz.ntmps85
 go_wp2_with fail
 go_loop [2] (fun v => v = .int .i64 0) (fun _ => 0)
 case atStart => exact rfl
 case round =>
  subst hrel
  go_wp2_with fail
  exact bodyPost_end (v := .tuple #[]) (by simp [results, Tryz.results85, go_sem]) rfl ⟨rfl, rfl⟩

theorem look_Item (b m : Nat) (lims : Value) (w : World) (h : ZR w b Z1 (Z9 m lims)) :
  Calls Tryz.prog 101 #[.pointer (some ⟨b, 0, none⟩)] w fun e w' => e = .returned (.bool true) /\ w = w' := by
 have c := h.cell 14
 simp at c
 clear h
 go_enter Tryz.func101, Tryz.ntmps101
 go_wp2_with fail
 go_loop [3] (fun v => v = .int .i64 0) (fun _ => 0)
 case atStart => exact rfl
 case round =>
  subst hrel
  go_wp2_with fail
  go_ret
  exact ⟨rfl, rfl⟩

theorem fill_Act (b m : Nat) (lims : Value) (w : World) (h : ZR w b Z1 (Z9 m lims)) :
  Calls Tryz.prog 70 #[.pointer (some ⟨b, 0, none⟩)] w fun e w' => e = .returned (.tuple #[]) /\ w = w' := by
 have c := h.cell 15
 simp at c
 clear h
 go_enter Tryz.func70, Tryz.ntmps70
 go_wp2_with fail
 go_loop [2] (fun v => v = .int .i64 0) (fun _ => 0)
 case atStart => exact rfl
 case round =>
  subst hrel
  go_wp2_with fail
  exact bodyPost_end (v := .tuple #[]) (by simp [results, Tryz.results70, go_sem]) rfl ⟨rfl, rfl⟩

theorem grow_Act (b m : Nat) (lims : Value) (w : World) (h : ZR w b Z1 (Z9 m lims)) :
  Calls Tryz.prog 86 #[.pointer (some ⟨b, 0, none⟩)] w fun e w' => e = .returned (.tuple #[]) /\ w = w' := by
 have c := h.cell 15
 simp at c
 clear h
 go_enter Tryz.func86, Tryz.ntmps86
 go_wp2_with fail
 go_loop [2] (fun v => v = .int .i64 0) (fun _ => 0)
 case atStart => exact rfl
 case round =>
  subst hrel
  go_wp2_with fail
  exact bodyPost_end (v := .tuple #[]) (by simp [results, Tryz.results86, go_sem]) rfl ⟨rfl, rfl⟩

theorem look_Act (b m : Nat) (lims : Value) (w : World) (h : ZR w b Z1 (Z9 m lims)) :
  Calls Tryz.prog 102 #[.pointer (some ⟨b, 0, none⟩)] w fun e w' => e = .returned (.bool true) /\ w = w' := by
 have c := h.cell 15
 simp at c
 clear h
 go_enter Tryz.func102, Tryz.ntmps102
 go_wp2_with fail
 go_loop [3] (fun v => v = .int .i64 0) (fun _ => 0)
 case atStart => exact rfl
 case round =>
  subst hrel
  go_wp2_with fail
  go_ret
  exact ⟨rfl, rfl⟩

theorem fill_Reply (b m : Nat) (lims : Value) (w : World) (h : ZR w b Z1 (Z9 m lims)) :
  Calls Tryz.prog 71 #[.pointer (some ⟨b, 0, none⟩)] w fun e w' => e = .returned (.tuple #[]) /\ w = w' := by
 have c := h.cell 16
 simp at c
 clear h
 go_enter Tryz.func71, Tryz.ntmps71
 go_wp2_with fail
 go_loop [2] (fun v => v = .int .i64 0) (fun _ => 0)
 case atStart => exact rfl
 case round =>
  subst hrel
  go_wp2_with fail
  exact bodyPost_end (v := .tuple #[]) (by simp [results, Tryz.results71, go_sem]) rfl ⟨rfl, rfl⟩

theorem grow_Reply (b m : Nat) (lims : Value) (w : World) (h : ZR w b Z1 (Z9 m lims)) :
  Calls Tryz.prog 87 #[.pointer (some ⟨b, 0, none⟩)] w fun e w' => e = .returned (.tuple #[]) /\ w = w' := by
 have c := h.cell 16
 simp at c
 clear h
 go_enter Tryz.func87, Tryz.ntmps87
 go_wp2_with fail
 go_loop [2] (fun v => v = .int .i64 0) (fun _ => 0)
 case atStart => exact rfl
 case round =>
  subst hrel
  go_wp2_with fail
  exact bodyPost_end (v := .tuple #[]) (by simp [results, Tryz.results87, go_sem]) rfl ⟨rfl, rfl⟩

theorem look_Reply (b m : Nat) (lims : Value) (w : World) (h : ZR w b Z1 (Z9 m lims)) :
  Calls Tryz.prog 103 #[.pointer (some ⟨b, 0, none⟩)] w fun e w' => e = .returned (.bool true) /\ w = w' := by
 have c := h.cell 16
 simp at c
 clear h
 go_enter Tryz.func103, Tryz.ntmps103
 go_wp2_with fail
 go_loop [3] (fun v => v = .int .i64 0) (fun _ => 0)
 case atStart => exact rfl
 case round =>
  subst hrel
  go_wp2_with fail
  go_ret
  exact ⟨rfl, rfl⟩

theorem mark_limb (j : Nat) (hj : j <= 100000) (w : World) :
  Calls Tryz.prog 159 #[.int .i64 ((j : Int) + 1)] w fun e w' => e = .returned (YI j) /\ w = w' := by
 go_enter Tryz.func159, Tryz.ntmps159
 go_wp2
 go_ret
 refine ⟨congrArg (fun z : Int => Ending.returned (Value.int .u32 z)) ?_, rfl⟩
 omega

theorem own_blk {w : World} {base : Nat} {e : TypeId} {A : Option Addr} {n c : Nat} {xs : List Value} (h : w.ownsRow base e 1 (.slice A n c) n xs) (hn : 0 < n) : ∃ g cur, A = some ⟨g, 0, none⟩ /\ ZR w g e cur /\ n <= cur.size /\ cur.toList.take n = xs := by
 rcases h.2 with ⟨h1, h2⟩ | ⟨g, cap, cur, h1, h2, h3, h4, h5, h6, h7⟩
 . omega
 . injection h1 with a1 a2 a3
   exact ⟨g, cur, a1, h3, by omega, by rw [Nat.mul_one] at h7; exact h7⟩
theorem replicate_set {n k : Nat} {v : Value} {Y : List Value} (hl : Y.length = n) (hk : k < n) (h : Y.take k = List.replicate k v) : (Y.set k v).take (k + 1) = List.replicate (k + 1) v := by
 rw [List.take_succ_eq_append_getElem (by simp; omega), List.take_set_of_le (Nat.le_refl _), h]
 simp [List.replicate_succ']

theorem fill_limb (b g0 cap m B0 : Nat) (l : Nat -> Value) (n : Nat -> Nat) (X : Nat -> List Value) (w0 w : World) (p : Plain b g0 m B0 l n) (h : Xg w0 w b g0 cap m B0 l (fun _ => ZJ) n X) :
  Calls Tryz.prog 56 #[.pointer (some ⟨b, 0, none⟩)] w fun e w' => e = .returned (.tuple #[]) /\ Xg w0 w' b g0 cap m B0 l (fun _ => ZJ) n (fun j => List.replicate (n j) (YI j)) := by
 have hm := p.hm
 have HP := Hd p
 have H0 := Hd (⟨X, h, fun j hj _ => absurd hj (Nat.not_lt_zero j)⟩ : ∃ Y, Xg w0 w b g0 cap m B0 l (fun _ => ZJ) n Y /\ ∀ j, j < 0 -> j < m -> Y j = List.replicate (n j) (YI j))
 clear p h
 go_enter Tryz.func56, Tryz.ntmps56
 go_wp2_with fail
 go_loopw [2] (fun s wr => ∃ i : Nat, s = .int .i64 i /\ i <= m /\ Hid (∃ Y, Xg w0 wr b g0 cap m B0 l (fun _ => ZJ) n Y /\ ∀ j, j < i -> j < m -> Y j = List.replicate (n j) (YI j))) (fun s _ => m - (intOf s).toNat)
 case atStart => exact ⟨0, rfl, Nat.zero_le _, H0⟩
 case round =>
  obtain ⟨i, rfl, hi, HR⟩ := hrel
  clear H0
  obtain ⟨Y, hsh, hY⟩ := HR.out
  have hbk := hsh.book
  have c1 := hbk.cell 1
  simp at c1
  have HS := Hd hsh
  have HY := Hd hY
  clear HR hsh hY hbk
  by_cases hlt : i < m
  . have a0 : (0 : Int) <= (i : Int) := by omega
    have a1 : (i : Int) < (m : Int) := by omega
    obtain ⟨d0, d1, d2, -⟩ := HS.out.arr.at_ hlt
    obtain ⟨Ai, ci, hl⟩ := XR (by omega) (HS.out.rows i hlt)
    have HL := Hd hl
    rw [hl] at d0
    clear hl
    go_wp2_with fail
    have hcopy := ZR.new wr Xb #[.slice Ai (n i) ci, ZJ, .int .i64 ((i : Int) + 1)]
    have hNh := HS.out.arr.lt
    have hsh1 := HS.out.alloc HP.out (.cells #[.slice Ai (n i) ci, ZJ, .int .i64 ((i : Int) + 1)] Xb)
    obtain ⟨W, E⟩ : ∃ W, W = wr.alloc (.cells #[.slice Ai (n i) ci, ZJ, .int .i64 ((i : Int) + 1)] Xb) := ⟨_, rfl⟩
    rw [<- E] at hcopy hsh1 ⊢
    clear E c1 d0 d1 d2
    have hni := HP.out.hn i hlt
    have H1 := Hd (⟨Y, hsh1, HY.out, rfl, hcopy⟩ : ∃ Z, Xg w0 W b g0 cap m B0 l (fun _ => ZJ) n Z /\ (∀ j, j < i -> j < m -> Z j = List.replicate (n j) (YI j)) /\ (Z i).take 0 = List.replicate 0 (YI i) /\ ZR W wr.heap.size Xb #[.slice Ai (n i) ci, ZJ, .int .i64 ((i : Int) + 1)])
    obtain ⟨ni, hnn⟩ : ∃ ni, ni = n i := ⟨_, rfl⟩
    obtain ⟨Nh, hNN⟩ : ∃ Nh, Nh = wr.heap.size := ⟨_, rfl⟩
    rw [<- hnn] at HL H1 hni ⊢
    rw [<- hNN] at H1 hNh ⊢
    have HNN := Hd hnn
    clear hcopy hsh1 hnn hNN HS HY
    go_loopw [4] (fun s wq => ∃ k : Nat, s = .int .i64 k /\ k <= ni /\ Hid (∃ Z, Xg w0 wq b g0 cap m B0 l (fun _ => ZJ) n Z /\ (∀ j, j < i -> j < m -> Z j = List.replicate (n j) (YI j)) /\ (Z i).take k = List.replicate k (YI i) /\ ZR wq Nh Xb #[.slice Ai ni ci, ZJ, .int .i64 ((i : Int) + 1)])) (fun s _ => ni - (intOf s).toNat)
    case atStart => exact ⟨0, rfl, Nat.zero_le _, H1⟩
    case round =>
     obtain ⟨k, rfl, hk, HR⟩ := hrel
     clear H1
     obtain ⟨Z, hz1, hz2, hz3, hz4⟩ := HR.out
     have e0 := hz4.cell 0
     have e2 := hz4.cell 2
     have hlt4 := hz4.lt
     simp at e0 e2
     have HZ1 := Hd hz1
     have HZ2 := Hd hz2
     have HZ3 := Hd hz3
     have HZ4 := Hd hz4
     clear HR hz1 hz2 hz3 hz4
     by_cases hlk : k < ni
     . have q0 : (0 : Int) <= (k : Int) := by omega
       have q1 : (k : Int) < (ni : Int) := by omega
       obtain ⟨g, cur, rfl, hblk, hcs, -⟩ := own_blk (by have := HZ1.out.rows i hlt; rw [HL.out, <- HNN.out] at this; exact this) (by omega)
       have S : ∀ V, Below wr.heap.size wr V -> ∃ Z, Xg w0 (V.setCell ⟨g, k, none⟩ (YI i)) b g0 cap m B0 l (fun _ => ZJ) n Z /\ (∀ j, j < i -> j < m -> Z j = List.replicate (n j) (YI j)) /\ (Z i).take (k + 1) = List.replicate (k + 1) (YI i) /\ ZR (V.setCell ⟨g, k, none⟩ (YI i)) Nh Xb #[.slice (some ⟨g, 0, none⟩) ni ci, ZJ, .int .i64 ((i : Int) + 1)] := fun V hV => by
         have hl2 : l i = .slice (some ⟨g, 0, none⟩) (n i) ci := by rw [HL.out, HNN.out]
         have hne : Nh ≠ g := fun e => YO (HZ1.out.rows i hlt) HZ4.out (by decide) (by rw [hl2, e]; rfl)
         refine ⟨_, (HZ1.out.below HP.out hV).write HP.out hlt hl2 (by rw [<- HNN.out]; exact hlk) (YI i), fun j hj hjm => ?_, ?_, (HZ4.out.below hV HZ4.out.lt).far (p := ⟨g, k, none⟩) hne _⟩
         . rw [updL_ne _ _ (by omega)]; exact HZ2.out j hj hjm
         . rw [updL_same]
           exact replicate_set (n := ni) (by rw [(HZ1.out.rows i hlt).1, HNN.out]; omega) hlk HZ3.out
       have HS := Hd S
       have HK := Hd hblk
       clear S hblk
       go_wp2_with fail
       clear e0 e2
       refine Z2 [.val (.pointer (some ⟨Nh, 0, none⟩)), .val (.slice (some ⟨g, 0, none⟩) ni ci), .val (.int .i64 k), .val (.pointer (some ⟨Nh, 2, none⟩)), .val (.int .i64 ((i : Int) + 1)), .val (YI i), .val (.pointer (some ⟨g, k, none⟩)), .step] 0 1 wr
         (fun _ _ => True) (fun _ V => ∃ V0, Below wr.heap.size wr V0 /\ V = V0.setCell ⟨g, k, none⟩ (YI i))
         _ Zd ?_ ?_ ?_ ?_ ?_ ?_ ?_ ?_ ?_ rfl (fun _ _ _ _ _ => trivial) (Below.refl _ _) trivial ?_ ?_ ?_
       iterate 9 kernel_rfl
       . simp [YW, Zy, Zs, Zg, ZV]
         repeat' apply And.intro
         all_goals
           intro V hV
           have hx := HZ4.out.below hV HZ4.out.lt
           have e0 := hx.cell 0
           have e2 := hx.cell 2
           simp at e0 e2
           clear hV hx
           go_simp
           first | exact Below.refl _ _ | ((with_reducible refine (mark_limb i (by omega) _).mono ?_); rintro e w' ⟨rfl, rfl⟩; exact ⟨rfl, Below.refl _ _⟩)
       . simp [Yz, Zy, Zs, Zg, ZV, ZW]
         intro V hV
         have hx := HK.out.below hV HK.out.lt
         have c1 := hx.cell k
         rw [Array.getElem?_eq_getElem (by omega)] at c1
         generalize cur[k] = old at c1
         have f1 := hx.frozen k
         unfold YI
         go_simp
         exact ⟨V, hV, rfl⟩
       . intro us V hus hF
         simp only [show ¬ (1 <= 0) by decide, if_false] at hF
         obtain ⟨V0, hV0, rfl⟩ := hF
         obtain ⟨u0, rfl⟩ : ∃ u0, us = [u0] := by
           match us, hus with
           | [u0], _ => exact ⟨u0, rfl⟩
         simp [Zy, Zs, Zg, ZV, ZW]
         have S := Hd (HS.out V0 hV0)
         clear hV0 HS HK
         go_wp2_with fail
         go_roundw
         case rel => exact ⟨k + 1, by go_num, hlk, S⟩
         case measure => simp [intOf]; omega
     . obtain rfl : k = ni := by omega
       have S := Hd (⟨Z, HZ1.out, fun j hj hjm => by
         rcases (by omega : j < i ∨ j = i) with hj | rfl
         . exact HZ2.out j hj hjm
         . have e := HZ3.out
           rw [List.take_of_length_le (by rw [(HZ1.out.rows j hlt).1, <- HNN.out]; omega)] at e
           rw [e, HNN.out]⟩ : ∃ Y, Xg w0 wr b g0 cap m B0 l (fun _ => ZJ) n Y /\ ∀ j, j < i + 1 -> j < m -> Y j = List.replicate (n j) (YI j))
       clear HZ1 HZ2 HZ3 HZ4
       go_wp2_with fail
       go_roundw
       case rel => exact ⟨i + 1, by go_num, hlt, S⟩
       case measure => simp [intOf]; omega
  . obtain rfl : i = m := by omega
    have HF := Hd (show Xg w0 wr b g0 cap i B0 l (fun _ => ZJ) n (fun j => List.replicate (n j) (YI j)) from
     ⟨HS.out.book, HS.out.arr, fun j hj => by have := HS.out.rows j hj; rwa [HY.out j hj hj] at this, HS.out.low⟩)
    clear HP HS HY
    go_wp2_with fail
    exact bodyPost_end (v := .tuple #[]) (by simp [results, Tryz.results56, go_sem]) rfl ⟨rfl, HF.out⟩
end Go.Proofs.YthlehkjcfhnplaaGreatDoor
