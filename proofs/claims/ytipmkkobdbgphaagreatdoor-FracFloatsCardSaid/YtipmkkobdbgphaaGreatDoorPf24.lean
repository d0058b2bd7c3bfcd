/- Several texts in one: BookFrac, RefInt64, FOf, FRefCheck. -/
import Derived.Test.YtipmkkobdbgphaaGreatDoorPf23
import Derived.Test.YtipmkkobdbgphaaGreatDoorPfHd
import Derived.Test.YtipmkkobdbgphaaGreatDoorPf16
import Derived.Test.YtipmkkobdbgphaaGreatDoorPf20
import Derived.Deep.RegionWith
import Derived.Test.YtipmkkobdbgphaaGreatDoorPf21
import Derived.Test.YtipmkkobdbgphaaGreatDoorPf17
import Derived.Test.YtipmkkobdbgphaaGreatDoorPf14
set_option maxRecDepth 100000
set_option maxHeartbeats 8000000
/- Frac of a Book: the two numbers' limbs are put into it. -/
namespace Go.Proofs.YtipmkkobdbgphaaGreatDoor
open Go.RowKit

theorem book_Frac (b m : Nat) (l : Nat → Value) (lims : Value) (n1 n2 : Bool) (A B : Option Addr) (an ac bn bc : Nat) (hm : m + 1 ≤ 1000) (w : World) (h : XZ w b m l lims) :
   Calls Tryz.prog 17 #[.pointer (some ⟨b, 0, none⟩), .agg #[.bool n1, .slice A an ac, .bool n2, .slice B bn bc]] w fun e w' => e = .returned (.tuple #[]) ∧ ∃ lims', XZ w' b (m + 2) (XH (XH l m (.slice A an ac)) (m + 1) (.slice B bn bc)) lims' ∧ Below b w w' := by
 have hlt := h.book.lt
 have px := Zv.new w (.bool n1) (.slice A an ac) (.bool n2) (.slice B bn bc)
 have hb := Hd (((Below.refl w.heap.size w).alloc (Nat.le_refl _) (.cells #[.bool n1, .slice A an ac, .bool n2, .slice B bn bc] 27)).mono (Nat.le_of_lt hlt))
 have C1 := Hd (book_Int_far w.heap.size 27 _ (by decide) b m (by omega) l lims n1 A an ac (by omega) _ (h.below ((Below.refl _ _).alloc (Nat.le_refl _) (.cells #[.bool n1, .slice A an ac, .bool n2, .slice B bn bc] 27))) px.blk)
 have PX := Hd px
 clear h px
 obtain ⟨-, x0, x1, x2, x3, -, -, -, -⟩ := PX.out.facts
 go_enter Tryz.func17, Tryz.ntmps17
 go_wp2_with fail
 refine C1.out.mono ?_
 rintro e w1 ⟨rfl, lims1, hk, hb1, hx⟩
 have C2 := Hd (book_Int b (m + 1) (XH l m (.slice A an ac)) lims1 n2 B bn bc hm w1 hk)
 obtain ⟨-, y0, y1, y2, y3, -, -, -, -⟩ := (Zv.mk hx).facts
 have HB := Hd (hb.out.trans hb1)
 clear C1 hb hk hb1 hx x0 x1 x2 x3
 go_wp2_with fail
 refine C2.out.mono ?_
 rintro e w2 ⟨rfl, lims2, hk2, hb2⟩
 have HF := Hd (⟨lims2, hk2, HB.out.trans hb2⟩ : ∃ lims', XZ w2 b (m + 2) (XH (XH l m (.slice A an ac)) (m + 1) (.slice B bn bc)) lims' ∧ Below b w w2)
 clear C2 HB hk2 hb2 y0 y1 y2 y3
 go_wp2_with fail
 exact bodyPost_end (v := .tuple #[]) (by simp [results, Tryz.results17, go_sem]) rfl ⟨rfl, HF.out⟩
/- Int64 of the references. -/

theorem ok64' (n : Int) (h1 : -9223372036854775808 ≤ n) (h2 : n ≤ 9223372036854775807) : okI (decide (n < 0)) (Za n.natAbs) = true := by
 refine okI_true.2 ⟨?_, Zu _, fun h => ?_⟩
 · have := (ZD (n := n.natAbs) (k := 2)).2 (by omega); omega
 · have := ZX.1 h
   simp; omega
/- Of of package frac. -/

def zN (n d : Int) : Int := if d = 0 then 0 else YG n d
def zD (n d : Int) : Int := if d = 0 then 0 else YC n d
def zE (d : Int) : Int := if d = 0 then 3 else 0
/- Check of the references of chapter 02. (Written by wip/frac/genfrefcheck.py.) -/

theorem rbelow (x y : Int) (b : Bool) (A B : Option Addr) (c d : Nat) (w : World) (h : Zh w A c (Za x.natAbs)) (g : Zh w B d (Za y.natAbs)) (hx : lz x ≤ 500000000) (hy : lz y ≤ 500000000) (hb : b = decide (YT x y < 0)) :
   Calls Tryz.prog 211 #[.agg #[.bool (decide (x < 0)), .slice A (Za x.natAbs).length c], .agg #[.bool (decide (y < 0)), .slice B (Za y.natAbs).length d]] w fun e w' => e = .returned (.bool b) ∧ Below w.heap.size w w' := by
 obtain ⟨k, hk⟩ : ∃ k : Int, k = YT x y := ⟨_, rfl⟩
 rw [← hk] at hb
 have b0 := ((Below.refl w.heap.size w).alloc (Nat.le_refl _) (.cells #[.bool (decide (x < 0)), .slice A (Za x.natAbs).length c] 25)).alloc (by simp) (.cells #[.bool (decide (y < 0)), .slice B (Za y.natAbs).length d] 25)
 have H := Hd (rcmp x y k A B c d _ (h.below b0) (g.below b0) hx hy hk)
 have B0 := Hd b0
 have HB := Hd hb
 clear h g hx hy hk b0 hb
 go_enter Tryz.func211, Tryz.ntmps211
 go_wp2_with fail
 refine H.out.mono ?_
 rintro e w1 ⟨rfl, hb⟩
 go_wp2_with fail
 go_ret
 exact ⟨by rw [HB.out]; rfl, Zb B0.out hb⟩

theorem ref02_Check_bad_one (n1 n2 : Bool) (A B : Option Addr) (c e0 : Nat) (xs ys : List Nat) (o : okI n1 xs = false) (w : World) (h : Zh w A c xs) (g : Zh w B e0 ys) :
   Calls Tryz.prog 139 #[.agg #[.bool n1, .slice A xs.length c, .bool n2, .slice B ys.length e0]] w fun e w' => e = .returned (.int .i64 1) ∧ Below w.heap.size w w' := by
 have C1 := fun (V : World) (h : Zh V A c xs) => Yo n1 A c _ V h
 unfold Xt at C1
 rw [if_neg (by rw [o]; decide)] at C1
 have H1 := Hd C1
 clear C1 o
 have px := Zv.new w (.bool n1) (.slice A xs.length c) (.bool n2) (.slice B ys.length e0)
 have b0 := (Below.refl w.heap.size w).alloc (Nat.le_refl _) (.cells #[.bool n1, .slice A xs.length c, .bool n2, .slice B ys.length e0] 27)
 have h1 := h.below b0
 have g1 := g.below b0
 have PX := Hd px
 have B0 := Hd b0
 have RX := Hd h1
 have RY := Hd g1
 clear px b0 h g h1 g1
 go_enter Tryz.func139, Tryz.ntmps139
 go_wp2_with fail
 obtain ⟨W, E⟩ : ∃ W, W = w.alloc (.cells #[.bool n1, .slice A xs.length c, .bool n2, .slice B ys.length e0] 27) := ⟨_, rfl⟩
 rw [← E] at PX B0 RX RY ⊢
 clear E
 have T0 := Below.refl W.heap.size W
 obtain ⟨l0, x0, x1, x2, x3, -, -, -, -⟩ := (PX.out.below T0).facts
 go_wp2_with fail
 refine (H1.out _ (RX.out.below T0)).mono ?_
 rintro e w1 ⟨rfl, h⟩
 have T1 := Zb T0 h
 clear h x0 x1 x2 x3 l0
 have BB := Zb B0.out T1
 go_wp2_with fail
 go_ret
 exact ⟨rfl, BB⟩

theorem ref02_Check_bad_two (n1 n2 : Bool) (A B : Option Addr) (c e0 : Nat) (xs ys : List Nat) (o1 : okI n1 xs = true) (o : okI n2 ys = false) (w : World) (h : Zh w A c xs) (g : Zh w B e0 ys) :
   Calls Tryz.prog 139 #[.agg #[.bool n1, .slice A xs.length c, .bool n2, .slice B ys.length e0]] w fun e w' => e = .returned (.int .i64 1) ∧ Below w.heap.size w w' := by
 have C1 := fun (V : World) (h : Zh V A c xs) => Yo n1 A c _ V h
 unfold Xt at C1
 rw [if_pos o1] at C1
 have H1 := Hd C1
 have C2 := fun (V : World) (h : Zh V B e0 ys) => Yo n2 B e0 _ V h
 unfold Xt at C2
 rw [if_neg (by rw [o]; decide)] at C2
 have H2 := Hd C2
 clear C2 o1
 clear C1 o
 have px := Zv.new w (.bool n1) (.slice A xs.length c) (.bool n2) (.slice B ys.length e0)
 have b0 := (Below.refl w.heap.size w).alloc (Nat.le_refl _) (.cells #[.bool n1, .slice A xs.length c, .bool n2, .slice B ys.length e0] 27)
 have h1 := h.below b0
 have g1 := g.below b0
 have PX := Hd px
 have B0 := Hd b0
 have RX := Hd h1
 have RY := Hd g1
 clear px b0 h g h1 g1
 go_enter Tryz.func139, Tryz.ntmps139
 go_wp2_with fail
 obtain ⟨W, E⟩ : ∃ W, W = w.alloc (.cells #[.bool n1, .slice A xs.length c, .bool n2, .slice B ys.length e0] 27) := ⟨_, rfl⟩
 rw [← E] at PX B0 RX RY ⊢
 clear E
 have T0 := Below.refl W.heap.size W
 obtain ⟨l0, x0, x1, x2, x3, -, -, -, -⟩ := (PX.out.below T0).facts
 go_wp2_with fail
 refine (H1.out _ (RX.out.below T0)).mono ?_
 rintro e w1 ⟨rfl, h⟩
 have T1 := Zb T0 h
 clear h x0 x1 x2 x3 l0
 obtain ⟨l1, x0, x1, x2, x3, -, -, -, -⟩ := (PX.out.below T1).facts
 go_wp2_with fail
 refine (H2.out _ (RY.out.below T1)).mono ?_
 rintro e w2 ⟨rfl, h⟩
 have T2 := Zb T1 h
 clear h x0 x1 x2 x3 l1
 have BB := Zb B0.out T2
 go_wp2_with fail
 go_ret
 exact ⟨rfl, BB⟩

theorem ref02_Check_low (n d : Int) (A B : Option Addr) (c e0 : Nat) (w : World) (h : Zh w A c (Za n.natAbs)) (g : Zh w B e0 (Za d.natAbs)) (hn : Jh n) (hd : Jh d) (hd0 : d ≤ 0) :
   Calls Tryz.prog 139 #[.agg #[.bool (decide (n < 0)), .slice A (Za n.natAbs).length c, .bool (decide (d < 0)), .slice B (Za d.natAbs).length e0]] w fun e w' => e = .returned (.int .i64 1) ∧ Below w.heap.size w w' := by
 have C1 := fun (V : World) (h : Zh V A c (Za n.natAbs)) => Yo (decide (n < 0)) A c _ V h
 have C2 := fun (V : World) (h : Zh V B e0 (Za d.natAbs)) => Yo (decide (d < 0)) B e0 _ V h
 unfold Xt at C1 C2
 rw [if_pos hn.ok] at C1
 rw [if_pos hd.ok] at C2
 have hln : lz n ≤ 2048 := hn
 have hld : lz d ≤ 2048 := hd
 obtain ⟨s, hs⟩ : ∃ k : Int, k = d.sign := ⟨_, rfl⟩
 have C3 := fun (V : World) (h : Zh V B e0 (Za d.natAbs)) => JL d s B e0 V h hs
 have hs1 : s ≤ 0 := by rw [hs]; exact Int.sign_nonpos_iff.2 hd0
 have H1 := Hd C1
 have H2 := Hd C2
 have H3 := Hd C3
 clear C1 C2 C3 hn hd hd0 hs hln hld
 have px := Zv.new w (.bool (decide (n < 0))) (.slice A (Za n.natAbs).length c) (.bool (decide (d < 0))) (.slice B (Za d.natAbs).length e0)
 have b0 := (Below.refl w.heap.size w).alloc (Nat.le_refl _) (.cells #[.bool (decide (n < 0)), .slice A (Za n.natAbs).length c, .bool (decide (d < 0)), .slice B (Za d.natAbs).length e0] 27)
 have h1 := h.below b0
 have g1 := g.below b0
 have PX := Hd px
 have B0 := Hd b0
 have RX := Hd h1
 have RY := Hd g1
 clear px b0 h g h1 g1
 go_enter Tryz.func139, Tryz.ntmps139
 go_wp2_with fail
 obtain ⟨W, E⟩ : ∃ W, W = w.alloc (.cells #[.bool (decide (n < 0)), .slice A (Za n.natAbs).length c, .bool (decide (d < 0)), .slice B (Za d.natAbs).length e0] 27) := ⟨_, rfl⟩
 rw [← E] at PX B0 RX RY ⊢
 clear E
 have T0 := Below.refl W.heap.size W
 obtain ⟨l0, x0, x1, x2, x3, -, -, -, -⟩ := (PX.out.below T0).facts
 go_wp2_with fail
 refine (H1.out _ (RX.out.below T0)).mono ?_
 rintro e w1 ⟨rfl, h⟩
 have T1 := Zb T0 h
 clear h x0 x1 x2 x3 l0
 obtain ⟨l1, x0, x1, x2, x3, -, -, -, -⟩ := (PX.out.below T1).facts
 go_wp2_with fail
 refine (H2.out _ (RY.out.below T1)).mono ?_
 rintro e w2 ⟨rfl, h⟩
 have T2 := Zb T1 h
 clear h x0 x1 x2 x3 l1
 obtain ⟨l2, x0, x1, x2, x3, -, -, -, -⟩ := (PX.out.below T2).facts
 go_wp2_with fail
 refine (H3.out _ (RY.out.below T2)).mono ?_
 rintro e w3 ⟨rfl, h⟩
 have T3 := Zb T2 h
 clear h x0 x1 x2 x3 l2
 have BB := Zb B0.out T3
 go_wp2_with fail
 go_ret
 exact ⟨rfl, BB⟩

theorem ref02_Check_fine (n d : Int) (A B : Option Addr) (c e0 : Nat) (w : World) (h : Zh w A c (Za n.natAbs)) (g : Zh w B e0 (Za d.natAbs)) (hn : Jh n) (hd : Jh d) (hd0 : 0 < d) (hg : ZU n d = 1) :
   Calls Tryz.prog 139 #[.agg #[.bool (decide (n < 0)), .slice A (Za n.natAbs).length c, .bool (decide (d < 0)), .slice B (Za d.natAbs).length e0]] w fun e w' => e = .returned (.int .i64 0) ∧ Below w.heap.size w w' := by
 have C1 := fun (V : World) (h : Zh V A c (Za n.natAbs)) => Yo (decide (n < 0)) A c _ V h
 have C2 := fun (V : World) (h : Zh V B e0 (Za d.natAbs)) => Yo (decide (d < 0)) B e0 _ V h
 unfold Xt at C1 C2
 rw [if_pos hn.ok] at C1
 rw [if_pos hd.ok] at C2
 have hln : lz n ≤ 2048 := hn
 have hld : lz d ≤ 2048 := hd
 obtain ⟨s, hs⟩ : ∃ k : Int, k = d.sign := ⟨_, rfl⟩
 have C3 := fun (V : World) (h : Zh V B e0 (Za d.natAbs)) => JL d s B e0 V h hs
 have hs1 : 0 < s := by rw [hs]; exact Int.sign_pos_iff.2 hd0
 have H1 := Hd C1
 have H2 := Hd C2
 have H3 := Hd C3
 obtain ⟨m, hm⟩ : ∃ k : Int, k = ZU n d := ⟨_, rfl⟩
 have hml : lz m ≤ 2048 := by rw [hm]; exact Nat.le_trans (XS (by omega)) hld
 have hm0 : m = 1 := by rw [hm]; exact hg
 obtain ⟨r, hr⟩ : ∃ k : Bool, k = decide (YT 1 m < 0) := ⟨_, rfl⟩
 have C4 := fun (V : World) (h : Zh V A c (Za n.natAbs)) (g : Zh V B e0 (Za d.natAbs)) => common02 n d A B c e0 V h g (by omega) (by omega)
 rw [← hm] at C4
 have C5 := fun (V : World) => ref_Of 1 (by decide) (by decide) V
 have C6 := fun (V : World) (A' B' : Option Addr) (c' e' : Nat) (h : Zh V A' c' (Za m.natAbs)) (g : Zh V B' e' (Za (1 : Int).natAbs)) => rbelow 1 m r B' A' e' c' V g h (by decide) (by omega) hr
 obtain ⟨u, hu⟩ : ∃ k : Int, k = 1 := ⟨_, rfl⟩
 have hr0 : r = false := by rw [hr]; unfold YT; rw [hm0]; decide
 have H4 := Hd C4
 have H5 := Hd C5
 have H6 := Hd C6
 clear C1 C2 C3 C4 C5 C6 hn hd hd0 hg hs hln hld hm hml hm0 hr hu
 have px := Zv.new w (.bool (decide (n < 0))) (.slice A (Za n.natAbs).length c) (.bool (decide (d < 0))) (.slice B (Za d.natAbs).length e0)
 have b0 := (Below.refl w.heap.size w).alloc (Nat.le_refl _) (.cells #[.bool (decide (n < 0)), .slice A (Za n.natAbs).length c, .bool (decide (d < 0)), .slice B (Za d.natAbs).length e0] 27)
 have h1 := h.below b0
 have g1 := g.below b0
 have PX := Hd px
 have B0 := Hd b0
 have RX := Hd h1
 have RY := Hd g1
 clear px b0 h g h1 g1
 go_enter Tryz.func139, Tryz.ntmps139
 go_wp2_with fail
 obtain ⟨W, E⟩ : ∃ W, W = w.alloc (.cells #[.bool (decide (n < 0)), .slice A (Za n.natAbs).length c, .bool (decide (d < 0)), .slice B (Za d.natAbs).length e0] 27) := ⟨_, rfl⟩
 rw [← E] at PX B0 RX RY ⊢
 clear E
 have T0 := Below.refl W.heap.size W
 obtain ⟨l0, x0, x1, x2, x3, -, -, -, -⟩ := (PX.out.below T0).facts
 go_wp2_with fail
 refine (H1.out _ (RX.out.below T0)).mono ?_
 rintro e w1 ⟨rfl, h⟩
 have T1 := Zb T0 h
 clear h x0 x1 x2 x3 l0
 obtain ⟨l1, x0, x1, x2, x3, -, -, -, -⟩ := (PX.out.below T1).facts
 go_wp2_with fail
 refine (H2.out _ (RY.out.below T1)).mono ?_
 rintro e w2 ⟨rfl, h⟩
 have T2 := Zb T1 h
 clear h x0 x1 x2 x3 l1
 obtain ⟨l2, x0, x1, x2, x3, -, -, -, -⟩ := (PX.out.below T2).facts
 go_wp2_with fail
 refine (H3.out _ (RY.out.below T2)).mono ?_
 rintro e w3 ⟨rfl, h⟩
 have T3 := Zb T2 h
 clear h x0 x1 x2 x3 l2
 obtain ⟨l3, x0, x1, x2, x3, -, -, -, -⟩ := (PX.out.below T3).facts
 go_wp2_with fail
 refine (H4.out _ (RX.out.below T3) (RY.out.below T3)).mono ?_
 rintro e w4 ⟨v, rfl, i4, h⟩
 have T4 := Zb T3 h
 obtain ⟨A4, c4, rfl, r4⟩ := i4.form
 clear i4
 clear h x0 x1 x2 x3 l3
 subst hr0
 go_wp2_with fail
 obtain ⟨Y, E⟩ : ∃ Y, Y = w4.alloc (.cells #[.bool (decide (m < 0)), .slice A4 (Za m.natAbs).length c4] 25) := ⟨_, rfl⟩
 have pg := Zi.new w4 25 (.bool (decide (m < 0))) (.slice A4 (Za m.natAbs).length c4)
 have T5 := T4.alloc T4.size (.cells #[.bool (decide (m < 0)), .slice A4 (Za m.natAbs).length c4] 25)
 have r5 := r4.alloc (.cells #[.bool (decide (m < 0)), .slice A4 (Za m.natAbs).length c4] 25)
 rw [← E] at pg T5 r5 ⊢
 have BB := Hd (B0.out.trans (T5.mono B0.out.size))
 have PG := Hd pg
 have R5 := Hd r5
 clear E pg T5 r5 r4 T4 T3 T2 T1 T0
 refine Ze [.any false (fun u V => Zc V 0 u 1) [], .val (.agg #[.bool (decide (m < 0)), .slice A4 (Za m.natAbs).length c4]) [], .val (.bool false) [0]] Y.heap.size Y [] XM _ Zd (Nat.le_refl _) (Below.refl _ _) (Zo.refl _ _ _) rfl (by kernel_rfl) (by kernel_rfl) (by kernel_rfl) (by kernel_rfl) (by kernel_rfl) (by kernel_rfl) (by kernel_rfl) (by kernel_rfl) rfl (by simp [ZL]) ?_ ?_ ?_ ?_
 · simp only [Zr, and_true]
   exact fun u V V' h k => h.kept k (by decide)
 · simp only [ZP]
 · simp (maxSteps := 4000000) [ZA, Z9, Zf, Zs, Zj]
   repeat' (first | apply And.intro | (intro (u : Value)) | (intro (u : Nat)))
   all_goals first
   | (intro V hV hK
      have qg := PG.out.below hV
      obtain ⟨l9, a_g, b_g, -, -⟩ := qg.facts
      clear hV hK qg
      go_simp
      first
      | exact Below.refl _ _
      | ((with_reducible refine (H5.out V).mono ?_); rintro e w' ⟨v, rfl, hv, hb⟩; exact ⟨hv.base (Nat.zero_le _), hb⟩))
   | (intro V hV hK h1
      have rg := R5.out.below hV
      obtain ⟨A5, c5, rfl, r5⟩ := h1.raw
      clear hV hK h1
      go_simp
      refine (H6.out V A4 A5 c4 c5 rg r5).mono ?_
      rintro e w' ⟨rfl, hb⟩
      exact ⟨rfl, hb⟩)
 · simp [Yd, ZC, Zf, Zs, Zj]
   intro u1 V hV hK h1 _ _ _
   have B9 := Hd (BB.out.trans (hV.mono BB.out.size))
   clear hV hK h1
   go_wp2_with fail
   go_ret
   exact ⟨rfl, B9.out⟩

theorem ref02_Check_more (n d : Int) (A B : Option Addr) (c e0 : Nat) (w : World) (h : Zh w A c (Za n.natAbs)) (g : Zh w B e0 (Za d.natAbs)) (hn : Jh n) (hd : Jh d) (hd0 : 0 < d) (hg : ZU n d ≠ 1) :
   Calls Tryz.prog 139 #[.agg #[.bool (decide (n < 0)), .slice A (Za n.natAbs).length c, .bool (decide (d < 0)), .slice B (Za d.natAbs).length e0]] w fun e w' => e = .returned (.int .i64 1) ∧ Below w.heap.size w w' := by
 have C1 := fun (V : World) (h : Zh V A c (Za n.natAbs)) => Yo (decide (n < 0)) A c _ V h
 have C2 := fun (V : World) (h : Zh V B e0 (Za d.natAbs)) => Yo (decide (d < 0)) B e0 _ V h
 unfold Xt at C1 C2
 rw [if_pos hn.ok] at C1
 rw [if_pos hd.ok] at C2
 have hln : lz n ≤ 2048 := hn
 have hld : lz d ≤ 2048 := hd
 obtain ⟨s, hs⟩ : ∃ k : Int, k = d.sign := ⟨_, rfl⟩
 have C3 := fun (V : World) (h : Zh V B e0 (Za d.natAbs)) => JL d s B e0 V h hs
 have hs1 : 0 < s := by rw [hs]; exact Int.sign_pos_iff.2 hd0
 have H1 := Hd C1
 have H2 := Hd C2
 have H3 := Hd C3
 obtain ⟨m, hm⟩ : ∃ k : Int, k = ZU n d := ⟨_, rfl⟩
 have hml : lz m ≤ 2048 := by rw [hm]; exact Nat.le_trans (XS (by omega)) hld
 have hm0 : m ≠ 1 := by rw [hm]; exact hg
 obtain ⟨r, hr⟩ : ∃ k : Bool, k = decide (YT 1 m < 0) := ⟨_, rfl⟩
 have C4 := fun (V : World) (h : Zh V A c (Za n.natAbs)) (g : Zh V B e0 (Za d.natAbs)) => common02 n d A B c e0 V h g (by omega) (by omega)
 rw [← hm] at C4
 have C5 := fun (V : World) => ref_Of 1 (by decide) (by decide) V
 have C6 := fun (V : World) (A' B' : Option Addr) (c' e' : Nat) (h : Zh V A' c' (Za m.natAbs)) (g : Zh V B' e' (Za (1 : Int).natAbs)) => rbelow 1 m r B' A' e' c' V g h (by decide) (by omega) hr
 obtain ⟨u, hu⟩ : ∃ k : Int, k = 1 := ⟨_, rfl⟩
 have hm1 : 0 < m := by rw [hm]; exact Xn (by omega)
 have hr0 : r = true := by rw [hr]; unfold YT; rw [if_pos (by omega)]; decide
 clear hm1
 have H4 := Hd C4
 have H5 := Hd C5
 have H6 := Hd C6
 clear C1 C2 C3 C4 C5 C6 hn hd hd0 hg hs hln hld hm hml hm0 hr hu
 have px := Zv.new w (.bool (decide (n < 0))) (.slice A (Za n.natAbs).length c) (.bool (decide (d < 0))) (.slice B (Za d.natAbs).length e0)
 have b0 := (Below.refl w.heap.size w).alloc (Nat.le_refl _) (.cells #[.bool (decide (n < 0)), .slice A (Za n.natAbs).length c, .bool (decide (d < 0)), .slice B (Za d.natAbs).length e0] 27)
 have h1 := h.below b0
 have g1 := g.below b0
 have PX := Hd px
 have B0 := Hd b0
 have RX := Hd h1
 have RY := Hd g1
 clear px b0 h g h1 g1
 go_enter Tryz.func139, Tryz.ntmps139
 go_wp2_with fail
 obtain ⟨W, E⟩ : ∃ W, W = w.alloc (.cells #[.bool (decide (n < 0)), .slice A (Za n.natAbs).length c, .bool (decide (d < 0)), .slice B (Za d.natAbs).length e0] 27) := ⟨_, rfl⟩
 rw [← E] at PX B0 RX RY ⊢
 clear E
 have T0 := Below.refl W.heap.size W
 obtain ⟨l0, x0, x1, x2, x3, -, -, -, -⟩ := (PX.out.below T0).facts
 go_wp2_with fail
 refine (H1.out _ (RX.out.below T0)).mono ?_
 rintro e w1 ⟨rfl, h⟩
 have T1 := Zb T0 h
 clear h x0 x1 x2 x3 l0
 obtain ⟨l1, x0, x1, x2, x3, -, -, -, -⟩ := (PX.out.below T1).facts
 go_wp2_with fail
 refine (H2.out _ (RY.out.below T1)).mono ?_
 rintro e w2 ⟨rfl, h⟩
 have T2 := Zb T1 h
 clear h x0 x1 x2 x3 l1
 obtain ⟨l2, x0, x1, x2, x3, -, -, -, -⟩ := (PX.out.below T2).facts
 go_wp2_with fail
 refine (H3.out _ (RY.out.below T2)).mono ?_
 rintro e w3 ⟨rfl, h⟩
 have T3 := Zb T2 h
 clear h x0 x1 x2 x3 l2
 obtain ⟨l3, x0, x1, x2, x3, -, -, -, -⟩ := (PX.out.below T3).facts
 go_wp2_with fail
 refine (H4.out _ (RX.out.below T3) (RY.out.below T3)).mono ?_
 rintro e w4 ⟨v, rfl, i4, h⟩
 have T4 := Zb T3 h
 obtain ⟨A4, c4, rfl, r4⟩ := i4.form
 clear i4
 clear h x0 x1 x2 x3 l3
 subst hr0
 go_wp2_with fail
 obtain ⟨Y, E⟩ : ∃ Y, Y = w4.alloc (.cells #[.bool (decide (m < 0)), .slice A4 (Za m.natAbs).length c4] 25) := ⟨_, rfl⟩
 have pg := Zi.new w4 25 (.bool (decide (m < 0))) (.slice A4 (Za m.natAbs).length c4)
 have T5 := T4.alloc T4.size (.cells #[.bool (decide (m < 0)), .slice A4 (Za m.natAbs).length c4] 25)
 have r5 := r4.alloc (.cells #[.bool (decide (m < 0)), .slice A4 (Za m.natAbs).length c4] 25)
 rw [← E] at pg T5 r5 ⊢
 have BB := Hd (B0.out.trans (T5.mono B0.out.size))
 have PG := Hd pg
 have R5 := Hd r5
 clear E pg T5 r5 r4 T4 T3 T2 T1 T0
 refine Ze [.any false (fun u V => Zc V 0 u 1) [], .val (.agg #[.bool (decide (m < 0)), .slice A4 (Za m.natAbs).length c4]) [], .val (.bool true) [0]] Y.heap.size Y [] XM _ Zd (Nat.le_refl _) (Below.refl _ _) (Zo.refl _ _ _) rfl (by kernel_rfl) (by kernel_rfl) (by kernel_rfl) (by kernel_rfl) (by kernel_rfl) (by kernel_rfl) (by kernel_rfl) (by kernel_rfl) rfl (by simp [ZL]) ?_ ?_ ?_ ?_
 · simp only [Zr, and_true]
   exact fun u V V' h k => h.kept k (by decide)
 · simp only [ZP]
 · simp (maxSteps := 4000000) [ZA, Z9, Zf, Zs, Zj]
   repeat' (first | apply And.intro | (intro (u : Value)) | (intro (u : Nat)))
   all_goals first
   | (intro V hV hK
      have qg := PG.out.below hV
      obtain ⟨l9, a_g, b_g, -, -⟩ := qg.facts
      clear hV hK qg
      go_simp
      first
      | exact Below.refl _ _
      | ((with_reducible refine (H5.out V).mono ?_); rintro e w' ⟨v, rfl, hv, hb⟩; exact ⟨hv.base (Nat.zero_le _), hb⟩))
   | (intro V hV hK h1
      have rg := R5.out.below hV
      obtain ⟨A5, c5, rfl, r5⟩ := h1.raw
      clear hV hK h1
      go_simp
      refine (H6.out V A4 A5 c4 c5 rg r5).mono ?_
      rintro e w' ⟨rfl, hb⟩
      exact ⟨rfl, hb⟩)
 · simp [Yd, ZC, Zf, Zs, Zj]
   intro u1 V hV hK h1 _ _ _
   have B9 := Hd (BB.out.trans (hV.mono BB.out.size))
   clear hV hK h1
   go_wp2_with fail
   go_ret
   exact ⟨rfl, B9.out⟩

theorem ref02_Check (n1 n2 : Bool) (A B : Option Addr) (c e0 : Nat) (xs ys : List Nat) (w : World) (h : Zh w A c xs) (g : Zh w B e0 ys) :
   Calls Tryz.prog 139 #[.agg #[.bool n1, .slice A xs.length c, .bool n2, .slice B ys.length e0]] w fun e w' => e = .returned (.int .i64 (JH n1 n2 xs ys)) ∧ Below w.heap.size w w' := by
 unfold JH mkOk
 cases o1 : okI n1 xs with
 | false => exact ref02_Check_bad_one n1 n2 A B c e0 xs ys o1 w h g
 | true =>
   cases o2 : okI n2 ys with
   | false => exact ref02_Check_bad_two n1 n2 A B c e0 xs ys o1 o2 w h g
   | true =>
     obtain ⟨a1, a2, a3⟩ := ok_num h.limbs o1
     obtain ⟨b1, b2, b3⟩ := ok_num g.limbs o2
     generalize Zp n1 xs = x at a1 a2 a3 ⊢
     generalize Zp n2 ys = y at b1 b2 b3 ⊢
     subst a1 a2 b1 b2
     simp only [Bool.and_self, if_true]
     by_cases hy : 0 < y
     · by_cases hg : ZU x y = 1
       · rw [if_pos ⟨hy, hg⟩]
         exact ref02_Check_fine x y A B c e0 w h g a3 b3 hy hg
       · rw [if_neg fun q => hg q.2]
         exact ref02_Check_more x y A B c e0 w h g a3 b3 hy hg
     · rw [if_neg fun q => hy q.1]
       exact ref02_Check_low x y A B c e0 w h g a3 b3 (by omega)
end Go.Proofs.YtipmkkobdbgphaaGreatDoor
