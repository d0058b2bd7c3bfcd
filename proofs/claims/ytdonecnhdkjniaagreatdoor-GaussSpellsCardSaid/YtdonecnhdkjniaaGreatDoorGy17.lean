/- Several texts in one: May, Ints, FMake, FCheck, FChecks. -/
import Derived.Test.YtdonecnhdkjniaaGreatDoorGy16
set_option maxRecDepth 100000
set_option maxHeartbeats 8000000
namespace Go.Proofs.YtdonecnhdkjniaaGreatDoor
open Go.RowKit

abbrev Num := Bool × Option Addr × Nat × List Nat
def cellsNum (l : List Num) : List Value := l.flatMap fun m => [.bool m.1, .slice m.2.1 m.2.2.2.length m.2.2.1]
def okNum (m : Num) : Bool := okI m.1 m.2.2.2

def Fit (x : Int) : Prop := (Za x.natAbs).length <= 2048
instance (x : Int) : Decidable (Fit x) := inferInstanceAs (Decidable ((Za x.natAbs).length <= 2048))
theorem Fit.ok {x : Int} (h : Fit x) : okI (decide (x < 0)) (Za x.natAbs) = true := by
 refine okI_true.2 ⟨h, Z6 _, fun e => ?_⟩
 have := YL.1 e
 exact decide_eq_false (by omega)
theorem ok_num {n : Bool} {xs : List Nat} (hl : Zj xs) (o : okI n xs = true) : n = decide (Zt n xs < 0) /\ xs = Za (Zt n xs).natAbs /\ Fit (Zt n xs) := by
 obtain ⟨o1, o2, o3⟩ := okI_true.1 o
 have ha : (Zt n xs).natAbs = val xs := by unfold Zt; split <;> omega
 have h2 : xs = Za (Zt n xs).natAbs := by rw [ha]; exact (Xq hl o2).symm
 refine ⟨?_, h2, by unfold Fit; rw [<- h2]; exact o1⟩
 by_cases hx : xs = []
 . subst hx
   rw [o3 rfl]; rfl
 . have hp : 0 < val xs := by
    rcases Nat.eq_zero_or_pos (val xs) with h0 | h0
    . have := Xq hl o2
      rw [h0, YF] at this
      exact absurd this.symm hx
    . exact h0
   unfold Zt
   cases n <;> simp <;> omega
def RetN2 (w : World) (z k : Int) (e : Ending) (w' : World) : Prop := ∃ A c, e = .returned (.tuple #[.agg #[.bool (decide (z < 0)), .slice A (Za z.natAbs).length c], .int .i64 k]) /\ Zr w' A c (Za z.natAbs) /\ Below w.heap.size w w'
def RetN3 (w : World) (z1 z2 k : Int) (e : Ending) (w' : World) : Prop := ∃ A c B d, e = .returned (.tuple #[.agg #[.bool (decide (z1 < 0)), .slice A (Za z1.natAbs).length c], .agg #[.bool (decide (z2 < 0)), .slice B (Za z2.natAbs).length d], .int .i64 k]) /\ Zr w' A c (Za z1.natAbs) /\ Zr w' B d (Za z2.natAbs) /\ Below w.heap.size w w'
def RetN1 (w : World) (z : Int) (e : Ending) (w' : World) : Prop := ∃ A c, e = .returned (.agg #[.bool (decide (z < 0)), .slice A (Za z.natAbs).length c]) /\ Zr w' A c (Za z.natAbs) /\ Below w.heap.size w w'
section
variable (x y z : Int) (A B : Option Addr) (c d : Nat) (hx : Fit x) (hy : Fit y) (w : World) (h : Zr w A c (Za x.natAbs)) (g : Zr w B d (Za y.natAbs))
include hx hy h g
end

theorem lowN_lz (n d : Int) : lz (Yx n d) <= lz n := by
 unfold Yx
 split
 . rw [show lz (-(n.tdiv (ZK n d))) = lz (n.tdiv (ZK n d)) by unfold lz; rw [Int.natAbs_neg]]; exact YY _ _
 . exact YY _ _
theorem lowD_lz (n d : Int) : lz (Yt n d) <= lz d := by
 unfold Yt
 split
 . rw [show lz (-(d.tdiv (ZK n d))) = lz (d.tdiv (ZK n d)) by unfold lz; rw [Int.natAbs_neg]]; exact YY _ _
 . exact YY _ _

def mkOk (n1 n2 : Bool) (xs ys : List Nat) : Bool := okI n1 xs && okI n2 ys
def mkE (n1 n2 : Bool) (xs ys : List Nat) : Int := if mkOk n1 n2 xs ys then (if Zt n2 ys = 0 then 3 else 0) else 1
def mkN (n1 n2 : Bool) (xs ys : List Nat) : Int := if mkOk n1 n2 xs ys then (if Zt n2 ys = 0 then 0 else Yx (Zt n1 xs) (Zt n2 ys)) else 0
def mkD (n1 n2 : Bool) (xs ys : List Nat) : Int := if mkOk n1 n2 xs ys then (if Zt n2 ys = 0 then 0 else Yt (Zt n1 xs) (Zt n2 ys)) else 0

theorem ratio_Check_bad_one (n1 n2 : Bool) (A B : Option Addr) (c e0 : Nat) (xs ys : List Nat) (o : okI n1 xs = false) (w : World) (h : Zr w A c xs) (g : Zr w B e0 ys) :
  Calls Tryz.prog 159 #[.agg #[.bool n1, .slice A xs.length c, .bool n2, .slice B ys.length e0]] w fun e w' => e = .returned (.int .i64 1) /\ Below w.heap.size w w' := by
 have C1 := fun (V : World) (h : Zr V A c xs) => ZW n1 A c _ V h
 unfold errI at C1
 rw [if_neg (by rw [o]; decide)] at C1
 have H1 := Hd C1
 clear C1 o
 have px := Zw.new w (.bool n1) (.slice A xs.length c) (.bool n2) (.slice B ys.length e0)
 have b0 := (Below.refl w.heap.size w).alloc (Nat.le_refl _) (.cells #[.bool n1, .slice A xs.length c, .bool n2, .slice B ys.length e0] 26)
 have h1 := h.below b0
 have g1 := g.below b0
 have PX := Hd px
 have B0 := Hd b0
 have RX := Hd h1
 have RY := Hd g1
 clear px b0 h g h1 g1
 go_enter Tryz.func159, Tryz.ntmps159
 go_wp2_with fail
 obtain ⟨W, E⟩ : ∃ W, W = w.alloc (.cells #[.bool n1, .slice A xs.length c, .bool n2, .slice B ys.length e0] 26) := ⟨_, rfl⟩
 rw [<- E] at PX B0 RX RY ⊢
 clear E
 have T0 := Below.refl W.heap.size W
 obtain ⟨l0, x0, x1, x2, x3, -, -, -, -⟩ := (PX.out.below T0).facts
 go_wp2_with fail
 refine (H1.out _ (RX.out.below T0)).mono ?_
 rintro e w1 ⟨rfl, h⟩
 have T1 := Zb T0 h
 clear h x0 x1 x2 x3 l0
 have BB := Zb B0.out T1
 go_wp2_with fail
 go_ret
 exact ⟨rfl, BB⟩

theorem ratio_Check_bad_two (n1 n2 : Bool) (A B : Option Addr) (c e0 : Nat) (xs ys : List Nat) (o1 : okI n1 xs = true) (o : okI n2 ys = false) (w : World) (h : Zr w A c xs) (g : Zr w B e0 ys) :
  Calls Tryz.prog 159 #[.agg #[.bool n1, .slice A xs.length c, .bool n2, .slice B ys.length e0]] w fun e w' => e = .returned (.int .i64 1) /\ Below w.heap.size w w' := by
 have C1 := fun (V : World) (h : Zr V A c xs) => ZW n1 A c _ V h
 unfold errI at C1
 rw [if_pos o1] at C1
 have H1 := Hd C1
 have C2 := fun (V : World) (h : Zr V B e0 ys) => ZW n2 B e0 _ V h
 unfold errI at C2
 rw [if_neg (by rw [o]; decide)] at C2
 have H2 := Hd C2
 clear C2 o1
 clear C1 o
 have px := Zw.new w (.bool n1) (.slice A xs.length c) (.bool n2) (.slice B ys.length e0)
 have b0 := (Below.refl w.heap.size w).alloc (Nat.le_refl _) (.cells #[.bool n1, .slice A xs.length c, .bool n2, .slice B ys.length e0] 26)
 have h1 := h.below b0
 have g1 := g.below b0
 have PX := Hd px
 have B0 := Hd b0
 have RX := Hd h1
 have RY := Hd g1
 clear px b0 h g h1 g1
 go_enter Tryz.func159, Tryz.ntmps159
 go_wp2_with fail
 obtain ⟨W, E⟩ : ∃ W, W = w.alloc (.cells #[.bool n1, .slice A xs.length c, .bool n2, .slice B ys.length e0] 26) := ⟨_, rfl⟩
 rw [<- E] at PX B0 RX RY ⊢
 clear E
 have T0 := Below.refl W.heap.size W
 obtain ⟨l0, x0, x1, x2, x3, -, -, -, -⟩ := (PX.out.below T0).facts
 go_wp2_with fail
 refine (H1.out _ (RX.out.below T0)).mono ?_
 rintro e w1 ⟨rfl, h⟩
 have T1 := Zb T0 h
 clear h x0 x1 x2 x3 l0
 obtain ⟨l1, x0, x1, x2, x3, -, -, -, -⟩ := (PX.out.below T1).facts
 go_wp2_with fail
 refine (H2.out _ (RY.out.below T1)).mono ?_
 rintro e w2 ⟨rfl, h⟩
 have T2 := Zb T1 h
 clear h x0 x1 x2 x3 l1
 have BB := Zb B0.out T2
 go_wp2_with fail
 go_ret
 exact ⟨rfl, BB⟩

theorem ratio_Check_low (n d : Int) (A B : Option Addr) (c e0 : Nat) (w : World) (h : Zr w A c (Za n.natAbs)) (g : Zr w B e0 (Za d.natAbs)) (hn : Fit n) (hd : Fit d) (hd0 : d <= 0) :
  Calls Tryz.prog 159 #[.agg #[.bool (decide (n < 0)), .slice A (Za n.natAbs).length c, .bool (decide (d < 0)), .slice B (Za d.natAbs).length e0]] w fun e w' => e = .returned (.int .i64 1) /\ Below w.heap.size w w' := by
 have C1 := fun (V : World) (h : Zr V A c (Za n.natAbs)) => ZW (decide (n < 0)) A c _ V h
 have C2 := fun (V : World) (h : Zr V B e0 (Za d.natAbs)) => ZW (decide (d < 0)) B e0 _ V h
 unfold errI at C1 C2
 rw [if_pos hn.ok] at C1
 rw [if_pos hd.ok] at C2
 have hln : lz n <= 2048 := hn
 have hld : lz d <= 2048 := hd
 obtain ⟨s, hs⟩ : ∃ k : Int, k = d.sign := ⟨_, rfl⟩
 have C3 := fun (V : World) (h : Zr V B e0 (Za d.natAbs)) => Jp d s B e0 V h hs
 have hs1 : s <= 0 := by rw [hs]; exact Int.sign_nonpos_iff.2 hd0
 have H1 := Hd C1
 have H2 := Hd C2
 have H3 := Hd C3
 clear C1 C2 C3 hn hd hd0 hs hln hld
 have px := Zw.new w (.bool (decide (n < 0))) (.slice A (Za n.natAbs).length c) (.bool (decide (d < 0))) (.slice B (Za d.natAbs).length e0)
 have b0 := (Below.refl w.heap.size w).alloc (Nat.le_refl _) (.cells #[.bool (decide (n < 0)), .slice A (Za n.natAbs).length c, .bool (decide (d < 0)), .slice B (Za d.natAbs).length e0] 26)
 have h1 := h.below b0
 have g1 := g.below b0
 have PX := Hd px
 have B0 := Hd b0
 have RX := Hd h1
 have RY := Hd g1
 clear px b0 h g h1 g1
 go_enter Tryz.func159, Tryz.ntmps159
 go_wp2_with fail
 obtain ⟨W, E⟩ : ∃ W, W = w.alloc (.cells #[.bool (decide (n < 0)), .slice A (Za n.natAbs).length c, .bool (decide (d < 0)), .slice B (Za d.natAbs).length e0] 26) := ⟨_, rfl⟩
 rw [<- E] at PX B0 RX RY ⊢
 clear E
 have T0 := Below.refl W.heap.size W
 obtain ⟨l0, x0, x1, x2, x3, -, -, -, -⟩ := (PX.out.below T0).facts
 go_wp2_with fail
 refine (H1.out _ (RX.out.below T0)).mono ?_
 rintro e w1 ⟨rfl, h⟩
 have T1 := Zb T0 h
 clear h x0 x1 x2 x3 l0
 obtain ⟨l1, x0, x1, x2, x3, -, -, -, -⟩ := (PX.out.below T1).facts
 go_wp2_with fail
 refine (H2.out _ (RY.out.below T1)).mono ?_
 rintro e w2 ⟨rfl, h⟩
 have T2 := Zb T1 h
 clear h x0 x1 x2 x3 l1
 obtain ⟨l2, x0, x1, x2, x3, -, -, -, -⟩ := (PX.out.below T2).facts
 go_wp2_with fail
 refine (H3.out _ (RY.out.below T2)).mono ?_
 rintro e w3 ⟨rfl, h⟩
 have T3 := Zb T2 h
 clear h x0 x1 x2 x3 l2
 have BB := Zb B0.out T3
 go_wp2_with fail
 go_ret
 exact ⟨rfl, BB⟩

theorem ratio_Check_fine (n d : Int) (A B : Option Addr) (c e0 : Nat) (w : World) (h : Zr w A c (Za n.natAbs)) (g : Zr w B e0 (Za d.natAbs)) (hn : Fit n) (hd : Fit d) (hd0 : 0 < d) (hg : ZK n d = 1) :
  Calls Tryz.prog 159 #[.agg #[.bool (decide (n < 0)), .slice A (Za n.natAbs).length c, .bool (decide (d < 0)), .slice B (Za d.natAbs).length e0]] w fun e w' => e = .returned (.int .i64 0) /\ Below w.heap.size w w' := by
 have C1 := fun (V : World) (h : Zr V A c (Za n.natAbs)) => ZW (decide (n < 0)) A c _ V h
 have C2 := fun (V : World) (h : Zr V B e0 (Za d.natAbs)) => ZW (decide (d < 0)) B e0 _ V h
 unfold errI at C1 C2
 rw [if_pos hn.ok] at C1
 rw [if_pos hd.ok] at C2
 have hln : lz n <= 2048 := hn
 have hld : lz d <= 2048 := hd
 obtain ⟨s, hs⟩ : ∃ k : Int, k = d.sign := ⟨_, rfl⟩
 have C3 := fun (V : World) (h : Zr V B e0 (Za d.natAbs)) => Jp d s B e0 V h hs
 have hs1 : 0 < s := by rw [hs]; exact Int.sign_pos_iff.2 hd0
 have H1 := Hd C1
 have H2 := Hd C2
 have H3 := Hd C3
 obtain ⟨m, hm⟩ : ∃ k : Int, k = ZK n d := ⟨_, rfl⟩
 have hml : lz m <= 2048 := by rw [hm]; exact Nat.le_trans (XH (by omega)) hld
 have hm0 : m = 1 := by rw [hm]; exact hg
 obtain ⟨r, hr⟩ : ∃ k : Int, k = Xw m 1 := ⟨_, rfl⟩
 have C4 := fun (V : World) (h : Zr V A c (Za n.natAbs)) (g : Zr V B e0 (Za d.natAbs)) => XI n d m A B c e0 V h g (by omega) (by omega) hm
 have C5 := fun (V : World) => eof 1 1 rfl (by decide) (by decide) V
 have C6 := fun (V : World) (A' B' : Option Addr) (c' e' : Nat) (h : Zr V A' c' (Za m.natAbs)) (g : Zr V B' e' (Za (1 : Int).natAbs)) => ecmp m 1 r A' B' c' e' V h g (by omega) (by decide) hr
 obtain ⟨u, hu⟩ : ∃ k : Int, k = 1 := ⟨_, rfl⟩
 have hr0 : r = 0 := by rw [hr]; unfold Xw; rw [hm0]; decide
 have H4 := Hd C4
 have H5 := Hd C5
 have H6 := Hd C6
 clear C1 C2 C3 C4 C5 C6 hn hd hd0 hg hs hln hld hm hml hm0 hr hu
 have px := Zw.new w (.bool (decide (n < 0))) (.slice A (Za n.natAbs).length c) (.bool (decide (d < 0))) (.slice B (Za d.natAbs).length e0)
 have b0 := (Below.refl w.heap.size w).alloc (Nat.le_refl _) (.cells #[.bool (decide (n < 0)), .slice A (Za n.natAbs).length c, .bool (decide (d < 0)), .slice B (Za d.natAbs).length e0] 26)
 have h1 := h.below b0
 have g1 := g.below b0
 have PX := Hd px
 have B0 := Hd b0
 have RX := Hd h1
 have RY := Hd g1
 clear px b0 h g h1 g1
 go_enter Tryz.func159, Tryz.ntmps159
 go_wp2_with fail
 obtain ⟨W, E⟩ : ∃ W, W = w.alloc (.cells #[.bool (decide (n < 0)), .slice A (Za n.natAbs).length c, .bool (decide (d < 0)), .slice B (Za d.natAbs).length e0] 26) := ⟨_, rfl⟩
 rw [<- E] at PX B0 RX RY ⊢
 clear E
 have T0 := Below.refl W.heap.size W
 obtain ⟨l0, x0, x1, x2, x3, -, -, -, -⟩ := (PX.out.below T0).facts
 go_wp2_with fail
 refine (H1.out _ (RX.out.below T0)).mono ?_
 rintro e w1 ⟨rfl, h⟩
 have T1 := Zb T0 h
 clear h x0 x1 x2 x3 l0
 obtain ⟨l1, x0, x1, x2, x3, -, -, -, -⟩ := (PX.out.below T1).facts
 go_wp2_with fail
 refine (H2.out _ (RY.out.below T1)).mono ?_
 rintro e w2 ⟨rfl, h⟩
 have T2 := Zb T1 h
 clear h x0 x1 x2 x3 l1
 obtain ⟨l2, x0, x1, x2, x3, -, -, -, -⟩ := (PX.out.below T2).facts
 go_wp2_with fail
 refine (H3.out _ (RY.out.below T2)).mono ?_
 rintro e w3 ⟨rfl, h⟩
 have T3 := Zb T2 h
 clear h x0 x1 x2 x3 l2
 obtain ⟨l3, x0, x1, x2, x3, -, -, -, -⟩ := (PX.out.below T3).facts
 go_wp2_with fail
 refine (H4.out _ (RX.out.below T3) (RY.out.below T3)).mono ?_
 rintro e w4 ⟨v, rfl, i4, h⟩
 have T4 := Zb T3 h
 obtain ⟨A4, c4, rfl, r4⟩ := i4.raw
 clear i4
 clear h x0 x1 x2 x3 l3
 obtain ⟨l4, x0, x1, x2, x3, -, -, -, -⟩ := (PX.out.below T4).facts
 go_wp2_with fail
 refine (H5.out _).mono ?_
 rintro e w5 ⟨v, rfl, i5, h⟩
 have T5 := Zb T4 h
 obtain ⟨A5, c5, rfl, r5⟩ := i5.raw
 have r45 := r4.below h
 clear i5 r4
 clear h x0 x1 x2 x3 l4
 obtain ⟨l5, x0, x1, x2, x3, -, -, -, -⟩ := (PX.out.below T5).facts
 go_wp2_with fail
 refine (H6.out _ A4 A5 c4 c5 r45 r5).mono ?_
 rintro e w6 ⟨rfl, h⟩
 have T6 := Zb T5 h
 clear h x0 x1 x2 x3 l5
 have BB := Zb B0.out T6
 go_wp2_with fail
 go_ret
 exact ⟨rfl, BB⟩

theorem ratio_Check_more (n d : Int) (A B : Option Addr) (c e0 : Nat) (w : World) (h : Zr w A c (Za n.natAbs)) (g : Zr w B e0 (Za d.natAbs)) (hn : Fit n) (hd : Fit d) (hd0 : 0 < d) (hg : ZK n d ≠ 1) :
  Calls Tryz.prog 159 #[.agg #[.bool (decide (n < 0)), .slice A (Za n.natAbs).length c, .bool (decide (d < 0)), .slice B (Za d.natAbs).length e0]] w fun e w' => e = .returned (.int .i64 1) /\ Below w.heap.size w w' := by
 have C1 := fun (V : World) (h : Zr V A c (Za n.natAbs)) => ZW (decide (n < 0)) A c _ V h
 have C2 := fun (V : World) (h : Zr V B e0 (Za d.natAbs)) => ZW (decide (d < 0)) B e0 _ V h
 unfold errI at C1 C2
 rw [if_pos hn.ok] at C1
 rw [if_pos hd.ok] at C2
 have hln : lz n <= 2048 := hn
 have hld : lz d <= 2048 := hd
 obtain ⟨s, hs⟩ : ∃ k : Int, k = d.sign := ⟨_, rfl⟩
 have C3 := fun (V : World) (h : Zr V B e0 (Za d.natAbs)) => Jp d s B e0 V h hs
 have hs1 : 0 < s := by rw [hs]; exact Int.sign_pos_iff.2 hd0
 have H1 := Hd C1
 have H2 := Hd C2
 have H3 := Hd C3
 obtain ⟨m, hm⟩ : ∃ k : Int, k = ZK n d := ⟨_, rfl⟩
 have hml : lz m <= 2048 := by rw [hm]; exact Nat.le_trans (XH (by omega)) hld
 have hm0 : m ≠ 1 := by rw [hm]; exact hg
 obtain ⟨r, hr⟩ : ∃ k : Int, k = Xw m 1 := ⟨_, rfl⟩
 have C4 := fun (V : World) (h : Zr V A c (Za n.natAbs)) (g : Zr V B e0 (Za d.natAbs)) => XI n d m A B c e0 V h g (by omega) (by omega) hm
 have C5 := fun (V : World) => eof 1 1 rfl (by decide) (by decide) V
 have C6 := fun (V : World) (A' B' : Option Addr) (c' e' : Nat) (h : Zr V A' c' (Za m.natAbs)) (g : Zr V B' e' (Za (1 : Int).natAbs)) => ecmp m 1 r A' B' c' e' V h g (by omega) (by decide) hr
 obtain ⟨u, hu⟩ : ∃ k : Int, k = 1 := ⟨_, rfl⟩
 have hr0 : r ≠ 0 := by rw [hr]; unfold Xw; split <;> (try split) <;> omega
 have H4 := Hd C4
 have H5 := Hd C5
 have H6 := Hd C6
 clear C1 C2 C3 C4 C5 C6 hn hd hd0 hg hs hln hld hm hml hm0 hr hu
 have px := Zw.new w (.bool (decide (n < 0))) (.slice A (Za n.natAbs).length c) (.bool (decide (d < 0))) (.slice B (Za d.natAbs).length e0)
 have b0 := (Below.refl w.heap.size w).alloc (Nat.le_refl _) (.cells #[.bool (decide (n < 0)), .slice A (Za n.natAbs).length c, .bool (decide (d < 0)), .slice B (Za d.natAbs).length e0] 26)
 have h1 := h.below b0
 have g1 := g.below b0
 have PX := Hd px
 have B0 := Hd b0
 have RX := Hd h1
 have RY := Hd g1
 clear px b0 h g h1 g1
 go_enter Tryz.func159, Tryz.ntmps159
 go_wp2_with fail
 obtain ⟨W, E⟩ : ∃ W, W = w.alloc (.cells #[.bool (decide (n < 0)), .slice A (Za n.natAbs).length c, .bool (decide (d < 0)), .slice B (Za d.natAbs).length e0] 26) := ⟨_, rfl⟩
 rw [<- E] at PX B0 RX RY ⊢
 clear E
 have T0 := Below.refl W.heap.size W
 obtain ⟨l0, x0, x1, x2, x3, -, -, -, -⟩ := (PX.out.below T0).facts
 go_wp2_with fail
 refine (H1.out _ (RX.out.below T0)).mono ?_
 rintro e w1 ⟨rfl, h⟩
 have T1 := Zb T0 h
 clear h x0 x1 x2 x3 l0
 obtain ⟨l1, x0, x1, x2, x3, -, -, -, -⟩ := (PX.out.below T1).facts
 go_wp2_with fail
 refine (H2.out _ (RY.out.below T1)).mono ?_
 rintro e w2 ⟨rfl, h⟩
 have T2 := Zb T1 h
 clear h x0 x1 x2 x3 l1
 obtain ⟨l2, x0, x1, x2, x3, -, -, -, -⟩ := (PX.out.below T2).facts
 go_wp2_with fail
 refine (H3.out _ (RY.out.below T2)).mono ?_
 rintro e w3 ⟨rfl, h⟩
 have T3 := Zb T2 h
 clear h x0 x1 x2 x3 l2
 obtain ⟨l3, x0, x1, x2, x3, -, -, -, -⟩ := (PX.out.below T3).facts
 go_wp2_with fail
 refine (H4.out _ (RX.out.below T3) (RY.out.below T3)).mono ?_
 rintro e w4 ⟨v, rfl, i4, h⟩
 have T4 := Zb T3 h
 obtain ⟨A4, c4, rfl, r4⟩ := i4.raw
 clear i4
 clear h x0 x1 x2 x3 l3
 obtain ⟨l4, x0, x1, x2, x3, -, -, -, -⟩ := (PX.out.below T4).facts
 go_wp2_with fail
 refine (H5.out _).mono ?_
 rintro e w5 ⟨v, rfl, i5, h⟩
 have T5 := Zb T4 h
 obtain ⟨A5, c5, rfl, r5⟩ := i5.raw
 have r45 := r4.below h
 clear i5 r4
 clear h x0 x1 x2 x3 l4
 obtain ⟨l5, x0, x1, x2, x3, -, -, -, -⟩ := (PX.out.below T5).facts
 go_wp2_with fail
 refine (H6.out _ A4 A5 c4 c5 r45 r5).mono ?_
 rintro e w6 ⟨rfl, h⟩
 have T6 := Zb T5 h
 clear h x0 x1 x2 x3 l5
 have BB := Zb B0.out T6
 go_wp2_with fail
 go_ret
 exact ⟨rfl, BB⟩

def XU (n1 n2 : Bool) (xs ys : List Nat) : Int := if mkOk n1 n2 xs ys then (if 0 < Zt n2 ys /\ ZK (Zt n1 xs) (Zt n2 ys) = 1 then 0 else 1) else 1
theorem ratio_Check (n1 n2 : Bool) (A B : Option Addr) (c e0 : Nat) (xs ys : List Nat) (w : World) (h : Zr w A c xs) (g : Zr w B e0 ys) :
  Calls Tryz.prog 159 #[.agg #[.bool n1, .slice A xs.length c, .bool n2, .slice B ys.length e0]] w fun e w' => e = .returned (.int .i64 (XU n1 n2 xs ys)) /\ Below w.heap.size w w' := by
 unfold XU mkOk
 cases o1 : okI n1 xs with
 | false => exact ratio_Check_bad_one n1 n2 A B c e0 xs ys o1 w h g
 | true =>
  cases o2 : okI n2 ys with
  | false => exact ratio_Check_bad_two n1 n2 A B c e0 xs ys o1 o2 w h g
  | true =>
   obtain ⟨a1, a2, a3⟩ := ok_num h.limbs o1
   obtain ⟨b1, b2, b3⟩ := ok_num g.limbs o2
   generalize Zt n1 xs = x at a1 a2 a3 ⊢
   generalize Zt n2 ys = y at b1 b2 b3 ⊢
   subst a1 a2 b1 b2
   simp only [Bool.and_self, if_true]
   by_cases hy : 0 < y
   . by_cases hg : ZK x y = 1
     . rw [if_pos ⟨hy, hg⟩]
       exact ratio_Check_fine x y A B c e0 w h g a3 b3 hy hg
     . rw [if_neg fun q => hg q.2]
       exact ratio_Check_more x y A B c e0 w h g a3 b3 hy hg
   . rw [if_neg fun q => hy q.1]
     exact ratio_Check_low x y A B c e0 w h g a3 b3 (by omega)

structure X0 where
 n1 : Bool
 A : Option Addr
 n : Nat
 c : Nat
 n2 : Bool
 B : Option Addr
 m : Nat
 e : Nat
def X0.val (q : X0) : Value := .agg #[.bool q.n1, .slice q.A q.n q.c, .bool q.n2, .slice q.B q.m q.e]
def X0.cells (q : X0) : List Value := [.bool q.n1, .slice q.A q.n q.c, .bool q.n2, .slice q.B q.m q.e]
def cellsF (l : List X0) : List Value := l.flatMap X0.cells
theorem cellsF_get : ∀ (l : List X0) (k : Nat) (hk : k < l.length), (cellsF l)[k * 4]? = some (.bool l[k].n1) /\ (cellsF l)[k * 4 + 1]? = some (.slice l[k].A l[k].n l[k].c) /\ (cellsF l)[k * 4 + 2]? = some (.bool l[k].n2) /\ (cellsF l)[k * 4 + 3]? = some (.slice l[k].B l[k].m l[k].e)
 | [], k, hk => by simp at hk
 | q :: l, 0, _ => by simp [cellsF, X0.cells]
 | q :: l, k + 1, hk => by
  have ih := cellsF_get l k (by simpa using hk)
  simp only [cellsF, List.flatMap_cons, X0.cells, show (k + 1) * 4 = k * 4 + 4 by omega]
  simpa [cellsF, X0.cells] using ih

theorem chkE_bool (n1 n2 : Bool) (xs ys : List Nat) : XU n1 n2 xs ys = if (XU n1 n2 xs ys == 0) = true then 0 else 1 := by
 unfold XU
 split <;> (try split) <;> simp_all
end Go.Proofs.YtdonecnhdkjniaaGreatDoor
