/- Several texts in one: OfW, WrapI, May, Ints, FMake. -/
import Derived.Test.YtmcnmoljliggfaaGreatDoorBt16
set_option maxRecDepth 100000
set_option maxHeartbeats 8000000
/- Of of package whole. -/
namespace Go.Proofs.YtmcnmoljliggfaaGreatDoor
open Go.RowKit

/- Sign, Bits of package whole and of the references: 0 of what may not be. (Written by wip/exact/genwrap.py.) -/

/- may, small: of a list of numbers. -/

abbrev Num := Bool × Option Addr × Nat × List Nat
def cellsNum (l : List Num) : List Value := l.flatMap fun m => [.bool m.1, .slice m.2.1 m.2.2.2.length m.2.2.1]
def okNum (m : Num) : Bool := okI m.1 m.2.2.2
/- The calls of package whole over numbers that may be, told by the numbers alone. -/

def Fit (x : Int) : Prop := (natL x.natAbs).length ≤ 2048
instance (x : Int) : Decidable (Fit x) := inferInstanceAs (Decidable ((natL x.natAbs).length ≤ 2048))
theorem Fit.ok {x : Int} (h : Fit x) : okI (decide (x < 0)) (natL x.natAbs) = true := by
  refine okI_true.2 ⟨h, canon_natL _, fun e => ?_⟩
  have := natL_eq_nil.1 e
  exact decide_eq_false (by omega)
theorem ok_num {n : Bool} {xs : List Nat} (hl : Limbs xs) (o : okI n xs = true) : n = decide (ival n xs < 0) ∧ xs = natL (ival n xs).natAbs ∧ Fit (ival n xs) := by
  obtain ⟨o1, o2, o3⟩ := okI_true.1 o
  have ha : (ival n xs).natAbs = val xs := by unfold ival; split <;> omega
  have h2 : xs = natL (ival n xs).natAbs := by rw [ha]; exact (natL_val hl o2).symm
  refine ⟨?_, h2, by unfold Fit; rw [← h2]; exact o1⟩
  by_cases hx : xs = []
  · subst hx
    rw [o3 rfl]; rfl
  · have hp : 0 < val xs := by
      rcases Nat.eq_zero_or_pos (val xs) with h0 | h0
      · have := natL_val hl o2
        rw [h0, natL_zero] at this
        exact absurd this.symm hx
      · exact h0
    unfold ival
    cases n <;> simp <;> omega
def RetN2 (w : World) (z k : Int) (e : Ending) (w' : World) : Prop := ∃ A c, e = .returned (.tuple #[.agg #[.bool (decide (z < 0)), .slice A (natL z.natAbs).length c], .int .i64 k]) ∧ Raw w' A c (natL z.natAbs) ∧ Below w.heap.size w w'
def RetN3 (w : World) (z1 z2 k : Int) (e : Ending) (w' : World) : Prop := ∃ A c B d, e = .returned (.tuple #[.agg #[.bool (decide (z1 < 0)), .slice A (natL z1.natAbs).length c], .agg #[.bool (decide (z2 < 0)), .slice B (natL z2.natAbs).length d], .int .i64 k]) ∧ Raw w' A c (natL z1.natAbs) ∧ Raw w' B d (natL z2.natAbs) ∧ Below w.heap.size w w'
def RetN1 (w : World) (z : Int) (e : Ending) (w' : World) : Prop := ∃ A c, e = .returned (.agg #[.bool (decide (z < 0)), .slice A (natL z.natAbs).length c]) ∧ Raw w' A c (natL z.natAbs) ∧ Below w.heap.size w w'
section
variable (x y z : Int) (A B : Option Addr) (c d : Nat) (hx : Fit x) (hy : Fit y) (w : World) (h : Raw w A c (natL x.natAbs)) (g : Raw w B d (natL y.natAbs))
include hx hy h g
end
/- Make of package frac. (Written by wip/frac/genfmake.py.) -/

theorem lowN_lz (n d : Int) : lz (lowN n d) ≤ lz n := by
  unfold lowN
  split
  · rw [show lz (-(n.tdiv (gcdZ n d))) = lz (n.tdiv (gcdZ n d)) by unfold lz; rw [Int.natAbs_neg]]; exact tdiv_lz _ _
  · exact tdiv_lz _ _
theorem lowD_lz (n d : Int) : lz (lowD n d) ≤ lz d := by
  unfold lowD
  split
  · rw [show lz (-(d.tdiv (gcdZ n d))) = lz (d.tdiv (gcdZ n d)) by unfold lz; rw [Int.natAbs_neg]]; exact tdiv_lz _ _
  · exact tdiv_lz _ _

theorem frac_Make_nought (n d : Int) (A B : Option Addr) (c e0 : Nat) (w : World) (h : Raw w A c (natL n.natAbs)) (g : Raw w B e0 (natL d.natAbs)) (hn : Fit n) (hd : Fit d) (hd0 : d = 0) :
    Calls Tryz.prog 91 #[.agg #[.bool (decide (n < 0)), .slice A (natL n.natAbs).length c], .agg #[.bool (decide (d < 0)), .slice B (natL d.natAbs).length e0]] w (RetFracOwn2 w.heap.size w 0 0 3) := by
  have C1 := fun (V : World) (h : Raw V A c (natL n.natAbs)) => exact_Check_any (decide (n < 0)) A c _ V h
  have C2 := fun (V : World) (h : Raw V B e0 (natL d.natAbs)) => exact_Check_any (decide (d < 0)) B e0 _ V h
  unfold errI at C1 C2
  rw [if_pos hn.ok] at C1
  rw [if_pos hd.ok] at C2
  have C3 := fun (V : World) (h : Raw V B e0 (natL d.natAbs)) => esign d 0 B e0 V h (by rw [hd0]; rfl)
  have H1 := Hd C1
  have H2 := Hd C2
  have H3 := Hd C3
  clear C1 C2 C3 hn hd hd0
  have px := ((Pair.new w 25 (.bool (decide (n < 0))) (.slice A (natL n.natAbs).length c)).alloc (.cells #[.bool (decide (d < 0)), .slice B (natL d.natAbs).length e0] 25)).alloc (.cells #[.bool false, .slice none 0 0, .bool false, .slice none 0 0] 27)
  have py := (Pair.new (w.alloc (.cells #[.bool (decide (n < 0)), .slice A (natL n.natAbs).length c] 25)) 25 (.bool (decide (d < 0))) (.slice B (natL d.natAbs).length e0)).alloc (.cells #[.bool false, .slice none 0 0, .bool false, .slice none 0 0] 27)
  have pr := Quad.new ((w.alloc (.cells #[.bool (decide (n < 0)), .slice A (natL n.natAbs).length c] 25)).alloc (.cells #[.bool (decide (d < 0)), .slice B (natL d.natAbs).length e0] 25)) (.bool false) (.slice none 0 0) (.bool false) (.slice none 0 0)
  have b0 := (((Below.refl w.heap.size w).alloc (Nat.le_refl _) (.cells #[.bool (decide (n < 0)), .slice A (natL n.natAbs).length c] 25)).alloc (by simp) (.cells #[.bool (decide (d < 0)), .slice B (natL d.natAbs).length e0] 25)).alloc (by simp; omega) (.cells #[.bool false, .slice none 0 0, .bool false, .slice none 0 0] 27)
  simp only [World.size_alloc] at py pr
  have h1 := h.below b0
  have g1 := g.below b0
  have PX := Hd px
  have PY := Hd py
  have PR := Hd pr
  have B0 := Hd b0
  have RX := Hd h1
  have RY := Hd g1
  clear px py pr b0 h g h1 g1
  go_enter Tryz.func91, Tryz.ntmps91
  go_wp2_with fail
  obtain ⟨W, E⟩ : ∃ W, W = ((w.alloc (.cells #[.bool (decide (n < 0)), .slice A (natL n.natAbs).length c] 25)).alloc (.cells #[.bool (decide (d < 0)), .slice B (natL d.natAbs).length e0] 25)).alloc (.cells #[.bool false, .slice none 0 0, .bool false, .slice none 0 0] 27) := ⟨_, rfl⟩
  rw [← E] at PX PY PR B0 RX RY ⊢
  clear E
  have T0 := Below.refl W.heap.size W
  obtain ⟨l0, x0, x1, -, -⟩ := (PX.out.below T0).facts
  obtain ⟨m0, y0, y1, -, -⟩ := (PY.out.below T0).facts
  go_wp2_with fail
  refine (H1.out _ (RX.out.below T0)).mono ?_
  rintro e w1 ⟨rfl, h⟩
  have T1 := belowTo T0 h
  clear h x0 x1 y0 y1 l0 m0
  obtain ⟨l1, x0, x1, -, -⟩ := (PX.out.below T1).facts
  obtain ⟨m1, y0, y1, -, -⟩ := (PY.out.below T1).facts
  go_wp2_with fail
  refine (H2.out _ (RY.out.below T1)).mono ?_
  rintro e w2 ⟨rfl, h⟩
  have T2 := belowTo T1 h
  clear h x0 x1 y0 y1 l1 m1
  obtain ⟨l2, x0, x1, -, -⟩ := (PX.out.below T2).facts
  obtain ⟨m2, y0, y1, -, -⟩ := (PY.out.below T2).facts
  go_wp2_with fail
  refine (H3.out _ (RY.out.below T2)).mono ?_
  rintro e w3 ⟨rfl, h⟩
  have T3 := belowTo T2 h
  clear h x0 x1 y0 y1 l2 m2
  have pr2 := PR.out.below T3
  have BB := belowTo B0.out T3
  have BX := B0.out.size
  obtain ⟨l5, z0, z1, z2, z3, f0, f1, f2, f3⟩ := pr2.facts
  go_wp2_with fail
  have hq := pr2.store (.bool false) (.slice none 0 0) (.bool false) (.slice none 0 0)
  obtain ⟨_, k0, k1, k2, k3, _⟩ := hq.facts
  exact bodyPost_ret (by simp [results, Tryz.results91, go_sem, k0, k1, k2, k3]) rfl ⟨_, rfl, FracOwn.nought _ _, below4 BB (by omega) _ _ _ _⟩

def mkOk (n1 n2 : Bool) (xs ys : List Nat) : Bool := okI n1 xs && okI n2 ys
def mkE (n1 n2 : Bool) (xs ys : List Nat) : Int := if mkOk n1 n2 xs ys then (if ival n2 ys = 0 then 3 else 0) else 1
def mkN (n1 n2 : Bool) (xs ys : List Nat) : Int := if mkOk n1 n2 xs ys then (if ival n2 ys = 0 then 0 else lowN (ival n1 xs) (ival n2 ys)) else 0
def mkD (n1 n2 : Bool) (xs ys : List Nat) : Int := if mkOk n1 n2 xs ys then (if ival n2 ys = 0 then 0 else lowD (ival n1 xs) (ival n2 ys)) else 0
end Go.Proofs.YtmcnmoljliggfaaGreatDoor
