/- Several texts in one: Kp, FOpC, Lives3, BackLaw. -/
import Derived.Test.YtipmkkobdbgphaaGreatDoorPb01
import Derived.Test.YtipmkkobdbgphaaGreatDoorPb38
import Derived.Test.YtipmkkobdbgphaaGreatDoorPb28
import Derived.Test.YtipmkkobdbgphaaGreatDoorPb36
import Derived.Test.YtipmkkobdbgphaaGreatDoorPb23
import Derived.Test.YtipmkkobdbgphaaGreatDoorPbHd
import Derived.Test.YtipmkkobdbgphaaGreatDoorPb24
import Derived.Test.YtipmkkobdbgphaaGreatDoorPb19
import Derived.Test.YtipmkkobdbgphaaGreatDoorPb34
set_option maxRecDepth 100000
set_option maxHeartbeats 8000000
/- Facts of memory in one bundle: each stays true as memory grows. -/
namespace Go.Proofs.YtipmkkobdbgphaaGreatDoor
open Go.RowKit

structure Kp (P : World → Prop) (V : World) : Prop where
  h : P V
  st : ∀ V V', P V → Below V.heap.size V V' → P V'
theorem Kp.below {P : World → Prop} {V V' : World} (k : Kp P V) (hb : Below V.heap.size V V') : Kp P V' := ⟨k.st _ _ k.h hb, k.st⟩
theorem Kp.add {P Q : World → Prop} {V : World} (k : Kp P V) (q : Q V) (s : ∀ V V', Q V → Below V.heap.size V V' → Q V') : Kp (fun V => Q V ∧ P V) V :=
  ⟨⟨q, k.h⟩, fun V V' h hb => ⟨s V V' h.1 hb, k.st V V' h.2 hb⟩⟩
theorem Kp.base {w V : World} (h : Below w.heap.size w V) : Kp (fun V => Below w.heap.size w V) V := ⟨h, fun _ _ a b => belowTo a b⟩
/- The calls of package frac over fractions that may be, wherever their limbs lie: what each law hands to its walk. -/

def OpC (F : FuncId) (n d m f N D K : Int) : Prop := ∀ (V : World) (A B A2 B2 : Option Addr) (c e0 c2 e2 : Nat), Raw V A c (natL n.natAbs) → Raw V B e0 (natL d.natAbs) → Raw V A2 c2 (natL m.natAbs) → Raw V B2 e2 (natL f.natAbs) →
  Calls Tryz.prog F #[.agg #[.bool (decide (n < 0)), .slice A (natL n.natAbs).length c, .bool (decide (d < 0)), .slice B (natL d.natAbs).length e0], .agg #[.bool (decide (m < 0)), .slice A2 (natL m.natAbs).length c2, .bool (decide (f < 0)), .slice B2 (natL f.natAbs).length e2]] V (RetFracOwn2 V.heap.size V N D K)
def SignC (n d s : Int) : Prop := ∀ (V : World) (A B : Option Addr) (c e0 : Nat), Raw V A c (natL n.natAbs) → Raw V B e0 (natL d.natAbs) →
  Calls Tryz.prog 36 #[.agg #[.bool (decide (n < 0)), .slice A (natL n.natAbs).length c, .bool (decide (d < 0)), .slice B (natL d.natAbs).length e0]] V fun e w' => e = .returned (.int .i64 s) ∧ Below V.heap.size V w'
theorem sub_c {n d m f N D K : Int} (f1 : Fine n d) (f2 : Fine m f) (hN : N = ansN (subN n d m f) (subD n d m f)) (hD : D = ansD (subN n d m f) (subD n d m f)) (hK : K = ansK (subN n d m f) (subD n d m f)) : OpC 37 n d m f N D K := by
  subst hN hD hK
  exact fun V A B A2 B2 c e0 c2 e2 a1 a2 a3 a4 => frac_Sub_good n d m f A B A2 B2 c e0 c2 e2 V a1 a2 a3 a4 f1 f2
theorem mul_c {n d m f N D K : Int} (f1 : Fine n d) (f2 : Fine m f) (hN : N = ansN (mulN n d m f) (mulD n d m f)) (hD : D = ansD (mulN n d m f) (mulD n d m f)) (hK : K = ansK (mulN n d m f) (mulD n d m f)) : OpC 34 n d m f N D K := by
  subst hN hD hK
  exact fun V A B A2 B2 c e0 c2 e2 a1 a2 a3 a4 => frac_Mul_good n d m f A B A2 B2 c e0 c2 e2 V a1 a2 a3 a4 f1 f2
theorem ans_cases {n d N D K : Int} (hN : N = ansN n d) (hD : D = ansD n d) (hK : K = ansK n d) : (K = 0 ∧ N = n ∧ D = d ∧ lz n ≤ 2048 ∧ lz d ≤ 2048) ∨ (K = 4 ∧ N = 0 ∧ D = 0) := by
  subst hN hD hK
  unfold ansN ansD ansK
  by_cases hl : lz n ≤ 2048 ∧ lz d ≤ 2048
  · simp only [if_pos hl]; exact .inl ⟨trivial, trivial, trivial, hl⟩
  · simp only [if_neg hl]; exact .inr ⟨trivial, trivial, trivial⟩
theorem ans_fine {n d : Int} (f : Fine n d) : ansN n d = n ∧ ansD n d = d ∧ ansK n d = 0 := by
  have hl : lz n ≤ 2048 ∧ lz d ≤ 2048 := ⟨f.num, f.den⟩
  unfold ansN ansD ansK
  simp only [if_pos hl]
  exact ⟨trivial, trivial, trivial⟩
theorem mul_one (n m : Int) {d f : Int} (hd : 0 < d) (hf : 0 < f) : gcdZ (mulN n d m f) (mulD n d m f) = 1 := low_one _ (Int.mul_pos hd hf)
theorem fine_mul {n d m f N D : Int} (f1 : Fine n d) (f2 : Fine m f) (hN : N = mulN n d m f) (hD : D = mulD n d m f) (l1 : lz (mulN n d m f) ≤ 2048) (l2 : lz (mulD n d m f) ≤ 2048) : Fine N D := by
  rw [hN, hD]; exact Fine.mk_low (mulD_pos n m f1.pos f2.pos) (mul_one n m f1.pos f2.pos) l1 l2
/- lives of the laws of chapter 02: the answers that the document fixes. (Written by wip/frac/genlives3.py.) -/

theorem frac_Make_ours (n d : Int) (A B : Option Addr) (c e0 : Nat) (w : World) (h : Raw w A c (natL n.natAbs)) (g : Raw w B e0 (natL d.natAbs)) (o1 : IntOwn w 0 (.agg #[.bool (decide (n < 0)), .slice A (natL n.natAbs).length c]) n) (o2 : IntOwn w 0 (.agg #[.bool (decide (d < 0)), .slice B (natL d.natAbs).length e0]) d) (hn : Fit n) (hd : Fit d) (hd0 : d ≠ 0) :
    Calls Tryz.prog 120 #[.agg #[.bool (decide (n < 0)), .slice A (natL n.natAbs).length c], .agg #[.bool (decide (d < 0)), .slice B (natL d.natAbs).length e0]] w (RetFracOwn2 w.heap.size w (lowN n d) (lowD n d) 0) := by
  have C1 := fun (V : World) (h : Raw V A c (natL n.natAbs)) => exact_Check_any (decide (n < 0)) A c _ V h
  have C2 := fun (V : World) (h : Raw V B e0 (natL d.natAbs)) => exact_Check_any (decide (d < 0)) B e0 _ V h
  unfold errI at C1 C2
  rw [if_pos hn.ok] at C1
  rw [if_pos hd.ok] at C2
  have hln : lz n ≤ 2048 := hn
  have hld : lz d ≤ 2048 := hd
  obtain ⟨s, hs⟩ : ∃ k : Int, k = d.sign := ⟨_, rfl⟩
  have C3 := fun (V : World) (h : Raw V B e0 (natL d.natAbs)) => esign d s B e0 V h hs
  have C4 := fun (V : World) (o1 : IntOwn V 0 (.agg #[.bool (decide (n < 0)), .slice A (natL n.natAbs).length c]) n) (o2 : IntOwn V 0 (.agg #[.bool (decide (d < 0)), .slice B (natL d.natAbs).length e0]) d) => elow n d A B c e0 V o1.rawAt o2.rawAt o1 o2 (by omega) (by omega) hd0
  have hl1 : lz (lowN n d) ≤ 2048 := Nat.le_trans (lowN_lz n d) hln
  have hl2 : lz (lowD n d) ≤ 2048 := Nat.le_trans (lowD_lz n d) hld
  have C5 := fun (V : World) (A' B' : Option Addr) (c' e' : Nat) (h : Raw V A' c' (natL (lowN n d).natAbs)) (g : Raw V B' e' (natL (lowD n d).natAbs)) => frac_answered_fits (lowN n d) (lowD n d) A' B' c' e' V h g hl1 hl2
  obtain ⟨p, hp⟩ : ∃ k : Int, k = lowN n d := ⟨_, rfl⟩
  obtain ⟨q, hq⟩ : ∃ k : Int, k = lowD n d := ⟨_, rfl⟩
  rw [← hp, ← hq] at C4 C5 ⊢
  have H1 := Hd C1
  have H2 := Hd C2
  have H3 := Hd C3
  have H4 := Hd C4
  have H5 := Hd C5
  have hs1 : decide (s = 0) = false := decide_eq_false (by rw [hs]; intro e; exact hd0 (Int.sign_eq_zero_iff_zero.1 e))
  have hs0 : (s == 0) = false := by simpa using hs1
  clear C1 C2 C3 C4 C5 hn hd hd0 hs hln hld hl1 hl2 hp hq
  have px := ((Pair.new w 25 (.bool (decide (n < 0))) (.slice A (natL n.natAbs).length c)).alloc (.cells #[.bool (decide (d < 0)), .slice B (natL d.natAbs).length e0] 25)).alloc (.cells #[.bool false, .slice none 0 0, .bool false, .slice none 0 0] 27)
  have py := (Pair.new (w.alloc (.cells #[.bool (decide (n < 0)), .slice A (natL n.natAbs).length c] 25)) 25 (.bool (decide (d < 0))) (.slice B (natL d.natAbs).length e0)).alloc (.cells #[.bool false, .slice none 0 0, .bool false, .slice none 0 0] 27)
  have pr := Quad.new ((w.alloc (.cells #[.bool (decide (n < 0)), .slice A (natL n.natAbs).length c] 25)).alloc (.cells #[.bool (decide (d < 0)), .slice B (natL d.natAbs).length e0] 25)) (.bool false) (.slice none 0 0) (.bool false) (.slice none 0 0)
  have b0 := (((Below.refl w.heap.size w).alloc (Nat.le_refl _) (.cells #[.bool (decide (n < 0)), .slice A (natL n.natAbs).length c] 25)).alloc (by simp) (.cells #[.bool (decide (d < 0)), .slice B (natL d.natAbs).length e0] 25)).alloc (by simp; omega) (.cells #[.bool false, .slice none 0 0, .bool false, .slice none 0 0] 27)
  simp only [World.size_alloc] at py pr
  have OX := Hd (o1.below b0)
  have OY := Hd (o2.below b0)
  have h1 := h.below b0
  have g1 := g.below b0
  have PX := Hd px
  have PY := Hd py
  have PR := Hd pr
  have B0 := Hd b0
  have RX := Hd h1
  have RY := Hd g1
  clear px py pr b0 h g h1 g1 o1 o2
  go_enter Tryz.func120, Tryz.ntmps120
  go_wp2_with fail
  obtain ⟨W, E⟩ : ∃ W, W = ((w.alloc (.cells #[.bool (decide (n < 0)), .slice A (natL n.natAbs).length c] 25)).alloc (.cells #[.bool (decide (d < 0)), .slice B (natL d.natAbs).length e0] 25)).alloc (.cells #[.bool false, .slice none 0 0, .bool false, .slice none 0 0] 27) := ⟨_, rfl⟩
  rw [← E] at PX PY PR B0 RX RY OX OY ⊢
  clear E
  have T0 := Below.refl W.heap.size W
  obtain ⟨l0, x0, x1, -, -⟩ := (PX.out.below T0).facts
  obtain ⟨m0, y0, y1, -, -⟩ := (PY.out.below T0).facts
  go_wp2_with fail
  refine (H1.out _ (RX.out.below T0)).mono ?_
  rintro e w1 ⟨rfl, h⟩
  have T1 := belowTo T0 h
  clear h x0 x1 y0 y1 l0 m0
  obtain ⟨l1, x0, x1, -, -⟩ := (PX.out.below T1).facts
  obtain ⟨m1, y0, y1, -, -⟩ := (PY.out.below T1).facts
  go_wp2_with fail
  refine (H2.out _ (RY.out.below T1)).mono ?_
  rintro e w2 ⟨rfl, h⟩
  have T2 := belowTo T1 h
  clear h x0 x1 y0 y1 l1 m1
  obtain ⟨l2, x0, x1, -, -⟩ := (PX.out.below T2).facts
  obtain ⟨m2, y0, y1, -, -⟩ := (PY.out.below T2).facts
  go_wp2_with fail
  refine (H3.out _ (RY.out.below T2)).mono ?_
  rintro e w3 ⟨rfl, h⟩
  have T3 := belowTo T2 h
  clear h x0 x1 y0 y1 l2 m2
  obtain ⟨l3, x0, x1, -, -⟩ := (PX.out.below T3).facts
  obtain ⟨m3, y0, y1, -, -⟩ := (PY.out.below T3).facts
  go_wp2_with fail
  refine (H4.out _ (OX.out.below T3) (OY.out.below T3)).mono ?_
  rintro e w4 ⟨v, rfl, hF, h⟩
  have T4 := belowTo T3 h
  clear h x0 x1 y0 y1 l3 m3
  obtain ⟨A', c', B', e', rfl, r1, r2⟩ := hF.at_.form
  clear hF
  go_wp2_with fail
  refine (H5.out _ A' B' c' e' r1 r2).mono ?_
  rintro e w5 ⟨v, rfl, hI, h⟩
  have T5 := belowTo T4 h
  have pr2 := PR.out.below T5
  have BB := belowTo B0.out T5
  have hsz := belowTo B0.out T4
  obtain ⟨A1, c1, A2, c2, rfl, -⟩ := hI.form
  obtain ⟨l5, z0, z1, z2, z3, f0, f1, f2, f3⟩ := pr2.facts
  clear r1 r2 h
  go_wp2_with fail
  have hq := pr2.store (.bool (decide (p < 0))) (.slice A1 (natL p.natAbs).length c1) (.bool (decide (q < 0))) (.slice A2 (natL q.natAbs).length c2)
  obtain ⟨_, k0, k1, k2, k3, _⟩ := hq.facts
  have hs9 := hsz.size
  exact bodyPost_ret (by simp [results, Tryz.results120, go_sem, k0, k1, k2, k3]) rfl ⟨_, rfl, (hI.quad pr2 _ _ _ _).base hs9, below4 BB (by omega) _ _ _ _⟩

theorem frac_Make_oz (n d : Int) (A B : Option Addr) (c e0 : Nat) (w : World) (h : Raw w A c (natL n.natAbs)) (g : Raw w B e0 (natL d.natAbs)) (o1 : IntOwn w 0 (.agg #[.bool (decide (n < 0)), .slice A (natL n.natAbs).length c]) n) (o2 : IntOwn w 0 (.agg #[.bool (decide (d < 0)), .slice B (natL d.natAbs).length e0]) d) (hn : Fit n) (hd : Fit d) :
    Calls Tryz.prog 120 #[.agg #[.bool (decide (n < 0)), .slice A (natL n.natAbs).length c], .agg #[.bool (decide (d < 0)), .slice B (natL d.natAbs).length e0]] w (RetFracOwn2 w.heap.size w (zN n d) (zD n d) (zE d)) := by
  unfold zN zD zE
  by_cases hy : d = 0
  · simp only [if_pos hy]
    exact frac_Make_nought n d A B c e0 w h g hn hd hy
  · simp only [if_neg hy]
    exact frac_Make_ours n d A B c e0 w h g o1 o2 hn hd hy

theorem frac_Of_ours (n d : Int) (n1 : -9223372036854775808 ≤ n) (n2 : n ≤ 9223372036854775807) (d1 : -9223372036854775808 ≤ d) (d2 : d ≤ 9223372036854775807) (w : World) :
    Calls Tryz.prog 38 #[.int .i64 n, .int .i64 d] w (RetFracOwn2 w.heap.size w (zN n d) (zD n d) (zE d)) := by
  have fn : Fit n := (okI_true.1 (ok64' n n1 n2)).1
  have fd : Fit d := (okI_true.1 (ok64' d d1 d2)).1
  have C3 := fun (V : World) (A B : Option Addr) (c e0 : Nat) (h : Raw V A c (natL n.natAbs)) (g : Raw V B e0 (natL d.natAbs)) (o1 : IntOwn V 0 (.agg #[.bool (decide (n < 0)), .slice A (natL n.natAbs).length c]) n) (o2 : IntOwn V 0 (.agg #[.bool (decide (d < 0)), .slice B (natL d.natAbs).length e0]) d) => frac_Make_oz n d A B c e0 V h g o1 o2 fn fd
  have C1 := fun (V : World) => eof n n rfl n1 n2 V
  have C2 := fun (V : World) => eof d d rfl d1 d2 V
  obtain ⟨p, hp⟩ : ∃ k : Int, k = zN n d := ⟨_, rfl⟩
  obtain ⟨q, hq⟩ : ∃ k : Int, k = zD n d := ⟨_, rfl⟩
  obtain ⟨k, hk⟩ : ∃ k : Int, k = zE d := ⟨_, rfl⟩
  rw [← hp, ← hq, ← hk] at C3 ⊢
  have H1 := Hd C1
  have H2 := Hd C2
  have H3 := Hd C3
  clear C1 C2 C3 fn fd n1 n2 d1 d2 hp hq hk
  have pr := Quad.new w (.bool false) (.slice none 0 0) (.bool false) (.slice none 0 0)
  have b0 := (Below.refl w.heap.size w).alloc (Nat.le_refl _) (.cells #[.bool false, .slice none 0 0, .bool false, .slice none 0 0] 27)
  have PR := Hd pr
  have B0 := Hd b0
  clear pr b0
  go_enter Tryz.func38, Tryz.ntmps38
  go_wp2_with fail
  refine (H1.out _).mono ?_
  rintro e w1 ⟨v, rfl, i1, h⟩
  have T1 := belowTo B0.out h
  have p1 := PR.out.below h
  obtain ⟨A, c, rfl, r1⟩ := i1.raw
  have o1 := Hd (i1.base (Nat.zero_le _))
  clear h i1
  go_wp2_with fail
  refine (H2.out _).mono ?_
  rintro e w2 ⟨v, rfl, i2, h⟩
  have T2 := belowTo T1 h
  have p2 := p1.below h
  obtain ⟨B, e0, rfl, r2⟩ := i2.raw
  have o1 := Hd (o1.out.below h)
  have o2 := Hd (i2.base (Nat.zero_le _))
  have r3 := r1.below h
  clear h i2 r1 p1 T1
  go_wp2_with fail
  refine (H3.out _ A B c e0 r3 r2 o1.out o2.out).mono ?_
  rintro e w3 ⟨v, rfl, hI, h⟩
  have T3 := belowTo T2 h
  have p3 := p2.below h
  have hsz := T2.size
  obtain ⟨A1, c1, A2, c2, rfl, -⟩ := hI.form
  obtain ⟨l5, z0, z1, z2, z3, f0, f1, f2, f3⟩ := p3.facts
  clear h r3 r2 p2 T2
  go_wp2_with fail
  have hq := p3.store (.bool (decide (p < 0))) (.slice A1 (natL p.natAbs).length c1) (.bool (decide (q < 0))) (.slice A2 (natL q.natAbs).length c2)
  obtain ⟨_, k0, k1, k2, k3, _⟩ := hq.facts
  exact bodyPost_ret (by simp [results, Tryz.results38, go_sem, k0, k1, k2, k3]) rfl ⟨_, rfl, (hI.quad p3 _ _ _ _).base hsz, below4 T3 (by omega) _ _ _ _⟩

theorem frac_text_same : (⟨#[45, 51, 47, 50]⟩ : ByteArray) = ⟨(fracText (-3) 2).toArray⟩ := by
  have h3 : Lib.itoa (-3) = [45, 51] := by
    rw [show (-3 : Int) = -((3 : Nat) : Int) from rfl, Lib.itoa_neg _ (by decide), Lib.decDigits_one (by omega)]; rfl
  have h2 : Lib.itoa 2 = [50] := by
    rw [show (2 : Int) = ((2 : Nat) : Int) from rfl, Lib.itoa_nonneg, Lib.decDigits_one (by omega)]; rfl
  unfold fracText
  rw [if_neg (by decide), h3, h2]
  rfl

theorem lives_ours (w : World) (htab : powTab w) :
    Calls Tryz.prog 20 #[] w fun e w' => e = .returned (.bool true) ∧ Below w.heap.size w w' := by
  have C1 := fun (V : World) => frac_Of_ours 6 (-4) (by decide) (by decide) (by decide) (by decide) V
  have C2 := fun (V : World) => frac_Of_ours 1 0 (by decide) (by decide) (by decide) (by decide) V
  rw [show zN 6 (-4) = -3 by decide +kernel, show zD 6 (-4) = 2 by decide +kernel, show zE (-4) = 0 by decide] at C1
  rw [show zN 1 0 = 0 by decide +kernel, show zD 1 0 = 0 by decide +kernel, show zE 0 = 3 by decide] at C2
  obtain ⟨n, hn⟩ : ∃ k : Int, k = -3 := ⟨_, rfl⟩
  obtain ⟨d, hd⟩ : ∃ k : Int, k = 2 := ⟨_, rfl⟩
  rw [← hn, ← hd] at C1
  obtain ⟨z, hz⟩ : ∃ k : Int, k = 0 := ⟨_, rfl⟩
  have C2 : ∀ V : World, Calls Tryz.prog 38 #[.int .i64 1, .int .i64 0] V (RetFracOwn2 V.heap.size V z z 3) := by rw [hz]; exact C2
  have fn : Fit n := Fit.small (by rw [hn]; decide)
  have fd : Fit d := Fit.small (by rw [hd]; decide)
  have hc : chkE (decide (n < 0)) (decide (d < 0)) (natL n.natAbs) (natL d.natAbs) = 0 := by
    unfold chkE mkOk
    rw [fn.ok, fd.ok, ival_at, ival_at, hn, hd]
    decide +kernel
  have C3 := fun (V : World) (A B : Option Addr) (c e0 : Nat) (h : Raw V A c (natL n.natAbs)) (g : Raw V B e0 (natL d.natAbs)) (ht : powTab V) => frac_Text_good n d ⟨#[45, 51, 47, 50]⟩ A B c e0 V h g ht fn fd hc (by rw [hn, hd]; exact frac_text_same) (by decide)
  have C4 := fun (V : World) (A B : Option Addr) (c e0 : Nat) (h : Raw V A c (natL n.natAbs)) (g : Raw V B e0 (natL d.natAbs)) => frac_Sign_good n d (-1) A B c e0 V h g hc (by rw [hn]; decide)
  have H1 := Hd C1
  have H2 := Hd C2
  have H3 := Hd C3
  have H4 := Hd C4
  have HT := Hd htab
  clear C1 C2 C3 C4 fn fd hc hn hd hz htab
  go_enter Tryz.func20, Tryz.ntmps20
  go_wp2_with fail
  refine (H1.out w).mono ?_
  rintro e w1 ⟨v, rfl, hI, h1⟩
  have T1 := Hd h1
  obtain ⟨A, c, B, e0, rfl, i1, i2, -⟩ := hI.form
  obtain ⟨gx, hgx⟩ : ∃ k, k = w1.heap.size := ⟨_, rfl⟩
  obtain ⟨W, E⟩ : ∃ W, W = w1.alloc (.cells #[.bool (decide (n < 0)), .slice A (natL n.natAbs).length c, .bool (decide (d < 0)), .slice B (natL d.natAbs).length e0] 27) := ⟨_, rfl⟩
  have px := Quad.new w1 (.bool (decide (n < 0))) (.slice A (natL n.natAbs).length c) (.bool (decide (d < 0))) (.slice B (natL d.natAbs).length e0)
  have r1 := i1.rawAt.alloc (.cells #[.bool (decide (n < 0)), .slice A (natL n.natAbs).length c, .bool (decide (d < 0)), .slice B (natL d.natAbs).length e0] 27)
  have r2 := i2.rawAt.alloc (.cells #[.bool (decide (n < 0)), .slice A (natL n.natAbs).length c, .bool (decide (d < 0)), .slice B (natL d.natAbs).length e0] 27)
  have T2 := T1.out.alloc T1.out.size (.cells #[.bool (decide (n < 0)), .slice A (natL n.natAbs).length c, .bool (decide (d < 0)), .slice B (natL d.natAbs).length e0] 27)
  clear hI i1 i2 h1
  go_upto_region 2 with fail
  rw [← E, ← hgx] at px ⊢
  rw [← E] at r1 r2 T2
  have PX := Hd px
  have R1 := Hd r1
  have R2 := Hd r2
  have T2 := Hd T2
  clear E hgx px r1 r2 T1
  go_wp2_with fail
  refine (H2.out W).mono ?_
  rintro e w2 ⟨v, rfl, hI, h2⟩
  obtain ⟨A9, c9, B9, e9, rfl, -⟩ := hI.form
  obtain ⟨Y, E⟩ : ∃ Y, Y = w2.alloc (.cells #[.bool (decide (z < 0)), .slice A9 (natL z.natAbs).length c9, .bool (decide (z < 0)), .slice B9 (natL z.natAbs).length e9] 27) := ⟨_, rfl⟩
  have h3 := h2.alloc h2.size (.cells #[.bool (decide (z < 0)), .slice A9 (natL z.natAbs).length c9, .bool (decide (z < 0)), .slice B9 (natL z.natAbs).length e9] 27)
  go_upto_region 3 with fail
  rw [← E] at h3 ⊢
  have PX := Hd (PX.out.below h3)
  have R1 := Hd (R1.out.below h3)
  have R2 := Hd (R2.out.below h3)
  have T3 := Hd (belowTo T2.out h3)
  have HT := Hd (HT.out.below2 T3.out)
  clear E hI h2 h3 T2
  obtain ⟨l_x, a_x, b_x, c_x, d_x, -, -, -, -⟩ := PX.out.facts
  go_wp2_with fail
  refine (H3.out Y A B c e0 R1.out R2.out HT.out).mono ?_
  rintro e w3 ⟨rfl, h4⟩
  have PX := Hd (PX.out.below h4)
  have R1 := Hd (R1.out.below h4)
  have R2 := Hd (R2.out.below h4)
  have T4 := Hd (belowTo T3.out h4)
  clear h4 T3 HT l_x a_x b_x c_x d_x
  obtain ⟨l_x, a_x, b_x, c_x, d_x, -, -, -, -⟩ := PX.out.facts
  go_wp2_with fail
  refine (H4.out w3 A B c e0 R1.out R2.out).mono ?_
  rintro e w4 ⟨rfl, h5⟩
  have HF := Hd (belowTo T4.out h5)
  clear h5 T4 l_x a_x b_x c_x d_x
  go_wp2_with fail
  go_ret
  exact ⟨rfl, HF.out⟩
/- What FracBack rests on: a float there and back, a text there and back, the root of a square. -/

structure RQ (w : World) (g : Nat) (n1 : Bool) (A : Option Addr) (xs : List Nat) (c : Nat) (n2 : Bool) (B : Option Addr) (ys : List Nat) (e : Nat) : Prop where
  quad : Quad w g (.bool n1) (.slice A xs.length c) (.bool n2) (.slice B ys.length e)
  num : Raw w A c xs
  den : Raw w B e ys
theorem RQ.below {w w' : World} {g : Nat} {n1 : Bool} {A : Option Addr} {xs : List Nat} {c : Nat} {n2 : Bool} {B : Option Addr} {ys : List Nat} {e : Nat} (h : RQ w g n1 A xs c n2 B ys e) (hb : Below w.heap.size w w') : RQ w' g n1 A xs c n2 B ys e :=
  ⟨h.quad.below hb, h.num.below hb, h.den.below hb⟩

theorem back_near {v : Nat} (hf : frun v < 9218868437227405312) : Near ((fltN v).natAbs * p2 1074) (fltD v).natAbs (some (frun v)) := by
  have hd : 0 < fltD v := lowD_pos _ unitQ_pos
  have hc : fltN v * unitQ = fint v * fltD v := low_cross _ unitQ_pos
  have hN : (fltN v).natAbs * p2 1074 = fval (frun v) * (fltD v).natAbs := by
    have h := congrArg Int.natAbs hc
    rw [Int.natAbs_mul, Int.natAbs_mul] at h
    have e1 : unitQ.natAbs = p2 1074 := by unfold unitQ; exact Int.natAbs_natCast _
    have e2 : (fint v).natAbs = fval (frun v) := by unfold fint; split <;> omega
    rw [e1, e2] at h
    exact h
  have hd2 : 0 < (fltD v).natAbs := by omega
  have hs := Nat.mul_lt_mul_of_pos_right (fval_lt_succ (frun v)) hd2
  rw [hN]
  have hu2 : upR (fval (frun v) * (fltD v).natAbs) (fltD v).natAbs (frun v) = frun v := by
    unfold upR
    rw [Nat.add_mul, if_neg (by omega)]
  refine ⟨frun v, ⟨Nat.le_refl _, hs⟩, ?_⟩
  rw [hu2, if_pos hf]
theorem back_sign (v : Nat) : decide (fltN v < 0) = decide (fint v < 0) := by
  have h : (fltN v).sign = (fint v).sign := low_sign _ unitQ_pos
  have a := Int.sign_eq_neg_one_iff_neg (a := fltN v)
  have b := Int.sign_eq_neg_one_iff_neg (a := fint v)
  rw [h] at a
  exact decide_eq_decide.2 (a.symm.trans b)
theorem back_float {v a : Nat} (hf : frun v < 9218868437227405312) (ha : a = nearB (decide (fltN v < 0)) (some (frun v))) : frun a < 9218868437227405312 ∧ fint a = fint v ∧ fneg a = decide (fint v < 0) ∧ a < 18446744073709551616 := by
  rw [back_sign] at ha
  unfold nearB at ha
  have hr : fint v = if fneg v then -(fval (frun v) : Int) else (fval (frun v) : Int) := rfl
  obtain ⟨r, er⟩ : ∃ r, r = frun v := ⟨_, rfl⟩
  rw [← er] at ha hf hr
  by_cases h0 : fint v < 0
  · have hn : r ≠ 0 := by
      intro e
      rw [hr, e, fval_zero] at h0
      split at h0 <;> omega
    have hg : fneg v = true := by
      cases hg : fneg v with
      | true => rfl
      | false => rw [hr, hg] at h0; simp only [Bool.false_eq_true, if_false] at h0; omega
    rw [decide_eq_true h0] at ha ⊢
    simp only [Bool.true_and, decide_eq_true_eq, if_pos hn] at ha
    subst ha
    have e1 : frun (r + 9223372036854775808) = r := by unfold frun; omega
    have e2 : fneg (r + 9223372036854775808) = true := by
      have : (r + 9223372036854775808) / 9223372036854775808 % 2 = 1 := by omega
      unfold fneg
      rw [this]
      rfl
    refine ⟨by rw [e1]; exact hf, ?_, e2, by omega⟩
    unfold fint
    rw [e1, e2, hg, er]
  · rw [decide_eq_false h0] at ha ⊢
    simp only [Bool.false_and, Bool.false_eq_true, if_false] at ha
    subst ha
    have e1 : frun a = a := by unfold frun; omega
    have e2 : fneg a = false := by
      have : a / 9223372036854775808 % 2 = 0 := by omega
      unfold fneg
      rw [this]
      rfl
    refine ⟨by rw [e1]; exact hf, ?_, e2, by omega⟩
    have e3 : fint a = (fval a : Int) := by unfold fint; rw [e1, e2]; rfl
    rw [e3, hr]
    cases hg : fneg v with
    | false => rfl
    | true =>
      rw [hr, hg] at h0
      simp only [if_true] at h0 ⊢
      omega
theorem math_Signbit (b : Nat) (hb : b < 18446744073709551616) (w : World) : Calls Tryz.prog 27 #[.float .f64 b] w fun e w' => e = .returned (.bool (fneg b)) ∧ w' = w := by
  have h1 := fbits b
  have h2 : decide (IntKind.i64.wrap (b : Int) < 0) = fneg b := by
    unfold fneg
    rw [IntKind.wrap_i64]
    by_cases h : b < 9223372036854775808
    · have e : b / 9223372036854775808 % 2 = 0 := by omega
      rw [e, decide_eq_false (by omega)]
      rfl
    · have e : b / 9223372036854775808 % 2 = 1 := by omega
      rw [e, decide_eq_true (by omega)]
      rfl
  go_enter Tryz.func27, Tryz.ntmps27
  go_wp2
  go_ret
  rw [IntWalk.i64_left] at h2
  exact ⟨congrArg (fun q => Ending.returned (.bool q)) h2, rfl⟩
theorem fine_parts {n d : Int} (fn : Fit n) (fd : Fit d) (hp : 0 < d) (hg : gcdZ n d = 1) : Fine n d := by
  refine ⟨?_, fn, fd, hp, hg⟩
  unfold chkE mkOk
  rw [fn.ok, fd.ok, ival_at, ival_at]
  simp only [Bool.and_self, if_true]
  rw [if_pos ⟨hp, hg⟩]
theorem fine_float {v : Nat} (hf : frun v < 9218868437227405312) : Fine (fltN v) (fltD v) := by
  have h := fl_lz v
  unfold flN flD ffin at h
  rw [decide_eq_true hf] at h
  simp only [if_true] at h
  exact fine_low (fint v) unitQ_pos h.1 h.2
theorem frac_Float_back (v a : Nat) (hf : frun v < 9218868437227405312) (ha : a = nearB (decide (fltN v < 0)) (some (frun v))) (A B : Option Addr) (c e0 : Nat) (w : World) (h : Raw w A c (natL (fltN v).natAbs)) (g : Raw w B e0 (natL (fltD v).natAbs)) :
    Calls Tryz.prog 13 #[.agg #[.bool (decide (fltN v < 0)), .slice A (natL (fltN v).natAbs).length c, .bool (decide (fltD v < 0)), .slice B (natL (fltD v).natAbs).length e0]] w fun e w' => e = .returned (.tuple #[.float .f64 a, .int .i64 0]) ∧ Below w.heap.size w w' := by
  have f := fine_float hf
  exact frac_Float_all _ _ true true A B c e0 _ _ a (by rw [f.chk]; rfl) w h g (fun _ V' h g => by
    have h9 := ratio_Nearest (fltN v) (fltD v) A B c e0 V' h g f.pos f.num f.den _ (back_near hf)
    rw [← ha] at h9
    exact h9)

theorem fpr_text {n d : Int} (f : Fine n d) {s : List UInt8} (hs : s = fracText n d) (hl : s.length ≤ 65536) : fprN s = n ∧ fprD s = d ∧ fprK s = 0 := by
  have h := readF_text f.pos f.low
  rw [← hs] at h
  have a := ans_fine f
  unfold fprN fprD fprK
  rw [h, if_neg (by omega), if_neg (by omega), if_neg (by omega)]
  exact a
theorem fpr_good {s : List UInt8} (h : fprK s = 0) : Fine (fprN s) (fprD s) ∧ fracText (fprN s) (fprD s) = s ∧ s.length ≤ 65536 := by
  unfold fprN fprD
  unfold fprK at h
  split at h
  · cases h
  · next hl =>
    rw [if_neg hl, if_neg hl]
    cases hr : readF s with
    | none => rw [hr] at h; cases h
    | some p =>
      rw [hr] at h
      obtain ⟨n, d⟩ := p
      have t := text_readF hr
      rcases ans_cases (n := n) (d := d) rfl rfl rfl with ⟨-, hn, hd, l1, l2⟩ | ⟨hk, -, -⟩
      · show Fine (ansN n d) (ansD n d) ∧ fracText (ansN n d) (ansD n d) = s ∧ s.length ≤ 65536
        rw [hn, hd]
        exact ⟨fine_parts l1 l2 t.2.1 t.2.2, t.1, by omega⟩
      · exact absurd (h.symm.trans hk) (by decide)
theorem text_back (n1 n2 : Bool) (xs ys : List Nat) (hx : Limbs xs) (hy : Limbs ys) : ∃ (t : ByteArray) (k : Int),
    (∀ (V : World) (A B : Option Addr) (c e0 : Nat), Raw V A c xs → Raw V B e0 ys → powTab V → Calls Tryz.prog 28 #[.agg #[.bool n1, .slice A xs.length c, .bool n2, .slice B ys.length e0]] V fun e w' => e = .returned (.tuple #[.string t, .int .i64 k]) ∧ Below V.heap.size V w') ∧
    (k = 0 → ∃ n d, Fine n d ∧ n1 = decide (n < 0) ∧ n2 = decide (d < 0) ∧ xs = natL n.natAbs ∧ ys = natL d.natAbs ∧ fprN t.data.toList = n ∧ fprD t.data.toList = d ∧ fprK t.data.toList = 0) := by
  cases hc : (chkE n1 n2 xs ys == 0) with
  | false => exact ⟨_, _, fun V A B c e0 h g ht => frac_Text_all n1 n2 false A B c e0 xs ys ⟨#[]⟩ hc V h g ht (fun h => by cases h), fun h => by cases h⟩
  | true =>
    obtain ⟨n, d, hf, e1, e2, rfl, rfl⟩ := fine_of (n1 := n1) (n2 := n2) hx hy (by simpa using hc)
    subst e1 e2
    refine ⟨_, _, fun V A B c e0 h g ht => frac_Text_all _ _ true A B c e0 _ _ ⟨(fracText n d).toArray⟩ hc V h g ht (fun _ V' h g ht => ratio_Digits n d A B c e0 V' h g ht hf.num hf.den), fun h => ?_⟩
    by_cases hl : (⟨(fracText n d).toArray⟩ : ByteArray).size ≤ 65536
    · rw [(txt_good hl).1]
      exact ⟨n, d, hf, rfl, rfl, rfl, rfl, fpr_text hf (by simp) hl⟩
    · rw [(txt_long hl).2] at h
      cases h
theorem gcd_square {n d : Int} (h : gcdZ n d = 1) : gcdZ (n * n) (d * d) = 1 := by
  unfold gcdZ at h ⊢
  rw [Int.natAbs_mul, Int.natAbs_mul]
  have h2 : Nat.Coprime n.natAbs d.natAbs := by unfold Nat.Coprime; omega
  have h3 : Nat.Coprime (n.natAbs * n.natAbs) (d.natAbs * d.natAbs) := Nat.Coprime.mul_right (Nat.Coprime.mul_left h2 h2) (Nat.Coprime.mul_left h2 h2)
  unfold Nat.Coprime at h3
  rw [h3]
  rfl
theorem mul_back (n1 n2 : Bool) (xs ys : List Nat) (hx : Limbs xs) (hy : Limbs ys) : ∃ N D K : Int,
    (∀ (V : World) (A B : Option Addr) (c e0 : Nat), Raw V A c xs → Raw V B e0 ys → Calls Tryz.prog 34 #[.agg #[.bool n1, .slice A xs.length c, .bool n2, .slice B ys.length e0], .agg #[.bool n1, .slice A xs.length c, .bool n2, .slice B ys.length e0]] V (RetFracOwn2 V.heap.size V N D K)) ∧
    (K = 0 → ∃ n d, Fine n d ∧ n1 = decide (n < 0) ∧ n2 = decide (d < 0) ∧ xs = natL n.natAbs ∧ ys = natL d.natAbs ∧ N = n * n ∧ D = d * d ∧ Fine N D) := by
  cases hc : (chkE n1 n2 xs ys == 0) with
  | false => exact ⟨0, 0, 1, fun V A B c e0 h g => frac_Mul_bad n1 n2 n1 n2 A B A B c e0 c e0 xs ys xs ys V h g h g (by rw [hc]; rfl), fun h => by cases h⟩
  | true =>
    obtain ⟨n, d, hf, e1, e2, rfl, rfl⟩ := fine_of (n1 := n1) (n2 := n2) hx hy (by simpa using hc)
    subst e1 e2
    obtain ⟨N, hN⟩ : ∃ k, k = ansN (mulN n d n d) (mulD n d n d) := ⟨_, rfl⟩
    obtain ⟨D, hD⟩ : ∃ k, k = ansD (mulN n d n d) (mulD n d n d) := ⟨_, rfl⟩
    obtain ⟨K, hK⟩ : ∃ k, k = ansK (mulN n d n d) (mulD n d n d) := ⟨_, rfl⟩
    refine ⟨N, D, K, fun V A B c e0 h g => mul_c hf hf hN hD hK V A B A B c e0 c e0 h g h g, fun h => ?_⟩
    rcases ans_cases hN hD hK with ⟨-, hn, hd, l1, l2⟩ | ⟨hk, -, -⟩
    · have hq := low_is (s := n * n) (t := d * d) (n := n * n) (d := d * d) (Int.mul_pos hf.pos hf.pos) (Int.mul_pos hf.pos hf.pos) (gcd_square hf.low) rfl
      exact ⟨n, d, hf, rfl, rfl, rfl, rfl, hn.trans hq.1, hd.trans hq.2, fine_mul hf hf hn hd l1 l2⟩
    · exact absurd (h.symm.trans hk) (by decide)
theorem root_square (n : Int) : IsRootZ (n * n) (n.natAbs : Int) ∧ decide ((n.natAbs : Int) * (n.natAbs : Int) = n * n) = true := by
  have e : (n.natAbs : Int) * (n.natAbs : Int) = n * n := Int.natAbs_mul_self' n
  refine ⟨⟨Int.natCast_nonneg _, Int.le_of_eq e, ?_⟩, decide_eq_true e⟩
  rw [← e, Int.add_mul, Int.mul_add]
  have := Int.natCast_nonneg n.natAbs
  omega
theorem fine_abs {n d : Int} (f : Fine n d) : Fine (n.natAbs : Int) d := by
  refine fine_parts ?_ f.den f.pos ?_
  · have h := f.num
    unfold Fit at h ⊢
    rw [Int.natAbs_natCast]
    exact h
  · have h := f.low
    unfold gcdZ at h ⊢
    rw [Int.natAbs_natCast]
    exact h
theorem fine_nought : Fine 0 1 := fine_parts (show lz 0 ≤ 2048 by decide +kernel) (show lz 1 ≤ 2048 by decide +kernel) (by decide) (by decide +kernel)
theorem sub_self_c {n d : Int} (f : Fine n d) : OpC 37 n d n d 0 1 0 := by
  have h := low_is (s := n * d - n * d) (t := d * d) (n := 0) (d := 1) (Int.mul_pos f.pos f.pos) (by decide) (by decide +kernel) (by omega)
  have a := ans_fine fine_nought
  have e1 : subN n d n d = 0 := h.1
  have e2 : subD n d n d = 1 := h.2
  exact sub_c f f (by rw [e1, e2, a.1]) (by rw [e1, e2, a.2.1]) (by rw [e1, e2, a.2.2])
theorem sub_neg_c {n d : Int} (f : Fine n d) (hn : n < 0) : OpC 37 0 1 (n.natAbs : Int) d n d 0 := by
  have h := low_is (s := 0 * d - (n.natAbs : Int) * 1) (t := 1 * d) (n := n) (d := d) (by rw [Int.one_mul]; exact f.pos) f.pos f.low (by
    rw [show 0 * d - (n.natAbs : Int) * 1 = n by omega, Int.one_mul])
  have a := ans_fine f
  have e1 : subN 0 1 (n.natAbs : Int) d = n := h.1
  have e2 : subD 0 1 (n.natAbs : Int) d = d := h.2
  exact sub_c fine_nought (fine_abs f) (by rw [e1, e2, a.1]) (by rw [e1, e2, a.2.1]) (by rw [e1, e2, a.2.2])
theorem is_nan (v : Nat) (b : Bool) (hb : b = decide (9218868437227405312 < frun v)) (w : World) : Calls Tryz.prog 32 #[.float .f64 v] w fun e w' => e = .returned (.bool b) ∧ Below w.heap.size w w' :=
  (math_IsNaN v w).mono fun e w' ⟨h1, h2⟩ => ⟨by rw [h1, hb], by rw [h2]; exact Below.refl _ _⟩
theorem is_inf (v : Nat) (hv : v < 18446744073709551616) (hn : frun v ≤ 9218868437227405312) (b : Bool) (hb : b = decide (frun v = 9218868437227405312)) (w : World) : Calls Tryz.prog 33 #[.float .f64 v, .int .i64 0] w fun e w' => e = .returned (.bool b) ∧ Below w.heap.size w w' :=
  (math_IsInf v hv hn w).mono fun e w' ⟨h1, h2⟩ => ⟨by rw [h1, hb], by rw [h2]; exact Below.refl _ _⟩
theorem sign_bit (v : Nat) (hv : v < 18446744073709551616) (b : Bool) (hb : b = fneg v) (w : World) : Calls Tryz.prog 27 #[.float .f64 v] w fun e w' => e = .returned (.bool b) ∧ Below w.heap.size w w' :=
  (math_Signbit v hv w).mono fun e w' ⟨h1, h2⟩ => ⟨by rw [h1, hb], by rw [h2]; exact Below.refl _ _⟩
theorem root_back {n d N D m : Int} (f : Fine n d) (hN : N = n * n) (hD : D = d * d) (fq : Fine N D) (hm : m = (n.natAbs : Int)) (A B : Option Addr) (c e0 : Nat) (w : World) (h : Raw w A c (natL N.natAbs)) (g : Raw w B e0 (natL D.natAbs)) :
    Calls Tryz.prog 35 #[.agg #[.bool (decide (N < 0)), .slice A (natL N.natAbs).length c, .bool (decide (D < 0)), .slice B (natL D.natAbs).length e0]] w (RetFracOwn3 w.heap.size w m d true 0) := by
  have r1 := root_square n
  have r2 := root_square d
  have hp := f.pos
  rw [show (d.natAbs : Int) = d by omega] at r2
  rw [← hm, ← hN] at r1
  have hn : 0 ≤ N := Int.le_trans (Int.mul_nonneg r1.1.1 r1.1.1) r1.1.2.1
  exact frac_Root_yes N D m d A B c e0 w h g (by rw [fq.chk]; rfl) hn (Int.le_of_lt fq.pos) (Nat.le_trans fq.num (by decide)) (Nat.le_trans fq.den (by decide)) r1.1 (by rw [hD]; exact r2.1) r1.2 (by rw [hD]; exact r2.2)
theorem sub_two {n d m : Int} (f : Fine n d) (hn : n < 0) (hm : m = (n.natAbs : Int)) : ∃ z o : Int, OpC 37 m d m d z o 0 ∧ OpC 37 z o m d n d 0 := by
  subst hm
  exact ⟨0, 1, sub_self_c (fine_abs f), sub_neg_c f hn⟩
end Go.Proofs.YtipmkkobdbgphaaGreatDoor
