/- Several texts in one: FRingPlain, FClos, Kp, FOpC. -/
import Derived.Test.YtadmoheohmbieaaDoorBr28
import Derived.Test.YtadmoheohmbieaaDoorBr01
set_option maxRecDepth 100000
set_option maxHeartbeats 8000000
/- Fractions as plain numbers: the laws of a field. -/
namespace Go.Proofs.YtadmoheohmbieaaDoor
open Go.RowKit

theorem low_eq {s t s' t' : Int} (ht : 0 < t) (ht' : 0 < t') (e : s * t' = s' * t) : lowN s t = lowN s' t' ∧ lowD s t = lowD s' t' := by
  refine frac_one (lowD_pos s ht) (lowD_pos s' ht') (low_one s ht) (low_one s' ht') ?_
  have c1 := low_cross s ht
  have c2 := low_cross s' ht'
  generalize lowN s t = N at c1 ⊢
  generalize lowD s t = D at c1 ⊢
  generalize lowN s' t' = N' at c2 ⊢
  generalize lowD s' t' = D' at c2 ⊢
  have h1 : N * D' * (t * t') = s * t' * (D * D') := by
    rw [show N * D' * (t * t') = (N * t) * (D' * t') by simp only [Int.mul_comm, Int.mul_left_comm], c1]
    simp only [Int.mul_comm, Int.mul_left_comm]
  have h2 : N' * D * (t * t') = s' * t * (D * D') := by
    rw [show N' * D * (t * t') = (N' * t') * (D * t) by simp only [Int.mul_comm, Int.mul_left_comm], c2]
    simp only [Int.mul_comm, Int.mul_left_comm]
  refine Int.eq_of_mul_eq_mul_right (a := t * t') (by have := Int.mul_pos ht ht'; omega) ?_
  rw [h1, h2, e]
theorem low_is {s t n d : Int} (ht : 0 < t) (hd : 0 < d) (h1 : gcdZ n d = 1) (e : s * d = n * t) : lowN s t = n ∧ lowD s t = d := by
  refine frac_one (lowD_pos s ht) hd (low_one s ht) h1 ?_
  have c1 := low_cross s ht
  generalize lowN s t = N at c1 ⊢
  generalize lowD s t = D at c1 ⊢
  refine Int.eq_of_mul_eq_mul_right (a := t) (by omega) ?_
  rw [show N * d * t = (N * t) * d by simp only [Int.mul_comm, Int.mul_left_comm], c1, show s * D * d = (s * d) * D by simp only [Int.mul_comm, Int.mul_left_comm], e]
  simp only [Int.mul_comm, Int.mul_left_comm]
theorem addD_pos (n m : Int) {d f : Int} (hd : 0 < d) (hf : 0 < f) : 0 < addD n d m f := lowD_pos _ (Int.mul_pos hd hf)
theorem mulD_pos (n m : Int) {d f : Int} (hd : 0 < d) (hf : 0 < f) : 0 < mulD n d m f := lowD_pos _ (Int.mul_pos hd hf)
theorem add_turn (n d m f : Int) : addN n d m f = addN m f n d ∧ addD n d m f = addD m f n d := by
  unfold addN addD
  rw [Int.add_comm (n * f), Int.mul_comm d f]
  exact ⟨rfl, rfl⟩
theorem mul_turn (n d m f : Int) : mulN n d m f = mulN m f n d ∧ mulD n d m f = mulD m f n d := by
  unfold mulN mulD
  rw [Int.mul_comm n m, Int.mul_comm d f]
  exact ⟨rfl, rfl⟩
theorem add_group (n m p : Int) {d f g : Int} (hd : 0 < d) (hf : 0 < f) (hg : 0 < g) :
    addN (addN n d m f) (addD n d m f) p g = addN n d (addN m f p g) (addD m f p g) ∧ addD (addN n d m f) (addD n d m f) p g = addD n d (addN m f p g) (addD m f p g) := by
  have c1 := low_cross (n * f + m * d) (Int.mul_pos hd hf)
  have c2 := low_cross (m * g + p * f) (Int.mul_pos hf hg)
  have hb := addD_pos n m hd hf
  have hr := addD_pos m p hf hg
  change addN n d m f * (d * f) = (n * f + m * d) * addD n d m f at c1
  change addN m f p g * (f * g) = (m * g + p * f) * addD m f p g at c2
  generalize addN n d m f = a at c1 ⊢
  generalize addD n d m f = b at c1 hb ⊢
  generalize addN m f p g = q at c2 ⊢
  generalize addD m f p g = r at c2 hr ⊢
  unfold addN addD
  refine low_eq (Int.mul_pos hb hg) (Int.mul_pos hd hr) ?_
  refine Int.eq_of_mul_eq_mul_right (a := f) (by omega) ?_
  have e1 := congrArg (· * (g * r)) c1
  have e2 := congrArg (· * (d * b)) c2
  simp only [Int.mul_add, Int.mul_comm, Int.mul_left_comm] at e1 e2 ⊢
  omega
theorem mul_group (n m p : Int) {d f g : Int} (hd : 0 < d) (hf : 0 < f) (hg : 0 < g) :
    mulN (mulN n d m f) (mulD n d m f) p g = mulN n d (mulN m f p g) (mulD m f p g) ∧ mulD (mulN n d m f) (mulD n d m f) p g = mulD n d (mulN m f p g) (mulD m f p g) := by
  have c1 := low_cross (n * m) (Int.mul_pos hd hf)
  have c2 := low_cross (m * p) (Int.mul_pos hf hg)
  have hb := mulD_pos n m hd hf
  have hr := mulD_pos m p hf hg
  change mulN n d m f * (d * f) = (n * m) * mulD n d m f at c1
  change mulN m f p g * (f * g) = (m * p) * mulD m f p g at c2
  generalize mulN n d m f = a at c1 ⊢
  generalize mulD n d m f = b at c1 hb ⊢
  generalize mulN m f p g = q at c2 ⊢
  generalize mulD m f p g = r at c2 hr ⊢
  unfold mulN mulD
  refine low_eq (Int.mul_pos hb hg) (Int.mul_pos hd hr) ?_
  refine Int.eq_of_mul_eq_mul_right (a := f) (by omega) ?_
  have e1 := congrArg (· * (p * r)) c1
  have e2 := congrArg (· * (n * b)) c2
  simp only [Int.mul_comm, Int.mul_left_comm] at e1 e2 ⊢
  omega
theorem mul_over (n m p : Int) {d f g : Int} (hd : 0 < d) (hf : 0 < f) (hg : 0 < g) :
    mulN (addN n d m f) (addD n d m f) p g = addN (mulN n d p g) (mulD n d p g) (mulN m f p g) (mulD m f p g) ∧ mulD (addN n d m f) (addD n d m f) p g = addD (mulN n d p g) (mulD n d p g) (mulN m f p g) (mulD m f p g) := by
  have c1 := low_cross (n * f + m * d) (Int.mul_pos hd hf)
  have c2 := low_cross (n * p) (Int.mul_pos hd hg)
  have c3 := low_cross (m * p) (Int.mul_pos hf hg)
  have hb := addD_pos n m hd hf
  have hr := mulD_pos n p hd hg
  have hv := mulD_pos m p hf hg
  change addN n d m f * (d * f) = (n * f + m * d) * addD n d m f at c1
  change mulN n d p g * (d * g) = (n * p) * mulD n d p g at c2
  change mulN m f p g * (f * g) = (m * p) * mulD m f p g at c3
  generalize addN n d m f = a at c1 ⊢
  generalize addD n d m f = b at c1 hb ⊢
  generalize mulN n d p g = q at c2 ⊢
  generalize mulD n d p g = r at c2 hr ⊢
  generalize mulN m f p g = u at c3 ⊢
  generalize mulD m f p g = v at c3 hv ⊢
  show lowN (a * p) (b * g) = lowN (q * v + u * r) (r * v) ∧ lowD (a * p) (b * g) = lowD (q * v + u * r) (r * v)
  refine low_eq (Int.mul_pos hb hg) (Int.mul_pos hr hv) ?_
  refine Int.eq_of_mul_eq_mul_right (a := d * f) (by have := Int.mul_pos hd hf; omega) ?_
  have e1 := congrArg (· * (p * (r * v))) c1
  have e2 := congrArg (· * (v * (b * f))) c2
  have e3 := congrArg (· * (r * (b * d))) c3
  simp only [Int.mul_add, Int.mul_comm, Int.mul_left_comm] at e1 e2 e3 ⊢
  omega
theorem sub_back {n d m f : Int} (f1 : Fine n d) (f2 : Fine m f) : subN (addN n d m f) (addD n d m f) m f = n ∧ subD (addN n d m f) (addD n d m f) m f = d := by
  have c1 := low_cross (n * f + m * d) (Int.mul_pos f1.pos f2.pos)
  have hb := addD_pos n m f1.pos f2.pos
  have hd := f1.pos
  have hf := f2.pos
  change addN n d m f * (d * f) = (n * f + m * d) * addD n d m f at c1
  generalize addN n d m f = a at c1 ⊢
  generalize addD n d m f = b at c1 hb ⊢
  unfold subN subD
  refine low_is (Int.mul_pos hb hf) hd f1.low ?_
  simp only [Int.mul_add, Int.mul_sub, Int.mul_comm, Int.mul_left_comm] at c1 ⊢
  omega
theorem quo_back {n d m f : Int} (f1 : Fine n d) (f2 : Fine m f) (hm : m ≠ 0) : quoN (mulN n d m f) (mulD n d m f) m f = n ∧ quoD (mulN n d m f) (mulD n d m f) m f = d := by
  have c1 := low_cross (n * m) (Int.mul_pos f1.pos f2.pos)
  have hb := mulD_pos n m f1.pos f2.pos
  have hd := f1.pos
  have hf := f2.pos
  change mulN n d m f * (d * f) = (n * m) * mulD n d m f at c1
  generalize mulN n d m f = a at c1 ⊢
  generalize mulD n d m f = b at c1 hb ⊢
  unfold quoN quoD
  rcases Int.lt_or_gt_of_ne hm with h | h
  · -- a divisor below nought: both are turned
    have e1 : lowN (a * f) (b * m) = lowN (-(a * f)) (-(b * m)) ∧ lowD (a * f) (b * m) = lowD (-(a * f)) (-(b * m)) := by
      have hn : b * m < 0 := Int.mul_neg_of_pos_of_neg hb h
      unfold lowN lowD
      have eg : gcdZ (-(a * f)) (-(b * m)) = gcdZ (a * f) (b * m) := by unfold gcdZ; rw [Int.natAbs_neg, Int.natAbs_neg]
      rw [if_pos hn, if_pos hn, if_neg (by omega), if_neg (by omega), eg, Int.neg_tdiv, Int.neg_tdiv]
      exact ⟨rfl, rfl⟩
    rw [e1.1, e1.2]
    refine low_is (by have := Int.mul_neg_of_pos_of_neg hb h; omega) hd f1.low ?_
    simp only [Int.mul_neg, Int.mul_comm, Int.mul_left_comm] at c1 ⊢
    omega
  · refine low_is (Int.mul_pos hb h) hd f1.low ?_
    simp only [Int.mul_comm, Int.mul_left_comm] at c1 ⊢
    omega
/- Add, Sub, Mul, Quo of package frac. (Written by wip/frac/genfclos2.py.) -/

structure AlwaysAt (f : FuncId) (u : Value) (V : World) : Prop where
  form : ∃ g, u = .func (.func 42) #[] #[.pointer (some ⟨g, 0, none⟩)] ∧ Blk V g 47 #[.func (.func f) #[] #[]]
theorem AlwaysAt.kept {f : FuncId} {u : Value} {V V' : World} {B : Nat} {Ts : List TypeId} (h : AlwaysAt f u V) (k : KeptV B Ts V V') (hT : 47 ∉ Ts) : AlwaysAt f u V' := by
  obtain ⟨g, h1, h2⟩ := h.form
  exact ⟨g, h1, k.blk h2 hT⟩
structure TupF (base : Nat) (n d k : Int) (u : Value) (V : World) : Prop where
  form : ∃ v, u = .tuple #[v, .int .i64 k] ∧ FracOwn V base v n d
theorem TupF.kept {base : Nat} {n d k : Int} {u : Value} {V V' : World} {B : Nat} {Ts : List TypeId} (h : TupF base n d k u V) (hk : KeptV B Ts V V') (hT : 59 ∉ Ts) : TupF base n d k u V' := by
  obtain ⟨v, h1, h2⟩ := h.form
  exact ⟨v, h1, h2.kept hk hT⟩
theorem FracIn.nought (w : World) (base : Nat) : FracIn w base (.agg #[.bool false, .slice none 0 0, .bool false, .slice none 0 0]) 0 0 := ⟨none, 0, none, 0, rfl, IntOwn.nought _ _, IntOwn.nought _ _⟩
structure BlkH (w : World) (g : Nat) (t : TypeId) (cs : Array Value) : Prop where
  blk : Blk w g t cs
theorem BlkH.below {w w' : World} {g : Nat} {t : TypeId} {cs : Array Value} (h : BlkH w g t cs) (hb : Below w.heap.size w w') : BlkH w' g t cs := ⟨h.blk.below hb h.blk.lt⟩

theorem do_bad (fv : Value) (n1 n2 n3 n4 : Bool) (A B A2 B2 : Option Addr) (c e0 c2 e2 : Nat) (xs ys us vs : List Nat) (w : World) (hx : Raw w A c xs) (kx : Raw w B e0 ys) (hy : Raw w A2 c2 us) (ky : Raw w B2 e2 vs) (hc : (chkE n1 n2 xs ys == 0 && chkE n3 n4 us vs == 0) = false) :
    Calls Tryd.prog 26 #[fv, .agg #[.bool n1, .slice A xs.length c, .bool n2, .slice B ys.length e0], .agg #[.bool n3, .slice A2 us.length c2, .bool n4, .slice B2 vs.length e2]] w (RetFracOwn2 w.heap.size w 0 0 1) := by
  have C1 := fun (V : World) (g' : Nat) (a1 : Raw V A c xs) (a2 : Raw V B e0 ys) (a3 : Raw V A2 c2 us) (a4 : Raw V B2 e2 vs) (hg : V.heap.size = g') => checks_two n1 n2 n3 n4 A B A2 B2 c e0 c2 e2 xs ys us vs V g' a1 a2 a3 a4 hg
  rw [hc] at C1
  have H1 := Hd C1
  clear C1
  clear hc
  have b0 := ((((Below.refl w.heap.size w).alloc (Nat.le_refl _) (.cells #[.bool n1, .slice A xs.length c, .bool n2, .slice B ys.length e0] 26)).alloc (by simp) (.cells #[.bool n3, .slice A2 us.length c2, .bool n4, .slice B2 vs.length e2] 26)).alloc (by simp; omega) (.cells #[.bool false, .slice none 0 0, .bool false, .slice none 0 0] 26))
  have p0 := ((Quad.new w (.bool n1) (.slice A xs.length c) (.bool n2) (.slice B ys.length e0)).alloc (.cells #[.bool n3, .slice A2 us.length c2, .bool n4, .slice B2 vs.length e2] 26)).alloc (.cells #[.bool false, .slice none 0 0, .bool false, .slice none 0 0] 26)
  have p1 := (Quad.new (w.alloc (.cells #[.bool n1, .slice A xs.length c, .bool n2, .slice B ys.length e0] 26)) (.bool n3) (.slice A2 us.length c2) (.bool n4) (.slice B2 vs.length e2)).alloc (.cells #[.bool false, .slice none 0 0, .bool false, .slice none 0 0] 26)
  have p2 := Quad.new ((w.alloc (.cells #[.bool n1, .slice A xs.length c, .bool n2, .slice B ys.length e0] 26)).alloc (.cells #[.bool n3, .slice A2 us.length c2, .bool n4, .slice B2 vs.length e2] 26)) (.bool false) (.slice none 0 0) (.bool false) (.slice none 0 0)
  simp only [World.size_alloc] at p1 p2
  have PX := Hd p0
  have PY := Hd p1
  have PR := Hd p2
  have RX := Hd (hx.below b0)
  have KX := Hd (kx.below b0)
  have RY := Hd (hy.below b0)
  have KY := Hd (ky.below b0)
  have HB := Hd b0
  clear b0 p0 p1 p2 hx kx hy ky
  go_enter Tryd.func26, Tryd.ntmps26
  obtain ⟨W, E⟩ : ∃ W, W = (((w.alloc (.cells #[.bool n1, .slice A xs.length c, .bool n2, .slice B ys.length e0] 26)).alloc (.cells #[.bool n3, .slice A2 us.length c2, .bool n4, .slice B2 vs.length e2] 26)).alloc (.cells #[.bool false, .slice none 0 0, .bool false, .slice none 0 0] 26)) := ⟨_, rfl⟩
  go_upto_region 1 with fail
  rw [← E] at PX PY PR RX KX RY KY  HB ⊢
  clear E
  have HS0 := Hd (show w.heap.size ≤ W.heap.size from HB.out.size)
  obtain ⟨l_x, x0, x1, x2, x3, -, -, -, -⟩ := PX.out.facts
  obtain ⟨l_y, y0, y1, y2, y3, -, -, -, -⟩ := PY.out.facts
  go_wp2_with fail
  refine (H1.out W _ RX.out KX.out RY.out KY.out rfl).mono ?_
  rintro e wx1 ⟨rfl, hb⟩
  clear l_x x0 x1 x2 x3
  clear l_y y0 y1 y2 y3
  have hb := ((Below.refl W.heap.size W).alloc (Nat.le_refl _) (.cells #[.bool n1, .slice A xs.length c, .bool n2, .slice B ys.length e0, .bool n3, .slice A2 us.length c2, .bool n4, .slice B2 vs.length e2] 26)).trans (hb.mono (by simp))
  have HS_wx1 := Hd (show W.heap.size ≤ wx1.heap.size from hb.size)
  have PX := Hd (PX.out.below hb)
  have PY := Hd (PY.out.below hb)
  have PR := Hd (PR.out.below hb)
  have RX := Hd (RX.out.below hb)
  have KX := Hd (KX.out.below hb)
  have RY := Hd (RY.out.below hb)
  have KY := Hd (KY.out.below hb)
  have HB := Hd (belowTo HB.out hb)
  obtain ⟨l_x, x0, x1, x2, x3, -, -, -, -⟩ := PX.out.facts
  obtain ⟨l_r, r0, r1, r2, r3, fr0, fr1, fr2, fr3⟩ := PR.out.facts
  have HQ := Hd (PR.out.store (.bool false) (.slice none 0 0) (.bool false) (.slice none 0 0))
  have HF := Hd (below4 HB.out (show w.heap.size ≤ w.heap.size + 1 + 1 by omega) (.bool false) (.slice none 0 0) (.bool false) (.slice none 0 0))
  go_wp2_with fail
  obtain ⟨_, k0, k1, k2, k3, _⟩ := HQ.out.facts
  exact bodyPost_ret (by simp [results, Tryd.results26, go_sem, k0, k1, k2, k3]) rfl ⟨_, rfl, FracOwn.nought _ _, HF.out⟩

theorem always_any (k : FuncId) (w : World) : Calls Tryd.prog 24 #[.func (.func k) #[] #[]] w fun e w' => ∃ v, e = .returned v ∧ AlwaysAt k v w' ∧ Below w.heap.size w w' := by
  have b0 := Hd ((Below.refl w.heap.size w).alloc (Nat.le_refl _) (.cells #[.func (.func k) #[] #[]] 47))
  have pb := Hd (Blk.new w 47 #[.func (.func k) #[] #[]])
  have hmf : ∀ (fn : Fn) (first cap : Array Value) (w : World), (Instr.makeFunc fn first cap).run Tryd.prog w = .ok (.func fn first cap) w := fun _ _ _ _ => rfl
  go_enter Tryd.func24, Tryd.ntmps24
  go_wp2_with fail
  go_ret
  exact ⟨_, rfl, ⟨_, rfl, pb.out⟩, b0.out⟩

theorem clos_add (n1 n2 n3 n4 : Bool) (A B A2 B2 : Option Addr) (c e0 c2 e2 : Nat) (xs ys us vs : List Nat) (N D : Int) (C : ∀ (V : World), Raw V A c xs → Raw V B e0 ys → Raw V A2 c2 us → Raw V B2 e2 vs → Calls Tryd.prog 29 #[.agg #[.bool n1, .slice A xs.length c, .bool n2, .slice B ys.length e0], .agg #[.bool n3, .slice A2 us.length c2, .bool n4, .slice B2 vs.length e2]] V (RetFracIn V N D)) (g : Nat) (w : World) (hg : Blk w g 47 #[.func (.func 29) #[] #[]]) (hx : Raw w A c xs) (kx : Raw w B e0 ys) (hy : Raw w A2 c2 us) (ky : Raw w B2 e2 vs) :
    Calls Tryd.prog 42 #[.agg #[.bool n1, .slice A xs.length c, .bool n2, .slice B ys.length e0], .agg #[.bool n3, .slice A2 us.length c2, .bool n4, .slice B2 vs.length e2], .pointer (some ⟨g, 0, none⟩)] w (RetFracB w N D true) := by
  have H2 := Hd C
  clear C
  have b0 := ((((Below.refl w.heap.size w).alloc (Nat.le_refl _) (.cells #[.bool n1, .slice A xs.length c, .bool n2, .slice B ys.length e0] 26)).alloc (by simp) (.cells #[.bool n3, .slice A2 us.length c2, .bool n4, .slice B2 vs.length e2] 26)).alloc (by simp; omega) (.cells #[.bool false, .slice none 0 0, .bool false, .slice none 0 0] 26))
  have p0 := ((Quad.new w (.bool n1) (.slice A xs.length c) (.bool n2) (.slice B ys.length e0)).alloc (.cells #[.bool n3, .slice A2 us.length c2, .bool n4, .slice B2 vs.length e2] 26)).alloc (.cells #[.bool false, .slice none 0 0, .bool false, .slice none 0 0] 26)
  have p1 := (Quad.new (w.alloc (.cells #[.bool n1, .slice A xs.length c, .bool n2, .slice B ys.length e0] 26)) (.bool n3) (.slice A2 us.length c2) (.bool n4) (.slice B2 vs.length e2)).alloc (.cells #[.bool false, .slice none 0 0, .bool false, .slice none 0 0] 26)
  have p2 := Quad.new ((w.alloc (.cells #[.bool n1, .slice A xs.length c, .bool n2, .slice B ys.length e0] 26)).alloc (.cells #[.bool n3, .slice A2 us.length c2, .bool n4, .slice B2 vs.length e2] 26)) (.bool false) (.slice none 0 0) (.bool false) (.slice none 0 0)
  simp only [World.size_alloc] at p1 p2
  have PX := Hd p0
  have PY := Hd p1
  have PR := Hd p2
  have RX := Hd (hx.below b0)
  have KX := Hd (kx.below b0)
  have RY := Hd (hy.below b0)
  have KY := Hd (ky.below b0)
  have PG := Hd (hg.below b0 hg.lt)
  have HB := Hd b0
  clear b0 p0 p1 p2 hx kx hy ky hg
  go_enter Tryd.func42, Tryd.ntmps42
  obtain ⟨W, E⟩ : ∃ W, W = (((w.alloc (.cells #[.bool n1, .slice A xs.length c, .bool n2, .slice B ys.length e0] 26)).alloc (.cells #[.bool n3, .slice A2 us.length c2, .bool n4, .slice B2 vs.length e2] 26)).alloc (.cells #[.bool false, .slice none 0 0, .bool false, .slice none 0 0] 26)) := ⟨_, rfl⟩
  go_upto_region 1 with fail
  rw [← E] at PX PY PR RX KX RY KY PG HB ⊢
  clear E
  have HS0 := Hd (show w.heap.size ≤ W.heap.size from HB.out.size)
  obtain ⟨l_x, x0, x1, x2, x3, -, -, -, -⟩ := PX.out.facts
  obtain ⟨l_y, y0, y1, y2, y3, -, -, -, -⟩ := PY.out.facts
  have g0 := PG.out.cell 0
  simp at g0
  go_wp2_with fail
  refine (H2.out W RX.out KX.out RY.out KY.out).mono ?_
  rintro e wx1 ⟨v, rfl, hI, hb⟩
  clear l_x x0 x1 x2 x3
  clear l_y y0 y1 y2 y3
  clear g0
  obtain ⟨A7, c7, B7, e7, rfl, -⟩ := hI.form
  have O7 := Hd hI
  clear hI
  have HS_wx1 := Hd (show W.heap.size ≤ wx1.heap.size from hb.size)
  have PX := Hd (PX.out.below hb)
  have PY := Hd (PY.out.below hb)
  have PR := Hd (PR.out.below hb)
  have RX := Hd (RX.out.below hb)
  have KX := Hd (KX.out.below hb)
  have RY := Hd (RY.out.below hb)
  have KY := Hd (KY.out.below hb)
  have HB := Hd (belowTo HB.out hb)
  obtain ⟨l_r, r0, r1, r2, r3, fr0, fr1, fr2, fr3⟩ := PR.out.facts
  have HQ := Hd (PR.out.store (.bool (decide (N < 0))) (.slice A7 (natL N.natAbs).length c7) (.bool (decide (D < 0))) (.slice B7 (natL D.natAbs).length e7))
  have HF := Hd (below4 HB.out (show w.heap.size ≤ w.heap.size + 1 + 1 by omega) (.bool (decide (N < 0))) (.slice A7 (natL N.natAbs).length c7) (.bool (decide (D < 0))) (.slice B7 (natL D.natAbs).length e7))
  have HO := Hd (O7.out.quad PR.out (.bool (decide (N < 0))) (.slice A7 (natL N.natAbs).length c7) (.bool (decide (D < 0))) (.slice B7 (natL D.natAbs).length e7))
  go_wp2_with fail
  obtain ⟨_, k0, k1, k2, k3, _⟩ := HQ.out.facts
  exact bodyPost_ret (by simp [results, Tryd.results42, go_sem, k0, k1, k2, k3]) rfl ⟨_, rfl, HO.out, HF.out⟩

theorem clos_sub (n1 n2 n3 n4 : Bool) (A B A2 B2 : Option Addr) (c e0 c2 e2 : Nat) (xs ys us vs : List Nat) (N D : Int) (C : ∀ (V : World), Raw V A c xs → Raw V B e0 ys → Raw V A2 c2 us → Raw V B2 e2 vs → Calls Tryd.prog 25 #[.agg #[.bool n1, .slice A xs.length c, .bool n2, .slice B ys.length e0], .agg #[.bool n3, .slice A2 us.length c2, .bool n4, .slice B2 vs.length e2]] V (RetFracIn V N D)) (g : Nat) (w : World) (hg : Blk w g 47 #[.func (.func 25) #[] #[]]) (hx : Raw w A c xs) (kx : Raw w B e0 ys) (hy : Raw w A2 c2 us) (ky : Raw w B2 e2 vs) :
    Calls Tryd.prog 42 #[.agg #[.bool n1, .slice A xs.length c, .bool n2, .slice B ys.length e0], .agg #[.bool n3, .slice A2 us.length c2, .bool n4, .slice B2 vs.length e2], .pointer (some ⟨g, 0, none⟩)] w (RetFracB w N D true) := by
  have H2 := Hd C
  clear C
  have b0 := ((((Below.refl w.heap.size w).alloc (Nat.le_refl _) (.cells #[.bool n1, .slice A xs.length c, .bool n2, .slice B ys.length e0] 26)).alloc (by simp) (.cells #[.bool n3, .slice A2 us.length c2, .bool n4, .slice B2 vs.length e2] 26)).alloc (by simp; omega) (.cells #[.bool false, .slice none 0 0, .bool false, .slice none 0 0] 26))
  have p0 := ((Quad.new w (.bool n1) (.slice A xs.length c) (.bool n2) (.slice B ys.length e0)).alloc (.cells #[.bool n3, .slice A2 us.length c2, .bool n4, .slice B2 vs.length e2] 26)).alloc (.cells #[.bool false, .slice none 0 0, .bool false, .slice none 0 0] 26)
  have p1 := (Quad.new (w.alloc (.cells #[.bool n1, .slice A xs.length c, .bool n2, .slice B ys.length e0] 26)) (.bool n3) (.slice A2 us.length c2) (.bool n4) (.slice B2 vs.length e2)).alloc (.cells #[.bool false, .slice none 0 0, .bool false, .slice none 0 0] 26)
  have p2 := Quad.new ((w.alloc (.cells #[.bool n1, .slice A xs.length c, .bool n2, .slice B ys.length e0] 26)).alloc (.cells #[.bool n3, .slice A2 us.length c2, .bool n4, .slice B2 vs.length e2] 26)) (.bool false) (.slice none 0 0) (.bool false) (.slice none 0 0)
  simp only [World.size_alloc] at p1 p2
  have PX := Hd p0
  have PY := Hd p1
  have PR := Hd p2
  have RX := Hd (hx.below b0)
  have KX := Hd (kx.below b0)
  have RY := Hd (hy.below b0)
  have KY := Hd (ky.below b0)
  have PG := Hd (hg.below b0 hg.lt)
  have HB := Hd b0
  clear b0 p0 p1 p2 hx kx hy ky hg
  go_enter Tryd.func42, Tryd.ntmps42
  obtain ⟨W, E⟩ : ∃ W, W = (((w.alloc (.cells #[.bool n1, .slice A xs.length c, .bool n2, .slice B ys.length e0] 26)).alloc (.cells #[.bool n3, .slice A2 us.length c2, .bool n4, .slice B2 vs.length e2] 26)).alloc (.cells #[.bool false, .slice none 0 0, .bool false, .slice none 0 0] 26)) := ⟨_, rfl⟩
  go_upto_region 1 with fail
  rw [← E] at PX PY PR RX KX RY KY PG HB ⊢
  clear E
  have HS0 := Hd (show w.heap.size ≤ W.heap.size from HB.out.size)
  obtain ⟨l_x, x0, x1, x2, x3, -, -, -, -⟩ := PX.out.facts
  obtain ⟨l_y, y0, y1, y2, y3, -, -, -, -⟩ := PY.out.facts
  have g0 := PG.out.cell 0
  simp at g0
  go_wp2_with fail
  refine (H2.out W RX.out KX.out RY.out KY.out).mono ?_
  rintro e wx1 ⟨v, rfl, hI, hb⟩
  clear l_x x0 x1 x2 x3
  clear l_y y0 y1 y2 y3
  clear g0
  obtain ⟨A7, c7, B7, e7, rfl, -⟩ := hI.form
  have O7 := Hd hI
  clear hI
  have HS_wx1 := Hd (show W.heap.size ≤ wx1.heap.size from hb.size)
  have PX := Hd (PX.out.below hb)
  have PY := Hd (PY.out.below hb)
  have PR := Hd (PR.out.below hb)
  have RX := Hd (RX.out.below hb)
  have KX := Hd (KX.out.below hb)
  have RY := Hd (RY.out.below hb)
  have KY := Hd (KY.out.below hb)
  have HB := Hd (belowTo HB.out hb)
  obtain ⟨l_r, r0, r1, r2, r3, fr0, fr1, fr2, fr3⟩ := PR.out.facts
  have HQ := Hd (PR.out.store (.bool (decide (N < 0))) (.slice A7 (natL N.natAbs).length c7) (.bool (decide (D < 0))) (.slice B7 (natL D.natAbs).length e7))
  have HF := Hd (below4 HB.out (show w.heap.size ≤ w.heap.size + 1 + 1 by omega) (.bool (decide (N < 0))) (.slice A7 (natL N.natAbs).length c7) (.bool (decide (D < 0))) (.slice B7 (natL D.natAbs).length e7))
  have HO := Hd (O7.out.quad PR.out (.bool (decide (N < 0))) (.slice A7 (natL N.natAbs).length c7) (.bool (decide (D < 0))) (.slice B7 (natL D.natAbs).length e7))
  go_wp2_with fail
  obtain ⟨_, k0, k1, k2, k3, _⟩ := HQ.out.facts
  exact bodyPost_ret (by simp [results, Tryd.results42, go_sem, k0, k1, k2, k3]) rfl ⟨_, rfl, HO.out, HF.out⟩

theorem clos_mul (n1 n2 n3 n4 : Bool) (A B A2 B2 : Option Addr) (c e0 c2 e2 : Nat) (xs ys us vs : List Nat) (N D : Int) (C : ∀ (V : World), Raw V A c xs → Raw V B e0 ys → Raw V A2 c2 us → Raw V B2 e2 vs → Calls Tryd.prog 30 #[.agg #[.bool n1, .slice A xs.length c, .bool n2, .slice B ys.length e0], .agg #[.bool n3, .slice A2 us.length c2, .bool n4, .slice B2 vs.length e2]] V (RetFracIn V N D)) (g : Nat) (w : World) (hg : Blk w g 47 #[.func (.func 30) #[] #[]]) (hx : Raw w A c xs) (kx : Raw w B e0 ys) (hy : Raw w A2 c2 us) (ky : Raw w B2 e2 vs) :
    Calls Tryd.prog 42 #[.agg #[.bool n1, .slice A xs.length c, .bool n2, .slice B ys.length e0], .agg #[.bool n3, .slice A2 us.length c2, .bool n4, .slice B2 vs.length e2], .pointer (some ⟨g, 0, none⟩)] w (RetFracB w N D true) := by
  have H2 := Hd C
  clear C
  have b0 := ((((Below.refl w.heap.size w).alloc (Nat.le_refl _) (.cells #[.bool n1, .slice A xs.length c, .bool n2, .slice B ys.length e0] 26)).alloc (by simp) (.cells #[.bool n3, .slice A2 us.length c2, .bool n4, .slice B2 vs.length e2] 26)).alloc (by simp; omega) (.cells #[.bool false, .slice none 0 0, .bool false, .slice none 0 0] 26))
  have p0 := ((Quad.new w (.bool n1) (.slice A xs.length c) (.bool n2) (.slice B ys.length e0)).alloc (.cells #[.bool n3, .slice A2 us.length c2, .bool n4, .slice B2 vs.length e2] 26)).alloc (.cells #[.bool false, .slice none 0 0, .bool false, .slice none 0 0] 26)
  have p1 := (Quad.new (w.alloc (.cells #[.bool n1, .slice A xs.length c, .bool n2, .slice B ys.length e0] 26)) (.bool n3) (.slice A2 us.length c2) (.bool n4) (.slice B2 vs.length e2)).alloc (.cells #[.bool false, .slice none 0 0, .bool false, .slice none 0 0] 26)
  have p2 := Quad.new ((w.alloc (.cells #[.bool n1, .slice A xs.length c, .bool n2, .slice B ys.length e0] 26)).alloc (.cells #[.bool n3, .slice A2 us.length c2, .bool n4, .slice B2 vs.length e2] 26)) (.bool false) (.slice none 0 0) (.bool false) (.slice none 0 0)
  simp only [World.size_alloc] at p1 p2
  have PX := Hd p0
  have PY := Hd p1
  have PR := Hd p2
  have RX := Hd (hx.below b0)
  have KX := Hd (kx.below b0)
  have RY := Hd (hy.below b0)
  have KY := Hd (ky.below b0)
  have PG := Hd (hg.below b0 hg.lt)
  have HB := Hd b0
  clear b0 p0 p1 p2 hx kx hy ky hg
  go_enter Tryd.func42, Tryd.ntmps42
  obtain ⟨W, E⟩ : ∃ W, W = (((w.alloc (.cells #[.bool n1, .slice A xs.length c, .bool n2, .slice B ys.length e0] 26)).alloc (.cells #[.bool n3, .slice A2 us.length c2, .bool n4, .slice B2 vs.length e2] 26)).alloc (.cells #[.bool false, .slice none 0 0, .bool false, .slice none 0 0] 26)) := ⟨_, rfl⟩
  go_upto_region 1 with fail
  rw [← E] at PX PY PR RX KX RY KY PG HB ⊢
  clear E
  have HS0 := Hd (show w.heap.size ≤ W.heap.size from HB.out.size)
  obtain ⟨l_x, x0, x1, x2, x3, -, -, -, -⟩ := PX.out.facts
  obtain ⟨l_y, y0, y1, y2, y3, -, -, -, -⟩ := PY.out.facts
  have g0 := PG.out.cell 0
  simp at g0
  go_wp2_with fail
  refine (H2.out W RX.out KX.out RY.out KY.out).mono ?_
  rintro e wx1 ⟨v, rfl, hI, hb⟩
  clear l_x x0 x1 x2 x3
  clear l_y y0 y1 y2 y3
  clear g0
  obtain ⟨A7, c7, B7, e7, rfl, -⟩ := hI.form
  have O7 := Hd hI
  clear hI
  have HS_wx1 := Hd (show W.heap.size ≤ wx1.heap.size from hb.size)
  have PX := Hd (PX.out.below hb)
  have PY := Hd (PY.out.below hb)
  have PR := Hd (PR.out.below hb)
  have RX := Hd (RX.out.below hb)
  have KX := Hd (KX.out.below hb)
  have RY := Hd (RY.out.below hb)
  have KY := Hd (KY.out.below hb)
  have HB := Hd (belowTo HB.out hb)
  obtain ⟨l_r, r0, r1, r2, r3, fr0, fr1, fr2, fr3⟩ := PR.out.facts
  have HQ := Hd (PR.out.store (.bool (decide (N < 0))) (.slice A7 (natL N.natAbs).length c7) (.bool (decide (D < 0))) (.slice B7 (natL D.natAbs).length e7))
  have HF := Hd (below4 HB.out (show w.heap.size ≤ w.heap.size + 1 + 1 by omega) (.bool (decide (N < 0))) (.slice A7 (natL N.natAbs).length c7) (.bool (decide (D < 0))) (.slice B7 (natL D.natAbs).length e7))
  have HO := Hd (O7.out.quad PR.out (.bool (decide (N < 0))) (.slice A7 (natL N.natAbs).length c7) (.bool (decide (D < 0))) (.slice B7 (natL D.natAbs).length e7))
  go_wp2_with fail
  obtain ⟨_, k0, k1, k2, k3, _⟩ := HQ.out.facts
  exact bodyPost_ret (by simp [results, Tryd.results42, go_sem, k0, k1, k2, k3]) rfl ⟨_, rfl, HO.out, HF.out⟩

theorem do_always (k : FuncId) (g : Nat) (n1 n2 n3 n4 : Bool) (A B A2 B2 : Option Addr) (c e0 c2 e2 : Nat) (xs ys us vs : List Nat) (N D : Int) (C : ∀ (V : World), Blk V g 47 #[.func (.func k) #[] #[]] → Raw V A c xs → Raw V B e0 ys → Raw V A2 c2 us → Raw V B2 e2 vs → Calls Tryd.prog 42 #[.agg #[.bool n1, .slice A xs.length c, .bool n2, .slice B ys.length e0], .agg #[.bool n3, .slice A2 us.length c2, .bool n4, .slice B2 vs.length e2], .pointer (some ⟨g, 0, none⟩)] V (RetFracB V N D true)) (w : World) (hx : Raw w A c xs) (kx : Raw w B e0 ys) (hy : Raw w A2 c2 us) (ky : Raw w B2 e2 vs) (hc : (chkE n1 n2 xs ys == 0 && chkE n3 n4 us vs == 0) = true) (hg : Blk w g 47 #[.func (.func k) #[] #[]]) :
    Calls Tryd.prog 26 #[.func (.func 42) #[] #[.pointer (some ⟨g, 0, none⟩)], .agg #[.bool n1, .slice A xs.length c, .bool n2, .slice B ys.length e0], .agg #[.bool n3, .slice A2 us.length c2, .bool n4, .slice B2 vs.length e2]] w (RetFracOwn2 w.heap.size w (ansN N D) (ansD N D) (ansK N D)) := by
  have C1 := fun (V : World) (g' : Nat) (a1 : Raw V A c xs) (a2 : Raw V B e0 ys) (a3 : Raw V A2 c2 us) (a4 : Raw V B2 e2 vs) (hg : V.heap.size = g') => checks_two n1 n2 n3 n4 A B A2 B2 c e0 c2 e2 xs ys us vs V g' a1 a2 a3 a4 hg
  rw [hc] at C1
  have H1 := Hd C1
  clear C1
  have C3 := fun (V : World) (A' B' : Option Addr) (c' e' : Nat) (h : Raw V A' c' (natL N.natAbs)) (g : Raw V B' e' (natL D.natAbs)) => frac_answered N D A' B' c' e' V h g
  obtain ⟨N9, hN9⟩ : ∃ k : Int, k = ansN N D := ⟨_, rfl⟩
  obtain ⟨D9, hD9⟩ : ∃ k : Int, k = ansD N D := ⟨_, rfl⟩
  obtain ⟨K9, hK9⟩ : ∃ k : Int, k = ansK N D := ⟨_, rfl⟩
  rw [← hN9, ← hD9, ← hK9] at C3 ⊢
  have H3 := Hd C3
  clear hN9 hD9 hK9 C3
  have H2 := Hd C
  clear C hc
  have b0 := ((((Below.refl w.heap.size w).alloc (Nat.le_refl _) (.cells #[.bool n1, .slice A xs.length c, .bool n2, .slice B ys.length e0] 26)).alloc (by simp) (.cells #[.bool n3, .slice A2 us.length c2, .bool n4, .slice B2 vs.length e2] 26)).alloc (by simp; omega) (.cells #[.bool false, .slice none 0 0, .bool false, .slice none 0 0] 26))
  have p0 := ((Quad.new w (.bool n1) (.slice A xs.length c) (.bool n2) (.slice B ys.length e0)).alloc (.cells #[.bool n3, .slice A2 us.length c2, .bool n4, .slice B2 vs.length e2] 26)).alloc (.cells #[.bool false, .slice none 0 0, .bool false, .slice none 0 0] 26)
  have p1 := (Quad.new (w.alloc (.cells #[.bool n1, .slice A xs.length c, .bool n2, .slice B ys.length e0] 26)) (.bool n3) (.slice A2 us.length c2) (.bool n4) (.slice B2 vs.length e2)).alloc (.cells #[.bool false, .slice none 0 0, .bool false, .slice none 0 0] 26)
  have p2 := Quad.new ((w.alloc (.cells #[.bool n1, .slice A xs.length c, .bool n2, .slice B ys.length e0] 26)).alloc (.cells #[.bool n3, .slice A2 us.length c2, .bool n4, .slice B2 vs.length e2] 26)) (.bool false) (.slice none 0 0) (.bool false) (.slice none 0 0)
  simp only [World.size_alloc] at p1 p2
  have PX := Hd p0
  have PY := Hd p1
  have PR := Hd p2
  have RX := Hd (hx.below b0)
  have KX := Hd (kx.below b0)
  have RY := Hd (hy.below b0)
  have KY := Hd (ky.below b0)
  have PG := Hd (hg.below b0 hg.lt)
  have HB := Hd b0
  clear b0 p0 p1 p2 hx kx hy ky hg
  go_enter Tryd.func26, Tryd.ntmps26
  obtain ⟨W, E⟩ : ∃ W, W = (((w.alloc (.cells #[.bool n1, .slice A xs.length c, .bool n2, .slice B ys.length e0] 26)).alloc (.cells #[.bool n3, .slice A2 us.length c2, .bool n4, .slice B2 vs.length e2] 26)).alloc (.cells #[.bool false, .slice none 0 0, .bool false, .slice none 0 0] 26)) := ⟨_, rfl⟩
  go_upto_region 1 with fail
  rw [← E] at PX PY PR RX KX RY KY PG HB ⊢
  clear E
  have HS0 := Hd (show w.heap.size ≤ W.heap.size from HB.out.size)
  have PG := Hd (BlkH.mk PG.out)
  obtain ⟨l_x, x0, x1, x2, x3, -, -, -, -⟩ := PX.out.facts
  obtain ⟨l_y, y0, y1, y2, y3, -, -, -, -⟩ := PY.out.facts
  go_wp2_with fail
  refine (H1.out W _ RX.out KX.out RY.out KY.out rfl).mono ?_
  rintro e wx1 ⟨rfl, hb⟩
  clear l_x x0 x1 x2 x3
  clear l_y y0 y1 y2 y3
  have hb := ((Below.refl W.heap.size W).alloc (Nat.le_refl _) (.cells #[.bool n1, .slice A xs.length c, .bool n2, .slice B ys.length e0, .bool n3, .slice A2 us.length c2, .bool n4, .slice B2 vs.length e2] 26)).trans (hb.mono (by simp))
  have HS_wx1 := Hd (show W.heap.size ≤ wx1.heap.size from hb.size)
  have PX := Hd (PX.out.below hb)
  have PY := Hd (PY.out.below hb)
  have PR := Hd (PR.out.below hb)
  have RX := Hd (RX.out.below hb)
  have KX := Hd (KX.out.below hb)
  have RY := Hd (RY.out.below hb)
  have KY := Hd (KY.out.below hb)
  have PG := Hd (PG.out.below hb)
  have HB := Hd (belowTo HB.out hb)
  obtain ⟨l_x, x0, x1, x2, x3, -, -, -, -⟩ := PX.out.facts
  obtain ⟨l_y, y0, y1, y2, y3, -, -, -, -⟩ := PY.out.facts
  go_wp2_with fail
  refine (H2.out wx1 PG.out.blk RX.out KX.out RY.out KY.out).mono ?_
  rintro e wx2 ⟨v, rfl, hI, hb⟩
  clear l_x x0 x1 x2 x3
  clear l_y y0 y1 y2 y3
  obtain ⟨A7, c7, B7, e7, rfl, -⟩ := hI.form
  have O7 := Hd hI
  clear hI
  have HS_wx2 := Hd (show wx1.heap.size ≤ wx2.heap.size from hb.size)
  have PX := Hd (PX.out.below hb)
  have PY := Hd (PY.out.below hb)
  have PR := Hd (PR.out.below hb)
  have RX := Hd (RX.out.below hb)
  have KX := Hd (KX.out.below hb)
  have RY := Hd (RY.out.below hb)
  have KY := Hd (KY.out.below hb)
  have PG := Hd (PG.out.below hb)
  have HB := Hd (belowTo HB.out hb)
  have ha := (Below.refl wx2.heap.size wx2).alloc (Nat.le_refl _) (.cells #[.bool (decide (N < 0)), .slice A7 (natL N.natAbs).length c7, .bool (decide (D < 0)), .slice B7 (natL D.natAbs).length e7] 26)
  have hn := Quad.new wx2 (.bool (decide (N < 0))) (.slice A7 (natL N.natAbs).length c7) (.bool (decide (D < 0))) (.slice B7 (natL D.natAbs).length e7)
  have hz : (wx2.alloc (.cells #[.bool (decide (N < 0)), .slice A7 (natL N.natAbs).length c7, .bool (decide (D < 0)), .slice B7 (natL D.natAbs).length e7] 26)).heap.size = wx2.heap.size + 1 := by simp
  go_upto_region 4 with fail
  obtain ⟨wy3, E⟩ : ∃ W, W = wx2.alloc (.cells #[.bool (decide (N < 0)), .slice A7 (natL N.natAbs).length c7, .bool (decide (D < 0)), .slice B7 (natL D.natAbs).length e7] 26) := ⟨_, rfl⟩
  obtain ⟨q3, hq⟩ : ∃ q, q = wx2.heap.size := ⟨_, rfl⟩
  rw [← E] at ha
  rw [← E, ← hq] at hn hz ⊢
  have HZ_wy3 := Hd (And.intro hq hz)
  have P7 := Hd hn
  have PR := Hd (PR.out.below ha)
  have O7 := Hd (O7.out.below ha)
  have HB := Hd (belowTo HB.out ha)
  clear ha hn hz hq E
  have R7 := Hd O7.out.at_
  obtain ⟨A0, c0, B0, e9, he, r71, r72⟩ := R7.out.form
  simp only [Value.agg.injEq, Array.mk.injEq, List.cons.injEq, Value.slice.injEq, and_true, true_and] at he
  obtain ⟨⟨rfl, rfl⟩, rfl, rfl⟩ := he
  have R71 := Hd r71
  have R72 := Hd r72
  clear R7 r71 r72
  have hsy := Hd (show w.heap.size ≤ wy3.heap.size from HB.out.size)
  obtain ⟨l_z, z0, z1, z2, z3, -, -, -, -⟩ := P7.out.facts
  go_wp2_with fail
  refine (H3.out wy3 A7 B7 c7 e7 R71.out R72.out).mono ?_
  rintro e wx4 ⟨v, rfl, hI, hb⟩
  clear l_z z0 z1 z2 z3
  obtain ⟨A8, c8, B8, e8, rfl, -⟩ := hI.form
  have O8 := Hd hI
  clear hI R71 R72
  have HS_wx4 := Hd (show wy3.heap.size ≤ wx4.heap.size from hb.size)
  have PR := Hd (PR.out.below hb)
  have HB := Hd (belowTo HB.out hb)
  obtain ⟨l_r, r0, r1, r2, r3, fr0, fr1, fr2, fr3⟩ := PR.out.facts
  have HQ := Hd (PR.out.store (.bool (decide (N9 < 0))) (.slice A8 (natL N9.natAbs).length c8) (.bool (decide (D9 < 0))) (.slice B8 (natL D9.natAbs).length e8))
  have HF := Hd (below4 HB.out (show w.heap.size ≤ w.heap.size + 1 + 1 by omega) (.bool (decide (N9 < 0))) (.slice A8 (natL N9.natAbs).length c8) (.bool (decide (D9 < 0))) (.slice B8 (natL D9.natAbs).length e8))
  have HO := Hd (O8.out.quad PR.out (.bool (decide (N9 < 0))) (.slice A8 (natL N9.natAbs).length c8) (.bool (decide (D9 < 0))) (.slice B8 (natL D9.natAbs).length e8))
  go_wp2_with fail
  obtain ⟨_, k0, k1, k2, k3, _⟩ := HQ.out.facts
  exact bodyPost_ret (by simp [results, Tryd.results26, go_sem, k0, k1, k2, k3]) rfl ⟨_, rfl, HO.out.base hsy.out, HF.out⟩

theorem do_over (n1 n2 n3 n4 : Bool) (A B A2 B2 : Option Addr) (c e0 c2 e2 : Nat) (xs ys us vs : List Nat) (N D : Int) (C : ∀ (V : World), Raw V A c xs → Raw V B e0 ys → Raw V A2 c2 us → Raw V B2 e2 vs → Calls Tryd.prog 31 #[.agg #[.bool n1, .slice A xs.length c, .bool n2, .slice B ys.length e0], .agg #[.bool n3, .slice A2 us.length c2, .bool n4, .slice B2 vs.length e2]] V (RetFracB V N D true)) (w : World) (hx : Raw w A c xs) (kx : Raw w B e0 ys) (hy : Raw w A2 c2 us) (ky : Raw w B2 e2 vs) (hc : (chkE n1 n2 xs ys == 0 && chkE n3 n4 us vs == 0) = true) :
    Calls Tryd.prog 26 #[.func (.func 31) #[] #[], .agg #[.bool n1, .slice A xs.length c, .bool n2, .slice B ys.length e0], .agg #[.bool n3, .slice A2 us.length c2, .bool n4, .slice B2 vs.length e2]] w (RetFracOwn2 w.heap.size w (ansN N D) (ansD N D) (ansK N D)) := by
  have C1 := fun (V : World) (g' : Nat) (a1 : Raw V A c xs) (a2 : Raw V B e0 ys) (a3 : Raw V A2 c2 us) (a4 : Raw V B2 e2 vs) (hg : V.heap.size = g') => checks_two n1 n2 n3 n4 A B A2 B2 c e0 c2 e2 xs ys us vs V g' a1 a2 a3 a4 hg
  rw [hc] at C1
  have H1 := Hd C1
  clear C1
  have C3 := fun (V : World) (A' B' : Option Addr) (c' e' : Nat) (h : Raw V A' c' (natL N.natAbs)) (g : Raw V B' e' (natL D.natAbs)) => frac_answered N D A' B' c' e' V h g
  obtain ⟨N9, hN9⟩ : ∃ k : Int, k = ansN N D := ⟨_, rfl⟩
  obtain ⟨D9, hD9⟩ : ∃ k : Int, k = ansD N D := ⟨_, rfl⟩
  obtain ⟨K9, hK9⟩ : ∃ k : Int, k = ansK N D := ⟨_, rfl⟩
  rw [← hN9, ← hD9, ← hK9] at C3 ⊢
  have H3 := Hd C3
  clear hN9 hD9 hK9 C3
  have H2 := Hd C
  clear C hc
  have b0 := ((((Below.refl w.heap.size w).alloc (Nat.le_refl _) (.cells #[.bool n1, .slice A xs.length c, .bool n2, .slice B ys.length e0] 26)).alloc (by simp) (.cells #[.bool n3, .slice A2 us.length c2, .bool n4, .slice B2 vs.length e2] 26)).alloc (by simp; omega) (.cells #[.bool false, .slice none 0 0, .bool false, .slice none 0 0] 26))
  have p0 := ((Quad.new w (.bool n1) (.slice A xs.length c) (.bool n2) (.slice B ys.length e0)).alloc (.cells #[.bool n3, .slice A2 us.length c2, .bool n4, .slice B2 vs.length e2] 26)).alloc (.cells #[.bool false, .slice none 0 0, .bool false, .slice none 0 0] 26)
  have p1 := (Quad.new (w.alloc (.cells #[.bool n1, .slice A xs.length c, .bool n2, .slice B ys.length e0] 26)) (.bool n3) (.slice A2 us.length c2) (.bool n4) (.slice B2 vs.length e2)).alloc (.cells #[.bool false, .slice none 0 0, .bool false, .slice none 0 0] 26)
  have p2 := Quad.new ((w.alloc (.cells #[.bool n1, .slice A xs.length c, .bool n2, .slice B ys.length e0] 26)).alloc (.cells #[.bool n3, .slice A2 us.length c2, .bool n4, .slice B2 vs.length e2] 26)) (.bool false) (.slice none 0 0) (.bool false) (.slice none 0 0)
  simp only [World.size_alloc] at p1 p2
  have PX := Hd p0
  have PY := Hd p1
  have PR := Hd p2
  have RX := Hd (hx.below b0)
  have KX := Hd (kx.below b0)
  have RY := Hd (hy.below b0)
  have KY := Hd (ky.below b0)
  have HB := Hd b0
  clear b0 p0 p1 p2 hx kx hy ky
  go_enter Tryd.func26, Tryd.ntmps26
  obtain ⟨W, E⟩ : ∃ W, W = (((w.alloc (.cells #[.bool n1, .slice A xs.length c, .bool n2, .slice B ys.length e0] 26)).alloc (.cells #[.bool n3, .slice A2 us.length c2, .bool n4, .slice B2 vs.length e2] 26)).alloc (.cells #[.bool false, .slice none 0 0, .bool false, .slice none 0 0] 26)) := ⟨_, rfl⟩
  go_upto_region 1 with fail
  rw [← E] at PX PY PR RX KX RY KY  HB ⊢
  clear E
  have HS0 := Hd (show w.heap.size ≤ W.heap.size from HB.out.size)
  obtain ⟨l_x, x0, x1, x2, x3, -, -, -, -⟩ := PX.out.facts
  obtain ⟨l_y, y0, y1, y2, y3, -, -, -, -⟩ := PY.out.facts
  go_wp2_with fail
  refine (H1.out W _ RX.out KX.out RY.out KY.out rfl).mono ?_
  rintro e wx1 ⟨rfl, hb⟩
  clear l_x x0 x1 x2 x3
  clear l_y y0 y1 y2 y3
  have hb := ((Below.refl W.heap.size W).alloc (Nat.le_refl _) (.cells #[.bool n1, .slice A xs.length c, .bool n2, .slice B ys.length e0, .bool n3, .slice A2 us.length c2, .bool n4, .slice B2 vs.length e2] 26)).trans (hb.mono (by simp))
  have HS_wx1 := Hd (show W.heap.size ≤ wx1.heap.size from hb.size)
  have PX := Hd (PX.out.below hb)
  have PY := Hd (PY.out.below hb)
  have PR := Hd (PR.out.below hb)
  have RX := Hd (RX.out.below hb)
  have KX := Hd (KX.out.below hb)
  have RY := Hd (RY.out.below hb)
  have KY := Hd (KY.out.below hb)
  have HB := Hd (belowTo HB.out hb)
  obtain ⟨l_x, x0, x1, x2, x3, -, -, -, -⟩ := PX.out.facts
  obtain ⟨l_y, y0, y1, y2, y3, -, -, -, -⟩ := PY.out.facts
  go_wp2_with fail
  refine (H2.out wx1 RX.out KX.out RY.out KY.out).mono ?_
  rintro e wx2 ⟨v, rfl, hI, hb⟩
  clear l_x x0 x1 x2 x3
  clear l_y y0 y1 y2 y3
  obtain ⟨A7, c7, B7, e7, rfl, -⟩ := hI.form
  have O7 := Hd hI
  clear hI
  have HS_wx2 := Hd (show wx1.heap.size ≤ wx2.heap.size from hb.size)
  have PX := Hd (PX.out.below hb)
  have PY := Hd (PY.out.below hb)
  have PR := Hd (PR.out.below hb)
  have RX := Hd (RX.out.below hb)
  have KX := Hd (KX.out.below hb)
  have RY := Hd (RY.out.below hb)
  have KY := Hd (KY.out.below hb)
  have HB := Hd (belowTo HB.out hb)
  have ha := (Below.refl wx2.heap.size wx2).alloc (Nat.le_refl _) (.cells #[.bool (decide (N < 0)), .slice A7 (natL N.natAbs).length c7, .bool (decide (D < 0)), .slice B7 (natL D.natAbs).length e7] 26)
  have hn := Quad.new wx2 (.bool (decide (N < 0))) (.slice A7 (natL N.natAbs).length c7) (.bool (decide (D < 0))) (.slice B7 (natL D.natAbs).length e7)
  have hz : (wx2.alloc (.cells #[.bool (decide (N < 0)), .slice A7 (natL N.natAbs).length c7, .bool (decide (D < 0)), .slice B7 (natL D.natAbs).length e7] 26)).heap.size = wx2.heap.size + 1 := by simp
  go_upto_region 4 with fail
  obtain ⟨wy3, E⟩ : ∃ W, W = wx2.alloc (.cells #[.bool (decide (N < 0)), .slice A7 (natL N.natAbs).length c7, .bool (decide (D < 0)), .slice B7 (natL D.natAbs).length e7] 26) := ⟨_, rfl⟩
  obtain ⟨q3, hq⟩ : ∃ q, q = wx2.heap.size := ⟨_, rfl⟩
  rw [← E] at ha
  rw [← E, ← hq] at hn hz ⊢
  have HZ_wy3 := Hd (And.intro hq hz)
  have P7 := Hd hn
  have PR := Hd (PR.out.below ha)
  have O7 := Hd (O7.out.below ha)
  have HB := Hd (belowTo HB.out ha)
  clear ha hn hz hq E
  have R7 := Hd O7.out.at_
  obtain ⟨A0, c0, B0, e9, he, r71, r72⟩ := R7.out.form
  simp only [Value.agg.injEq, Array.mk.injEq, List.cons.injEq, Value.slice.injEq, and_true, true_and] at he
  obtain ⟨⟨rfl, rfl⟩, rfl, rfl⟩ := he
  have R71 := Hd r71
  have R72 := Hd r72
  clear R7 r71 r72
  have hsy := Hd (show w.heap.size ≤ wy3.heap.size from HB.out.size)
  obtain ⟨l_z, z0, z1, z2, z3, -, -, -, -⟩ := P7.out.facts
  go_wp2_with fail
  refine (H3.out wy3 A7 B7 c7 e7 R71.out R72.out).mono ?_
  rintro e wx4 ⟨v, rfl, hI, hb⟩
  clear l_z z0 z1 z2 z3
  obtain ⟨A8, c8, B8, e8, rfl, -⟩ := hI.form
  have O8 := Hd hI
  clear hI R71 R72
  have HS_wx4 := Hd (show wy3.heap.size ≤ wx4.heap.size from hb.size)
  have PR := Hd (PR.out.below hb)
  have HB := Hd (belowTo HB.out hb)
  obtain ⟨l_r, r0, r1, r2, r3, fr0, fr1, fr2, fr3⟩ := PR.out.facts
  have HQ := Hd (PR.out.store (.bool (decide (N9 < 0))) (.slice A8 (natL N9.natAbs).length c8) (.bool (decide (D9 < 0))) (.slice B8 (natL D9.natAbs).length e8))
  have HF := Hd (below4 HB.out (show w.heap.size ≤ w.heap.size + 1 + 1 by omega) (.bool (decide (N9 < 0))) (.slice A8 (natL N9.natAbs).length c8) (.bool (decide (D9 < 0))) (.slice B8 (natL D9.natAbs).length e8))
  have HO := Hd (O8.out.quad PR.out (.bool (decide (N9 < 0))) (.slice A8 (natL N9.natAbs).length c8) (.bool (decide (D9 < 0))) (.slice B8 (natL D9.natAbs).length e8))
  go_wp2_with fail
  obtain ⟨_, k0, k1, k2, k3, _⟩ := HQ.out.facts
  exact bodyPost_ret (by simp [results, Tryd.results26, go_sem, k0, k1, k2, k3]) rfl ⟨_, rfl, HO.out.base hsy.out, HF.out⟩

theorem do_nought (n1 n2 n3 n4 : Bool) (A B A2 B2 : Option Addr) (c e0 c2 e2 : Nat) (xs ys us vs : List Nat) (z : Int) (C : ∀ (V : World), Raw V A c xs → Raw V B e0 ys → Raw V A2 c2 us → Raw V B2 e2 vs → Calls Tryd.prog 31 #[.agg #[.bool n1, .slice A xs.length c, .bool n2, .slice B ys.length e0], .agg #[.bool n3, .slice A2 us.length c2, .bool n4, .slice B2 vs.length e2]] V (RetFracB V z z false)) (w : World) (hx : Raw w A c xs) (kx : Raw w B e0 ys) (hy : Raw w A2 c2 us) (ky : Raw w B2 e2 vs) (hc : (chkE n1 n2 xs ys == 0 && chkE n3 n4 us vs == 0) = true) :
    Calls Tryd.prog 26 #[.func (.func 31) #[] #[], .agg #[.bool n1, .slice A xs.length c, .bool n2, .slice B ys.length e0], .agg #[.bool n3, .slice A2 us.length c2, .bool n4, .slice B2 vs.length e2]] w (RetFracOwn2 w.heap.size w 0 0 3) := by
  have C1 := fun (V : World) (g' : Nat) (a1 : Raw V A c xs) (a2 : Raw V B e0 ys) (a3 : Raw V A2 c2 us) (a4 : Raw V B2 e2 vs) (hg : V.heap.size = g') => checks_two n1 n2 n3 n4 A B A2 B2 c e0 c2 e2 xs ys us vs V g' a1 a2 a3 a4 hg
  rw [hc] at C1
  have H1 := Hd C1
  clear C1
  have H2 := Hd C
  clear C hc
  have b0 := ((((Below.refl w.heap.size w).alloc (Nat.le_refl _) (.cells #[.bool n1, .slice A xs.length c, .bool n2, .slice B ys.length e0] 26)).alloc (by simp) (.cells #[.bool n3, .slice A2 us.length c2, .bool n4, .slice B2 vs.length e2] 26)).alloc (by simp; omega) (.cells #[.bool false, .slice none 0 0, .bool false, .slice none 0 0] 26))
  have p0 := ((Quad.new w (.bool n1) (.slice A xs.length c) (.bool n2) (.slice B ys.length e0)).alloc (.cells #[.bool n3, .slice A2 us.length c2, .bool n4, .slice B2 vs.length e2] 26)).alloc (.cells #[.bool false, .slice none 0 0, .bool false, .slice none 0 0] 26)
  have p1 := (Quad.new (w.alloc (.cells #[.bool n1, .slice A xs.length c, .bool n2, .slice B ys.length e0] 26)) (.bool n3) (.slice A2 us.length c2) (.bool n4) (.slice B2 vs.length e2)).alloc (.cells #[.bool false, .slice none 0 0, .bool false, .slice none 0 0] 26)
  have p2 := Quad.new ((w.alloc (.cells #[.bool n1, .slice A xs.length c, .bool n2, .slice B ys.length e0] 26)).alloc (.cells #[.bool n3, .slice A2 us.length c2, .bool n4, .slice B2 vs.length e2] 26)) (.bool false) (.slice none 0 0) (.bool false) (.slice none 0 0)
  simp only [World.size_alloc] at p1 p2
  have PX := Hd p0
  have PY := Hd p1
  have PR := Hd p2
  have RX := Hd (hx.below b0)
  have KX := Hd (kx.below b0)
  have RY := Hd (hy.below b0)
  have KY := Hd (ky.below b0)
  have HB := Hd b0
  clear b0 p0 p1 p2 hx kx hy ky
  go_enter Tryd.func26, Tryd.ntmps26
  obtain ⟨W, E⟩ : ∃ W, W = (((w.alloc (.cells #[.bool n1, .slice A xs.length c, .bool n2, .slice B ys.length e0] 26)).alloc (.cells #[.bool n3, .slice A2 us.length c2, .bool n4, .slice B2 vs.length e2] 26)).alloc (.cells #[.bool false, .slice none 0 0, .bool false, .slice none 0 0] 26)) := ⟨_, rfl⟩
  go_upto_region 1 with fail
  rw [← E] at PX PY PR RX KX RY KY  HB ⊢
  clear E
  have HS0 := Hd (show w.heap.size ≤ W.heap.size from HB.out.size)
  obtain ⟨l_x, x0, x1, x2, x3, -, -, -, -⟩ := PX.out.facts
  obtain ⟨l_y, y0, y1, y2, y3, -, -, -, -⟩ := PY.out.facts
  go_wp2_with fail
  refine (H1.out W _ RX.out KX.out RY.out KY.out rfl).mono ?_
  rintro e wx1 ⟨rfl, hb⟩
  clear l_x x0 x1 x2 x3
  clear l_y y0 y1 y2 y3
  have hb := ((Below.refl W.heap.size W).alloc (Nat.le_refl _) (.cells #[.bool n1, .slice A xs.length c, .bool n2, .slice B ys.length e0, .bool n3, .slice A2 us.length c2, .bool n4, .slice B2 vs.length e2] 26)).trans (hb.mono (by simp))
  have HS_wx1 := Hd (show W.heap.size ≤ wx1.heap.size from hb.size)
  have PX := Hd (PX.out.below hb)
  have PY := Hd (PY.out.below hb)
  have PR := Hd (PR.out.below hb)
  have RX := Hd (RX.out.below hb)
  have KX := Hd (KX.out.below hb)
  have RY := Hd (RY.out.below hb)
  have KY := Hd (KY.out.below hb)
  have HB := Hd (belowTo HB.out hb)
  obtain ⟨l_x, x0, x1, x2, x3, -, -, -, -⟩ := PX.out.facts
  obtain ⟨l_y, y0, y1, y2, y3, -, -, -, -⟩ := PY.out.facts
  go_wp2_with fail
  refine (H2.out wx1 RX.out KX.out RY.out KY.out).mono ?_
  rintro e wx2 ⟨v, rfl, hI, hb⟩
  clear l_x x0 x1 x2 x3
  clear l_y y0 y1 y2 y3
  obtain ⟨A7, c7, B7, e7, rfl, -⟩ := hI.form
  have O7 := Hd hI
  clear hI
  have HS_wx2 := Hd (show wx1.heap.size ≤ wx2.heap.size from hb.size)
  have PX := Hd (PX.out.below hb)
  have PY := Hd (PY.out.below hb)
  have PR := Hd (PR.out.below hb)
  have RX := Hd (RX.out.below hb)
  have KX := Hd (KX.out.below hb)
  have RY := Hd (RY.out.below hb)
  have KY := Hd (KY.out.below hb)
  have HB := Hd (belowTo HB.out hb)
  have ha := (Below.refl wx2.heap.size wx2).alloc (Nat.le_refl _) (.cells #[.bool (decide (z < 0)), .slice A7 (natL z.natAbs).length c7, .bool (decide (z < 0)), .slice B7 (natL z.natAbs).length e7] 26)
  have hn := Quad.new wx2 (.bool (decide (z < 0))) (.slice A7 (natL z.natAbs).length c7) (.bool (decide (z < 0))) (.slice B7 (natL z.natAbs).length e7)
  have hz : (wx2.alloc (.cells #[.bool (decide (z < 0)), .slice A7 (natL z.natAbs).length c7, .bool (decide (z < 0)), .slice B7 (natL z.natAbs).length e7] 26)).heap.size = wx2.heap.size + 1 := by simp
  go_upto_region 4 with fail
  obtain ⟨wy3, E⟩ : ∃ W, W = wx2.alloc (.cells #[.bool (decide (z < 0)), .slice A7 (natL z.natAbs).length c7, .bool (decide (z < 0)), .slice B7 (natL z.natAbs).length e7] 26) := ⟨_, rfl⟩
  obtain ⟨q3, hq⟩ : ∃ q, q = wx2.heap.size := ⟨_, rfl⟩
  rw [← E] at ha
  rw [← E, ← hq] at hn hz ⊢
  have HZ_wy3 := Hd (And.intro hq hz)
  have P7 := Hd hn
  have PX := Hd (PX.out.below ha)
  have PY := Hd (PY.out.below ha)
  have PR := Hd (PR.out.below ha)
  have O7 := Hd (O7.out.below ha)
  have HB := Hd (belowTo HB.out ha)
  clear ha hn hz hq E
  obtain ⟨l_x, x0, x1, x2, x3, -, -, -, -⟩ := PX.out.facts
  obtain ⟨l_r, r0, r1, r2, r3, fr0, fr1, fr2, fr3⟩ := PR.out.facts
  have HQ := Hd (PR.out.store (.bool false) (.slice none 0 0) (.bool false) (.slice none 0 0))
  have HF := Hd (below4 HB.out (show w.heap.size ≤ w.heap.size + 1 + 1 by omega) (.bool false) (.slice none 0 0) (.bool false) (.slice none 0 0))
  go_wp2_with fail
  obtain ⟨_, k0, k1, k2, k3, _⟩ := HQ.out.facts
  exact bodyPost_ret (by simp [results, Tryd.results26, go_sem, k0, k1, k2, k3]) rfl ⟨_, rfl, FracOwn.nought _ _, HF.out⟩

theorem frac_Add_any (n1 n2 n3 n4 : Bool) (A B A2 B2 : Option Addr) (c e0 c2 e2 : Nat) (xs ys us vs : List Nat) (N D K : Int) (C : ∀ (g : Nat) (V : World), Blk V g 47 #[.func (.func 29) #[] #[]] → Raw V A c xs → Raw V B e0 ys → Raw V A2 c2 us → Raw V B2 e2 vs → Calls Tryd.prog 26 #[.func (.func 42) #[] #[.pointer (some ⟨g, 0, none⟩)], .agg #[.bool n1, .slice A xs.length c, .bool n2, .slice B ys.length e0], .agg #[.bool n3, .slice A2 us.length c2, .bool n4, .slice B2 vs.length e2]] V (RetFracOwn2 V.heap.size V N D K)) (w : World) (hx : Raw w A c xs) (kx : Raw w B e0 ys) (hy : Raw w A2 c2 us) (ky : Raw w B2 e2 vs) :
    Calls Tryd.prog 13 #[.agg #[.bool n1, .slice A xs.length c, .bool n2, .slice B ys.length e0], .agg #[.bool n3, .slice A2 us.length c2, .bool n4, .slice B2 vs.length e2]] w (RetFracOwn2 w.heap.size w N D K) := by
  have RX0 := Hd hx
  have KX0 := Hd kx
  have RY0 := Hd hy
  have KY0 := Hd ky
  have H2 := Hd C
  clear C
  have b0 := ((((Below.refl w.heap.size w).alloc (Nat.le_refl _) (.cells #[.bool n1, .slice A xs.length c, .bool n2, .slice B ys.length e0] 26)).alloc (by simp) (.cells #[.bool n3, .slice A2 us.length c2, .bool n4, .slice B2 vs.length e2] 26)).alloc (by simp; omega) (.cells #[.bool false, .slice none 0 0, .bool false, .slice none 0 0] 26))
  have p0 := ((Quad.new w (.bool n1) (.slice A xs.length c) (.bool n2) (.slice B ys.length e0)).alloc (.cells #[.bool n3, .slice A2 us.length c2, .bool n4, .slice B2 vs.length e2] 26)).alloc (.cells #[.bool false, .slice none 0 0, .bool false, .slice none 0 0] 26)
  have p1 := (Quad.new (w.alloc (.cells #[.bool n1, .slice A xs.length c, .bool n2, .slice B ys.length e0] 26)) (.bool n3) (.slice A2 us.length c2) (.bool n4) (.slice B2 vs.length e2)).alloc (.cells #[.bool false, .slice none 0 0, .bool false, .slice none 0 0] 26)
  have p2 := Quad.new ((w.alloc (.cells #[.bool n1, .slice A xs.length c, .bool n2, .slice B ys.length e0] 26)).alloc (.cells #[.bool n3, .slice A2 us.length c2, .bool n4, .slice B2 vs.length e2] 26)) (.bool false) (.slice none 0 0) (.bool false) (.slice none 0 0)
  simp only [World.size_alloc] at p1 p2
  have PX := Hd p0
  have PY := Hd p1
  have PR := Hd p2
  have RX := Hd (hx.below b0)
  have KX := Hd (kx.below b0)
  have RY := Hd (hy.below b0)
  have KY := Hd (ky.below b0)
  have HB := Hd b0
  clear b0 p0 p1 p2 hx kx hy ky
  go_enter Tryd.func13, Tryd.ntmps13
  obtain ⟨W, E⟩ : ∃ W, W = (((w.alloc (.cells #[.bool n1, .slice A xs.length c, .bool n2, .slice B ys.length e0] 26)).alloc (.cells #[.bool n3, .slice A2 us.length c2, .bool n4, .slice B2 vs.length e2] 26)).alloc (.cells #[.bool false, .slice none 0 0, .bool false, .slice none 0 0] 26)) := ⟨_, rfl⟩
  go_upto_region 1 with fail
  rw [← E] at PX PY PR RX KX RY KY  HB ⊢
  clear E
  have HS0 := Hd (show w.heap.size ≤ W.heap.size from HB.out.size)
  have hsz := PR.out.blk.lt
  go_wp2_with fail
  refine wp_region_free [.any false (AlwaysAt 29) [], .val (.agg #[.bool n1, .slice A xs.length c, .bool n2, .slice B ys.length e0]) [], .val (.agg #[.bool n3, .slice A2 us.length c2, .bool n4, .slice B2 vs.length e2]) [], .any false (TupF w.heap.size N D K) [0], .any false (fun u V => FracOwn V w.heap.size u N D) [3], .val (.int .i64 K) [3], .old (w.heap.size + 1 + 1) 26 #[.bool false, .slice none 0 0, .bool false, .slice none 0 0] 0 4 4 [], .val (.int .i64 K) []] (w.heap.size + 1 + 1) W [26] blkInt _ mixedOrders2 (by omega) (Below.refl _ _) (KeptV.refl _ _ _) rfl (by kernel_rfl) (by kernel_rfl) (by kernel_rfl) (by kernel_rfl) (by kernel_rfl) (by kernel_rfl) (by kernel_rfl) (by kernel_rfl) rfl (by simp [oldsF]) ?_ ?_ ?_ ?_
  · simp only [StableF, and_true]
    exact ⟨fun u V V' h k => h.kept k (by decide), fun u V V' h k => h.kept k (by decide), fun u V V' h k => h.kept k (by decide)⟩
  · simp only [OldsF, and_true]
    exact ⟨Nat.le_refl _, PR.out.blk.lt, PR.out.blk, by simp⟩
  · simp (maxSteps := 4000000) [StepsF, DepF, freeAct, fill, pairs]
    repeat' (first | apply And.intro | (intro (u : Value)) | (intro (u : Nat)))
    all_goals try exact ⟨_, _, _, rfl, rfl, rfl, rfl, fracInfo⟩
    all_goals first
    | (intro V hV hK
       have qx : Quad V (w.heap.size) _ _ _ _ := ⟨PX.out.blk.below hV (by omega)⟩
       have qy : Quad V (w.heap.size + 1) _ _ _ _ := ⟨PY.out.blk.below hV (by omega)⟩
       obtain ⟨-, a_x, b_x, c_x, d_x, -, -, -, -⟩ := qx.facts
       obtain ⟨-, a_y, b_y, c_y, d_y, -, -, -, -⟩ := qy.facts
       clear hV hK qx qy
       go_simp
       first
       | exact Below.refl _ _
       | ((with_reducible refine (always_any 29 V).mono ?_); rintro e w' ⟨v, rfl, hv, hb⟩; exact ⟨hv, hb⟩))
    | (intro V hV hK h1
       have hb0 := HB.out.trans (hV.mono (by omega))
       have r1 := RX0.out.below hb0
       have r2 := KX0.out.below hb0
       have r3 := RY0.out.below hb0
       have r4 := KY0.out.below hb0
       have hvs : w.heap.size ≤ V.heap.size := hb0.size
       first
       | (obtain ⟨g, rfl, hg⟩ := h1.form
          clear hV hK h1 hb0
          go_simp
          (with_reducible refine (H2.out g V hg r1 r2 r3 r4).mono ?_)
          rintro e w' ⟨v, rfl, hv, hb⟩
          exact ⟨⟨v, rfl, hv.base hvs⟩, hb⟩)
       | (obtain ⟨v, rfl, hv⟩ := h1.form
          clear hV hK h1 hb0
          go_simp
          first
          | exact ⟨hv, Below.refl _ _⟩
          | exact Below.refl _ _))
    | exact fun _ _ _ (h : FracOwn _ _ _ _ _) => h.cells
  · simp [EndF, FactsF, freeAct, fill, pairs]
    intro u1 u2 u3 V hV hK h1 h2 h3 bq _ _ _
    have HF := Hd h3
    obtain ⟨A6, c6, A7, c7, rfl, -⟩ := h3.form
    simp [setAll, Value.cells] at bq
    have k0 := bq.cell 0
    have k1 := bq.cell 1
    have k2 := bq.cell 2
    have k3 := bq.cell 3
    simp at k0 k1 k2 k3
    have HB9 := Hd (HB.out.trans (hV.mono (by omega)))
    clear h1 h2 h3 hV hK bq
    go_wp2_with fail
    exact bodyPost_ret (by simp [results, Tryd.results13, go_sem, k0, k1, k2, k3]) rfl ⟨_, rfl, HF.out, HB9.out⟩
theorem frac_Add_bad (n1 n2 n3 n4 : Bool) (A B A2 B2 : Option Addr) (c e0 c2 e2 : Nat) (xs ys us vs : List Nat) (w : World) (hx : Raw w A c xs) (kx : Raw w B e0 ys) (hy : Raw w A2 c2 us) (ky : Raw w B2 e2 vs) (hc : (chkE n1 n2 xs ys == 0 && chkE n3 n4 us vs == 0) = false) :
    Calls Tryd.prog 13 #[.agg #[.bool n1, .slice A xs.length c, .bool n2, .slice B ys.length e0], .agg #[.bool n3, .slice A2 us.length c2, .bool n4, .slice B2 vs.length e2]] w (RetFracOwn2 w.heap.size w 0 0 1) :=
  frac_Add_any n1 n2 n3 n4 A B A2 B2 c e0 c2 e2 xs ys us vs 0 0 1 (fun _ V _ a1 a2 a3 a4 => do_bad _ n1 n2 n3 n4 A B A2 B2 c e0 c2 e2 xs ys us vs V a1 a2 a3 a4 hc) w hx kx hy ky
theorem frac_Add_good (n d m f : Int) (A B A2 B2 : Option Addr) (c e0 c2 e2 : Nat) (w : World) (hx : Raw w A c (natL n.natAbs)) (kx : Raw w B e0 (natL d.natAbs)) (hy : Raw w A2 c2 (natL m.natAbs)) (ky : Raw w B2 e2 (natL f.natAbs)) (f1 : Fine n d) (f2 : Fine m f) :
    Calls Tryd.prog 13 #[.agg #[.bool (decide (n < 0)), .slice A (natL n.natAbs).length c, .bool (decide (d < 0)), .slice B (natL d.natAbs).length e0], .agg #[.bool (decide (m < 0)), .slice A2 (natL m.natAbs).length c2, .bool (decide (f < 0)), .slice B2 (natL f.natAbs).length e2]] w (RetFracOwn2 w.heap.size w (ansN (addN n d m f) (addD n d m f)) (ansD (addN n d m f) (addD n d m f)) (ansK (addN n d m f) (addD n d m f))) := by
  have hl1 : lz n ≤ 2048 := f1.num
  have hl2 : lz d ≤ 2048 := f1.den
  have hl3 : lz m ≤ 2048 := f2.num
  have hl4 : lz f ≤ 2048 := f2.den
  have hp1 := f1.pos
  have hp2 := f2.pos
  exact frac_Add_any _ _ _ _ A B A2 B2 c e0 c2 e2 _ _ _ _ _ _ _ (fun g V hg a1 a2 a3 a4 => do_always 29 g _ _ _ _ A B A2 B2 c e0 c2 e2 _ _ _ _ _ _ (fun V hg a1 a2 a3 a4 => clos_add _ _ _ _ A B A2 B2 c e0 c2 e2 _ _ _ _ _ _ (fun V a1 a2 a3 a4 => ratio_Plus n d m f A B A2 B2 c e0 c2 e2 V a1 a2 a3 a4 (by omega) (by omega) (by omega) (by omega) (by omega) (by omega)) g V hg a1 a2 a3 a4) V a1 a2 a3 a4 (by rw [f1.chk, f2.chk]; rfl) hg) w hx kx hy ky

theorem frac_Sub_any (n1 n2 n3 n4 : Bool) (A B A2 B2 : Option Addr) (c e0 c2 e2 : Nat) (xs ys us vs : List Nat) (N D K : Int) (C : ∀ (g : Nat) (V : World), Blk V g 47 #[.func (.func 25) #[] #[]] → Raw V A c xs → Raw V B e0 ys → Raw V A2 c2 us → Raw V B2 e2 vs → Calls Tryd.prog 26 #[.func (.func 42) #[] #[.pointer (some ⟨g, 0, none⟩)], .agg #[.bool n1, .slice A xs.length c, .bool n2, .slice B ys.length e0], .agg #[.bool n3, .slice A2 us.length c2, .bool n4, .slice B2 vs.length e2]] V (RetFracOwn2 V.heap.size V N D K)) (w : World) (hx : Raw w A c xs) (kx : Raw w B e0 ys) (hy : Raw w A2 c2 us) (ky : Raw w B2 e2 vs) :
    Calls Tryd.prog 10 #[.agg #[.bool n1, .slice A xs.length c, .bool n2, .slice B ys.length e0], .agg #[.bool n3, .slice A2 us.length c2, .bool n4, .slice B2 vs.length e2]] w (RetFracOwn2 w.heap.size w N D K) := by
  have RX0 := Hd hx
  have KX0 := Hd kx
  have RY0 := Hd hy
  have KY0 := Hd ky
  have H2 := Hd C
  clear C
  have b0 := ((((Below.refl w.heap.size w).alloc (Nat.le_refl _) (.cells #[.bool n1, .slice A xs.length c, .bool n2, .slice B ys.length e0] 26)).alloc (by simp) (.cells #[.bool n3, .slice A2 us.length c2, .bool n4, .slice B2 vs.length e2] 26)).alloc (by simp; omega) (.cells #[.bool false, .slice none 0 0, .bool false, .slice none 0 0] 26))
  have p0 := ((Quad.new w (.bool n1) (.slice A xs.length c) (.bool n2) (.slice B ys.length e0)).alloc (.cells #[.bool n3, .slice A2 us.length c2, .bool n4, .slice B2 vs.length e2] 26)).alloc (.cells #[.bool false, .slice none 0 0, .bool false, .slice none 0 0] 26)
  have p1 := (Quad.new (w.alloc (.cells #[.bool n1, .slice A xs.length c, .bool n2, .slice B ys.length e0] 26)) (.bool n3) (.slice A2 us.length c2) (.bool n4) (.slice B2 vs.length e2)).alloc (.cells #[.bool false, .slice none 0 0, .bool false, .slice none 0 0] 26)
  have p2 := Quad.new ((w.alloc (.cells #[.bool n1, .slice A xs.length c, .bool n2, .slice B ys.length e0] 26)).alloc (.cells #[.bool n3, .slice A2 us.length c2, .bool n4, .slice B2 vs.length e2] 26)) (.bool false) (.slice none 0 0) (.bool false) (.slice none 0 0)
  simp only [World.size_alloc] at p1 p2
  have PX := Hd p0
  have PY := Hd p1
  have PR := Hd p2
  have RX := Hd (hx.below b0)
  have KX := Hd (kx.below b0)
  have RY := Hd (hy.below b0)
  have KY := Hd (ky.below b0)
  have HB := Hd b0
  clear b0 p0 p1 p2 hx kx hy ky
  go_enter Tryd.func10, Tryd.ntmps10
  obtain ⟨W, E⟩ : ∃ W, W = (((w.alloc (.cells #[.bool n1, .slice A xs.length c, .bool n2, .slice B ys.length e0] 26)).alloc (.cells #[.bool n3, .slice A2 us.length c2, .bool n4, .slice B2 vs.length e2] 26)).alloc (.cells #[.bool false, .slice none 0 0, .bool false, .slice none 0 0] 26)) := ⟨_, rfl⟩
  go_upto_region 1 with fail
  rw [← E] at PX PY PR RX KX RY KY  HB ⊢
  clear E
  have HS0 := Hd (show w.heap.size ≤ W.heap.size from HB.out.size)
  have hsz := PR.out.blk.lt
  go_wp2_with fail
  refine wp_region_free [.any false (AlwaysAt 25) [], .val (.agg #[.bool n1, .slice A xs.length c, .bool n2, .slice B ys.length e0]) [], .val (.agg #[.bool n3, .slice A2 us.length c2, .bool n4, .slice B2 vs.length e2]) [], .any false (TupF w.heap.size N D K) [0], .any false (fun u V => FracOwn V w.heap.size u N D) [3], .val (.int .i64 K) [3], .old (w.heap.size + 1 + 1) 26 #[.bool false, .slice none 0 0, .bool false, .slice none 0 0] 0 4 4 [], .val (.int .i64 K) []] (w.heap.size + 1 + 1) W [26] blkInt _ mixedOrders2 (by omega) (Below.refl _ _) (KeptV.refl _ _ _) rfl (by kernel_rfl) (by kernel_rfl) (by kernel_rfl) (by kernel_rfl) (by kernel_rfl) (by kernel_rfl) (by kernel_rfl) (by kernel_rfl) rfl (by simp [oldsF]) ?_ ?_ ?_ ?_
  · simp only [StableF, and_true]
    exact ⟨fun u V V' h k => h.kept k (by decide), fun u V V' h k => h.kept k (by decide), fun u V V' h k => h.kept k (by decide)⟩
  · simp only [OldsF, and_true]
    exact ⟨Nat.le_refl _, PR.out.blk.lt, PR.out.blk, by simp⟩
  · simp (maxSteps := 4000000) [StepsF, DepF, freeAct, fill, pairs]
    repeat' (first | apply And.intro | (intro (u : Value)) | (intro (u : Nat)))
    all_goals try exact ⟨_, _, _, rfl, rfl, rfl, rfl, fracInfo⟩
    all_goals first
    | (intro V hV hK
       have qx : Quad V (w.heap.size) _ _ _ _ := ⟨PX.out.blk.below hV (by omega)⟩
       have qy : Quad V (w.heap.size + 1) _ _ _ _ := ⟨PY.out.blk.below hV (by omega)⟩
       obtain ⟨-, a_x, b_x, c_x, d_x, -, -, -, -⟩ := qx.facts
       obtain ⟨-, a_y, b_y, c_y, d_y, -, -, -, -⟩ := qy.facts
       clear hV hK qx qy
       go_simp
       first
       | exact Below.refl _ _
       | ((with_reducible refine (always_any 25 V).mono ?_); rintro e w' ⟨v, rfl, hv, hb⟩; exact ⟨hv, hb⟩))
    | (intro V hV hK h1
       have hb0 := HB.out.trans (hV.mono (by omega))
       have r1 := RX0.out.below hb0
       have r2 := KX0.out.below hb0
       have r3 := RY0.out.below hb0
       have r4 := KY0.out.below hb0
       have hvs : w.heap.size ≤ V.heap.size := hb0.size
       first
       | (obtain ⟨g, rfl, hg⟩ := h1.form
          clear hV hK h1 hb0
          go_simp
          (with_reducible refine (H2.out g V hg r1 r2 r3 r4).mono ?_)
          rintro e w' ⟨v, rfl, hv, hb⟩
          exact ⟨⟨v, rfl, hv.base hvs⟩, hb⟩)
       | (obtain ⟨v, rfl, hv⟩ := h1.form
          clear hV hK h1 hb0
          go_simp
          first
          | exact ⟨hv, Below.refl _ _⟩
          | exact Below.refl _ _))
    | exact fun _ _ _ (h : FracOwn _ _ _ _ _) => h.cells
  · simp [EndF, FactsF, freeAct, fill, pairs]
    intro u1 u2 u3 V hV hK h1 h2 h3 bq _ _ _
    have HF := Hd h3
    obtain ⟨A6, c6, A7, c7, rfl, -⟩ := h3.form
    simp [setAll, Value.cells] at bq
    have k0 := bq.cell 0
    have k1 := bq.cell 1
    have k2 := bq.cell 2
    have k3 := bq.cell 3
    simp at k0 k1 k2 k3
    have HB9 := Hd (HB.out.trans (hV.mono (by omega)))
    clear h1 h2 h3 hV hK bq
    go_wp2_with fail
    exact bodyPost_ret (by simp [results, Tryd.results10, go_sem, k0, k1, k2, k3]) rfl ⟨_, rfl, HF.out, HB9.out⟩
theorem frac_Sub_good (n d m f : Int) (A B A2 B2 : Option Addr) (c e0 c2 e2 : Nat) (w : World) (hx : Raw w A c (natL n.natAbs)) (kx : Raw w B e0 (natL d.natAbs)) (hy : Raw w A2 c2 (natL m.natAbs)) (ky : Raw w B2 e2 (natL f.natAbs)) (f1 : Fine n d) (f2 : Fine m f) :
    Calls Tryd.prog 10 #[.agg #[.bool (decide (n < 0)), .slice A (natL n.natAbs).length c, .bool (decide (d < 0)), .slice B (natL d.natAbs).length e0], .agg #[.bool (decide (m < 0)), .slice A2 (natL m.natAbs).length c2, .bool (decide (f < 0)), .slice B2 (natL f.natAbs).length e2]] w (RetFracOwn2 w.heap.size w (ansN (subN n d m f) (subD n d m f)) (ansD (subN n d m f) (subD n d m f)) (ansK (subN n d m f) (subD n d m f))) := by
  have hl1 : lz n ≤ 2048 := f1.num
  have hl2 : lz d ≤ 2048 := f1.den
  have hl3 : lz m ≤ 2048 := f2.num
  have hl4 : lz f ≤ 2048 := f2.den
  have hp1 := f1.pos
  have hp2 := f2.pos
  exact frac_Sub_any _ _ _ _ A B A2 B2 c e0 c2 e2 _ _ _ _ _ _ _ (fun g V hg a1 a2 a3 a4 => do_always 25 g _ _ _ _ A B A2 B2 c e0 c2 e2 _ _ _ _ _ _ (fun V hg a1 a2 a3 a4 => clos_sub _ _ _ _ A B A2 B2 c e0 c2 e2 _ _ _ _ _ _ (fun V a1 a2 a3 a4 => ratio_Minus n d m f A B A2 B2 c e0 c2 e2 V a1 a2 a3 a4 (by omega) (by omega) (by omega) (by omega) (by omega) (by omega)) g V hg a1 a2 a3 a4) V a1 a2 a3 a4 (by rw [f1.chk, f2.chk]; rfl) hg) w hx kx hy ky

theorem frac_Mul_any (n1 n2 n3 n4 : Bool) (A B A2 B2 : Option Addr) (c e0 c2 e2 : Nat) (xs ys us vs : List Nat) (N D K : Int) (C : ∀ (g : Nat) (V : World), Blk V g 47 #[.func (.func 30) #[] #[]] → Raw V A c xs → Raw V B e0 ys → Raw V A2 c2 us → Raw V B2 e2 vs → Calls Tryd.prog 26 #[.func (.func 42) #[] #[.pointer (some ⟨g, 0, none⟩)], .agg #[.bool n1, .slice A xs.length c, .bool n2, .slice B ys.length e0], .agg #[.bool n3, .slice A2 us.length c2, .bool n4, .slice B2 vs.length e2]] V (RetFracOwn2 V.heap.size V N D K)) (w : World) (hx : Raw w A c xs) (kx : Raw w B e0 ys) (hy : Raw w A2 c2 us) (ky : Raw w B2 e2 vs) :
    Calls Tryd.prog 14 #[.agg #[.bool n1, .slice A xs.length c, .bool n2, .slice B ys.length e0], .agg #[.bool n3, .slice A2 us.length c2, .bool n4, .slice B2 vs.length e2]] w (RetFracOwn2 w.heap.size w N D K) := by
  have RX0 := Hd hx
  have KX0 := Hd kx
  have RY0 := Hd hy
  have KY0 := Hd ky
  have H2 := Hd C
  clear C
  have b0 := ((((Below.refl w.heap.size w).alloc (Nat.le_refl _) (.cells #[.bool n1, .slice A xs.length c, .bool n2, .slice B ys.length e0] 26)).alloc (by simp) (.cells #[.bool n3, .slice A2 us.length c2, .bool n4, .slice B2 vs.length e2] 26)).alloc (by simp; omega) (.cells #[.bool false, .slice none 0 0, .bool false, .slice none 0 0] 26))
  have p0 := ((Quad.new w (.bool n1) (.slice A xs.length c) (.bool n2) (.slice B ys.length e0)).alloc (.cells #[.bool n3, .slice A2 us.length c2, .bool n4, .slice B2 vs.length e2] 26)).alloc (.cells #[.bool false, .slice none 0 0, .bool false, .slice none 0 0] 26)
  have p1 := (Quad.new (w.alloc (.cells #[.bool n1, .slice A xs.length c, .bool n2, .slice B ys.length e0] 26)) (.bool n3) (.slice A2 us.length c2) (.bool n4) (.slice B2 vs.length e2)).alloc (.cells #[.bool false, .slice none 0 0, .bool false, .slice none 0 0] 26)
  have p2 := Quad.new ((w.alloc (.cells #[.bool n1, .slice A xs.length c, .bool n2, .slice B ys.length e0] 26)).alloc (.cells #[.bool n3, .slice A2 us.length c2, .bool n4, .slice B2 vs.length e2] 26)) (.bool false) (.slice none 0 0) (.bool false) (.slice none 0 0)
  simp only [World.size_alloc] at p1 p2
  have PX := Hd p0
  have PY := Hd p1
  have PR := Hd p2
  have RX := Hd (hx.below b0)
  have KX := Hd (kx.below b0)
  have RY := Hd (hy.below b0)
  have KY := Hd (ky.below b0)
  have HB := Hd b0
  clear b0 p0 p1 p2 hx kx hy ky
  go_enter Tryd.func14, Tryd.ntmps14
  obtain ⟨W, E⟩ : ∃ W, W = (((w.alloc (.cells #[.bool n1, .slice A xs.length c, .bool n2, .slice B ys.length e0] 26)).alloc (.cells #[.bool n3, .slice A2 us.length c2, .bool n4, .slice B2 vs.length e2] 26)).alloc (.cells #[.bool false, .slice none 0 0, .bool false, .slice none 0 0] 26)) := ⟨_, rfl⟩
  go_upto_region 1 with fail
  rw [← E] at PX PY PR RX KX RY KY  HB ⊢
  clear E
  have HS0 := Hd (show w.heap.size ≤ W.heap.size from HB.out.size)
  have hsz := PR.out.blk.lt
  go_wp2_with fail
  refine wp_region_free [.any false (AlwaysAt 30) [], .val (.agg #[.bool n1, .slice A xs.length c, .bool n2, .slice B ys.length e0]) [], .val (.agg #[.bool n3, .slice A2 us.length c2, .bool n4, .slice B2 vs.length e2]) [], .any false (TupF w.heap.size N D K) [0], .any false (fun u V => FracOwn V w.heap.size u N D) [3], .val (.int .i64 K) [3], .old (w.heap.size + 1 + 1) 26 #[.bool false, .slice none 0 0, .bool false, .slice none 0 0] 0 4 4 [], .val (.int .i64 K) []] (w.heap.size + 1 + 1) W [26] blkInt _ mixedOrders2 (by omega) (Below.refl _ _) (KeptV.refl _ _ _) rfl (by kernel_rfl) (by kernel_rfl) (by kernel_rfl) (by kernel_rfl) (by kernel_rfl) (by kernel_rfl) (by kernel_rfl) (by kernel_rfl) rfl (by simp [oldsF]) ?_ ?_ ?_ ?_
  · simp only [StableF, and_true]
    exact ⟨fun u V V' h k => h.kept k (by decide), fun u V V' h k => h.kept k (by decide), fun u V V' h k => h.kept k (by decide)⟩
  · simp only [OldsF, and_true]
    exact ⟨Nat.le_refl _, PR.out.blk.lt, PR.out.blk, by simp⟩
  · simp (maxSteps := 4000000) [StepsF, DepF, freeAct, fill, pairs]
    repeat' (first | apply And.intro | (intro (u : Value)) | (intro (u : Nat)))
    all_goals try exact ⟨_, _, _, rfl, rfl, rfl, rfl, fracInfo⟩
    all_goals first
    | (intro V hV hK
       have qx : Quad V (w.heap.size) _ _ _ _ := ⟨PX.out.blk.below hV (by omega)⟩
       have qy : Quad V (w.heap.size + 1) _ _ _ _ := ⟨PY.out.blk.below hV (by omega)⟩
       obtain ⟨-, a_x, b_x, c_x, d_x, -, -, -, -⟩ := qx.facts
       obtain ⟨-, a_y, b_y, c_y, d_y, -, -, -, -⟩ := qy.facts
       clear hV hK qx qy
       go_simp
       first
       | exact Below.refl _ _
       | ((with_reducible refine (always_any 30 V).mono ?_); rintro e w' ⟨v, rfl, hv, hb⟩; exact ⟨hv, hb⟩))
    | (intro V hV hK h1
       have hb0 := HB.out.trans (hV.mono (by omega))
       have r1 := RX0.out.below hb0
       have r2 := KX0.out.below hb0
       have r3 := RY0.out.below hb0
       have r4 := KY0.out.below hb0
       have hvs : w.heap.size ≤ V.heap.size := hb0.size
       first
       | (obtain ⟨g, rfl, hg⟩ := h1.form
          clear hV hK h1 hb0
          go_simp
          (with_reducible refine (H2.out g V hg r1 r2 r3 r4).mono ?_)
          rintro e w' ⟨v, rfl, hv, hb⟩
          exact ⟨⟨v, rfl, hv.base hvs⟩, hb⟩)
       | (obtain ⟨v, rfl, hv⟩ := h1.form
          clear hV hK h1 hb0
          go_simp
          first
          | exact ⟨hv, Below.refl _ _⟩
          | exact Below.refl _ _))
    | exact fun _ _ _ (h : FracOwn _ _ _ _ _) => h.cells
  · simp [EndF, FactsF, freeAct, fill, pairs]
    intro u1 u2 u3 V hV hK h1 h2 h3 bq _ _ _
    have HF := Hd h3
    obtain ⟨A6, c6, A7, c7, rfl, -⟩ := h3.form
    simp [setAll, Value.cells] at bq
    have k0 := bq.cell 0
    have k1 := bq.cell 1
    have k2 := bq.cell 2
    have k3 := bq.cell 3
    simp at k0 k1 k2 k3
    have HB9 := Hd (HB.out.trans (hV.mono (by omega)))
    clear h1 h2 h3 hV hK bq
    go_wp2_with fail
    exact bodyPost_ret (by simp [results, Tryd.results14, go_sem, k0, k1, k2, k3]) rfl ⟨_, rfl, HF.out, HB9.out⟩
theorem frac_Mul_bad (n1 n2 n3 n4 : Bool) (A B A2 B2 : Option Addr) (c e0 c2 e2 : Nat) (xs ys us vs : List Nat) (w : World) (hx : Raw w A c xs) (kx : Raw w B e0 ys) (hy : Raw w A2 c2 us) (ky : Raw w B2 e2 vs) (hc : (chkE n1 n2 xs ys == 0 && chkE n3 n4 us vs == 0) = false) :
    Calls Tryd.prog 14 #[.agg #[.bool n1, .slice A xs.length c, .bool n2, .slice B ys.length e0], .agg #[.bool n3, .slice A2 us.length c2, .bool n4, .slice B2 vs.length e2]] w (RetFracOwn2 w.heap.size w 0 0 1) :=
  frac_Mul_any n1 n2 n3 n4 A B A2 B2 c e0 c2 e2 xs ys us vs 0 0 1 (fun _ V _ a1 a2 a3 a4 => do_bad _ n1 n2 n3 n4 A B A2 B2 c e0 c2 e2 xs ys us vs V a1 a2 a3 a4 hc) w hx kx hy ky
theorem frac_Mul_good (n d m f : Int) (A B A2 B2 : Option Addr) (c e0 c2 e2 : Nat) (w : World) (hx : Raw w A c (natL n.natAbs)) (kx : Raw w B e0 (natL d.natAbs)) (hy : Raw w A2 c2 (natL m.natAbs)) (ky : Raw w B2 e2 (natL f.natAbs)) (f1 : Fine n d) (f2 : Fine m f) :
    Calls Tryd.prog 14 #[.agg #[.bool (decide (n < 0)), .slice A (natL n.natAbs).length c, .bool (decide (d < 0)), .slice B (natL d.natAbs).length e0], .agg #[.bool (decide (m < 0)), .slice A2 (natL m.natAbs).length c2, .bool (decide (f < 0)), .slice B2 (natL f.natAbs).length e2]] w (RetFracOwn2 w.heap.size w (ansN (mulN n d m f) (mulD n d m f)) (ansD (mulN n d m f) (mulD n d m f)) (ansK (mulN n d m f) (mulD n d m f))) := by
  have hl1 : lz n ≤ 2048 := f1.num
  have hl2 : lz d ≤ 2048 := f1.den
  have hl3 : lz m ≤ 2048 := f2.num
  have hl4 : lz f ≤ 2048 := f2.den
  have hp1 := f1.pos
  have hp2 := f2.pos
  exact frac_Mul_any _ _ _ _ A B A2 B2 c e0 c2 e2 _ _ _ _ _ _ _ (fun g V hg a1 a2 a3 a4 => do_always 30 g _ _ _ _ A B A2 B2 c e0 c2 e2 _ _ _ _ _ _ (fun V hg a1 a2 a3 a4 => clos_mul _ _ _ _ A B A2 B2 c e0 c2 e2 _ _ _ _ _ _ (fun V a1 a2 a3 a4 => ratio_Times n d m f A B A2 B2 c e0 c2 e2 V a1 a2 a3 a4 (by omega) (by omega) (by omega) (by omega) (by omega) (by omega)) g V hg a1 a2 a3 a4) V a1 a2 a3 a4 (by rw [f1.chk, f2.chk]; rfl) hg) w hx kx hy ky

theorem clos_quo_nought (n d m f : Int) (A B A2 B2 : Option Addr) (c e0 c2 e2 : Nat) (w : World) (hx : Raw w A c (natL n.natAbs)) (kx : Raw w B e0 (natL d.natAbs)) (hy : Raw w A2 c2 (natL m.natAbs)) (ky : Raw w B2 e2 (natL f.natAbs)) (hm : m = 0) :
    Calls Tryd.prog 31 #[.agg #[.bool (decide (n < 0)), .slice A (natL n.natAbs).length c, .bool (decide (d < 0)), .slice B (natL d.natAbs).length e0], .agg #[.bool (decide (m < 0)), .slice A2 (natL m.natAbs).length c2, .bool (decide (f < 0)), .slice B2 (natL f.natAbs).length e2]] w (RetFracB w 0 0 false) := by
  obtain ⟨sg, hsg⟩ : ∃ k : Int, k = m.sign := ⟨_, rfl⟩
  have H2 := Hd (fun (V : World) (h : Raw V A2 c2 (natL m.natAbs)) => ratio_Sign m sg f A2 B2 c2 e2 V h hsg)
  have hs0 : sg = 0 := by rw [hsg, hm]; rfl
  subst hs0
  clear hsg hm
  have b0 := ((((Below.refl w.heap.size w).alloc (Nat.le_refl _) (.cells #[.bool (decide (n < 0)), .slice A (natL n.natAbs).length c, .bool (decide (d < 0)), .slice B (natL d.natAbs).length e0] 26)).alloc (by simp) (.cells #[.bool (decide (m < 0)), .slice A2 (natL m.natAbs).length c2, .bool (decide (f < 0)), .slice B2 (natL f.natAbs).length e2] 26)).alloc (by simp; omega) (.cells #[.bool false, .slice none 0 0, .bool false, .slice none 0 0] 26))
  have p0 := ((Quad.new w (.bool (decide (n < 0))) (.slice A (natL n.natAbs).length c) (.bool (decide (d < 0))) (.slice B (natL d.natAbs).length e0)).alloc (.cells #[.bool (decide (m < 0)), .slice A2 (natL m.natAbs).length c2, .bool (decide (f < 0)), .slice B2 (natL f.natAbs).length e2] 26)).alloc (.cells #[.bool false, .slice none 0 0, .bool false, .slice none 0 0] 26)
  have p1 := (Quad.new (w.alloc (.cells #[.bool (decide (n < 0)), .slice A (natL n.natAbs).length c, .bool (decide (d < 0)), .slice B (natL d.natAbs).length e0] 26)) (.bool (decide (m < 0))) (.slice A2 (natL m.natAbs).length c2) (.bool (decide (f < 0))) (.slice B2 (natL f.natAbs).length e2)).alloc (.cells #[.bool false, .slice none 0 0, .bool false, .slice none 0 0] 26)
  have p2 := Quad.new ((w.alloc (.cells #[.bool (decide (n < 0)), .slice A (natL n.natAbs).length c, .bool (decide (d < 0)), .slice B (natL d.natAbs).length e0] 26)).alloc (.cells #[.bool (decide (m < 0)), .slice A2 (natL m.natAbs).length c2, .bool (decide (f < 0)), .slice B2 (natL f.natAbs).length e2] 26)) (.bool false) (.slice none 0 0) (.bool false) (.slice none 0 0)
  simp only [World.size_alloc] at p1 p2
  have PX := Hd p0
  have PY := Hd p1
  have PR := Hd p2
  have RX := Hd (hx.below b0)
  have KX := Hd (kx.below b0)
  have RY := Hd (hy.below b0)
  have KY := Hd (ky.below b0)
  have HB := Hd b0
  clear b0 p0 p1 p2 hx kx hy ky
  go_enter Tryd.func31, Tryd.ntmps31
  obtain ⟨W, E⟩ : ∃ W, W = (((w.alloc (.cells #[.bool (decide (n < 0)), .slice A (natL n.natAbs).length c, .bool (decide (d < 0)), .slice B (natL d.natAbs).length e0] 26)).alloc (.cells #[.bool (decide (m < 0)), .slice A2 (natL m.natAbs).length c2, .bool (decide (f < 0)), .slice B2 (natL f.natAbs).length e2] 26)).alloc (.cells #[.bool false, .slice none 0 0, .bool false, .slice none 0 0] 26)) := ⟨_, rfl⟩
  go_upto_region 1 with fail
  rw [← E] at PX PY PR RX KX RY KY  HB ⊢
  clear E
  have HS0 := Hd (show w.heap.size ≤ W.heap.size from HB.out.size)
  obtain ⟨l_y, y0, y1, y2, y3, -, -, -, -⟩ := PY.out.facts
  go_wp2_with fail
  refine (H2.out W RY.out).mono ?_
  rintro e wx1 ⟨rfl, hb⟩
  clear l_y y0 y1 y2 y3
  have HS_wx1 := Hd (show W.heap.size ≤ wx1.heap.size from hb.size)
  have PX := Hd (PX.out.below hb)
  have PY := Hd (PY.out.below hb)
  have PR := Hd (PR.out.below hb)
  have RX := Hd (RX.out.below hb)
  have KX := Hd (KX.out.below hb)
  have RY := Hd (RY.out.below hb)
  have KY := Hd (KY.out.below hb)
  have HB := Hd (belowTo HB.out hb)
  obtain ⟨l_x, x0, x1, x2, x3, -, -, -, -⟩ := PX.out.facts
  obtain ⟨l_r, r0, r1, r2, r3, fr0, fr1, fr2, fr3⟩ := PR.out.facts
  have HQ := Hd (PR.out.store (.bool false) (.slice none 0 0) (.bool false) (.slice none 0 0))
  have HF := Hd (below4 HB.out (show w.heap.size ≤ w.heap.size + 1 + 1 by omega) (.bool false) (.slice none 0 0) (.bool false) (.slice none 0 0))
  go_wp2_with fail
  obtain ⟨_, k0, k1, k2, k3, _⟩ := HQ.out.facts
  exact bodyPost_ret (by simp [results, Tryd.results31, go_sem, k0, k1, k2, k3]) rfl ⟨_, rfl, FracIn.nought _ _, HF.out⟩

theorem clos_quo (n d m f : Int) (A B A2 B2 : Option Addr) (c e0 c2 e2 : Nat) (w : World) (hx : Raw w A c (natL n.natAbs)) (kx : Raw w B e0 (natL d.natAbs)) (hy : Raw w A2 c2 (natL m.natAbs)) (ky : Raw w B2 e2 (natL f.natAbs)) (hl1 : lz n ≤ 10000) (hl2 : lz d ≤ 10000) (hl3 : lz m ≤ 10000) (hl4 : lz f ≤ 10000) (hd0 : d ≠ 0) (hm0 : m ≠ 0) :
    Calls Tryd.prog 31 #[.agg #[.bool (decide (n < 0)), .slice A (natL n.natAbs).length c, .bool (decide (d < 0)), .slice B (natL d.natAbs).length e0], .agg #[.bool (decide (m < 0)), .slice A2 (natL m.natAbs).length c2, .bool (decide (f < 0)), .slice B2 (natL f.natAbs).length e2]] w (RetFracB w (quoN n d m f) (quoD n d m f) true) := by
  obtain ⟨sg, hsg⟩ : ∃ k : Int, k = m.sign := ⟨_, rfl⟩
  have H2 := Hd (fun (V : World) (h : Raw V A2 c2 (natL m.natAbs)) => ratio_Sign m sg f A2 B2 c2 e2 V h hsg)
  have hs0 : sg ≠ 0 := by rw [hsg]; intro e; exact hm0 (Int.sign_eq_zero_iff_zero.1 e)
  have hs1 : (sg == 0) = false := by simpa using hs0
  have C3 := fun (V : World) (a1 : Raw V A c (natL n.natAbs)) (a2 : Raw V B e0 (natL d.natAbs)) (a3 : Raw V A2 c2 (natL m.natAbs)) (a4 : Raw V B2 e2 (natL f.natAbs)) => ratio_Over n d m f A B A2 B2 c e0 c2 e2 V a1 a2 a3 a4 hl1 hl2 hl3 hl4 hd0 hm0
  obtain ⟨N, hN⟩ : ∃ k : Int, k = quoN n d m f := ⟨_, rfl⟩
  obtain ⟨D, hD⟩ : ∃ k : Int, k = quoD n d m f := ⟨_, rfl⟩
  rw [← hN, ← hD] at C3 ⊢
  have H3 := Hd C3
  clear C3 hN hD hl1 hl2 hl3 hl4 hd0 hm0 hsg
  have b0 := ((((Below.refl w.heap.size w).alloc (Nat.le_refl _) (.cells #[.bool (decide (n < 0)), .slice A (natL n.natAbs).length c, .bool (decide (d < 0)), .slice B (natL d.natAbs).length e0] 26)).alloc (by simp) (.cells #[.bool (decide (m < 0)), .slice A2 (natL m.natAbs).length c2, .bool (decide (f < 0)), .slice B2 (natL f.natAbs).length e2] 26)).alloc (by simp; omega) (.cells #[.bool false, .slice none 0 0, .bool false, .slice none 0 0] 26))
  have p0 := ((Quad.new w (.bool (decide (n < 0))) (.slice A (natL n.natAbs).length c) (.bool (decide (d < 0))) (.slice B (natL d.natAbs).length e0)).alloc (.cells #[.bool (decide (m < 0)), .slice A2 (natL m.natAbs).length c2, .bool (decide (f < 0)), .slice B2 (natL f.natAbs).length e2] 26)).alloc (.cells #[.bool false, .slice none 0 0, .bool false, .slice none 0 0] 26)
  have p1 := (Quad.new (w.alloc (.cells #[.bool (decide (n < 0)), .slice A (natL n.natAbs).length c, .bool (decide (d < 0)), .slice B (natL d.natAbs).length e0] 26)) (.bool (decide (m < 0))) (.slice A2 (natL m.natAbs).length c2) (.bool (decide (f < 0))) (.slice B2 (natL f.natAbs).length e2)).alloc (.cells #[.bool false, .slice none 0 0, .bool false, .slice none 0 0] 26)
  have p2 := Quad.new ((w.alloc (.cells #[.bool (decide (n < 0)), .slice A (natL n.natAbs).length c, .bool (decide (d < 0)), .slice B (natL d.natAbs).length e0] 26)).alloc (.cells #[.bool (decide (m < 0)), .slice A2 (natL m.natAbs).length c2, .bool (decide (f < 0)), .slice B2 (natL f.natAbs).length e2] 26)) (.bool false) (.slice none 0 0) (.bool false) (.slice none 0 0)
  simp only [World.size_alloc] at p1 p2
  have PX := Hd p0
  have PY := Hd p1
  have PR := Hd p2
  have RX := Hd (hx.below b0)
  have KX := Hd (kx.below b0)
  have RY := Hd (hy.below b0)
  have KY := Hd (ky.below b0)
  have HB := Hd b0
  clear b0 p0 p1 p2 hx kx hy ky
  go_enter Tryd.func31, Tryd.ntmps31
  obtain ⟨W, E⟩ : ∃ W, W = (((w.alloc (.cells #[.bool (decide (n < 0)), .slice A (natL n.natAbs).length c, .bool (decide (d < 0)), .slice B (natL d.natAbs).length e0] 26)).alloc (.cells #[.bool (decide (m < 0)), .slice A2 (natL m.natAbs).length c2, .bool (decide (f < 0)), .slice B2 (natL f.natAbs).length e2] 26)).alloc (.cells #[.bool false, .slice none 0 0, .bool false, .slice none 0 0] 26)) := ⟨_, rfl⟩
  go_upto_region 1 with fail
  rw [← E] at PX PY PR RX KX RY KY  HB ⊢
  clear E
  have HS0 := Hd (show w.heap.size ≤ W.heap.size from HB.out.size)
  obtain ⟨l_y, y0, y1, y2, y3, -, -, -, -⟩ := PY.out.facts
  go_wp2_with fail
  refine (H2.out W RY.out).mono ?_
  rintro e wx1 ⟨rfl, hb⟩
  clear l_y y0 y1 y2 y3
  have HS_wx1 := Hd (show W.heap.size ≤ wx1.heap.size from hb.size)
  have PX := Hd (PX.out.below hb)
  have PY := Hd (PY.out.below hb)
  have PR := Hd (PR.out.below hb)
  have RX := Hd (RX.out.below hb)
  have KX := Hd (KX.out.below hb)
  have RY := Hd (RY.out.below hb)
  have KY := Hd (KY.out.below hb)
  have HB := Hd (belowTo HB.out hb)
  obtain ⟨l_x, x0, x1, x2, x3, -, -, -, -⟩ := PX.out.facts
  obtain ⟨l_y, y0, y1, y2, y3, -, -, -, -⟩ := PY.out.facts
  go_wp2_with fail
  refine (H3.out wx1 RX.out KX.out RY.out KY.out).mono ?_
  rintro e wx2 ⟨v, rfl, hI, hb⟩
  clear l_x x0 x1 x2 x3
  clear l_y y0 y1 y2 y3
  obtain ⟨A7, c7, B7, e7, rfl, -⟩ := hI.form
  have O7 := Hd hI
  clear hI
  have HS_wx2 := Hd (show wx1.heap.size ≤ wx2.heap.size from hb.size)
  have PX := Hd (PX.out.below hb)
  have PY := Hd (PY.out.below hb)
  have PR := Hd (PR.out.below hb)
  have RX := Hd (RX.out.below hb)
  have KX := Hd (KX.out.below hb)
  have RY := Hd (RY.out.below hb)
  have KY := Hd (KY.out.below hb)
  have HB := Hd (belowTo HB.out hb)
  obtain ⟨l_r, r0, r1, r2, r3, fr0, fr1, fr2, fr3⟩ := PR.out.facts
  have HQ := Hd (PR.out.store (.bool (decide (N < 0))) (.slice A7 (natL N.natAbs).length c7) (.bool (decide (D < 0))) (.slice B7 (natL D.natAbs).length e7))
  have HF := Hd (below4 HB.out (show w.heap.size ≤ w.heap.size + 1 + 1 by omega) (.bool (decide (N < 0))) (.slice A7 (natL N.natAbs).length c7) (.bool (decide (D < 0))) (.slice B7 (natL D.natAbs).length e7))
  have HO := Hd (O7.out.quad PR.out (.bool (decide (N < 0))) (.slice A7 (natL N.natAbs).length c7) (.bool (decide (D < 0))) (.slice B7 (natL D.natAbs).length e7))
  go_wp2_with fail
  obtain ⟨_, k0, k1, k2, k3, _⟩ := HQ.out.facts
  exact bodyPost_ret (by simp [results, Tryd.results31, go_sem, k0, k1, k2, k3]) rfl ⟨_, rfl, HO.out, HF.out⟩

theorem frac_Quo_any (n1 n2 n3 n4 : Bool) (A B A2 B2 : Option Addr) (c e0 c2 e2 : Nat) (xs ys us vs : List Nat) (N D K : Int) (C : ∀ (V : World), Raw V A c xs → Raw V B e0 ys → Raw V A2 c2 us → Raw V B2 e2 vs → Calls Tryd.prog 26 #[.func (.func 31) #[] #[], .agg #[.bool n1, .slice A xs.length c, .bool n2, .slice B ys.length e0], .agg #[.bool n3, .slice A2 us.length c2, .bool n4, .slice B2 vs.length e2]] V (RetFracOwn2 V.heap.size V N D K)) (w : World) (hx : Raw w A c xs) (kx : Raw w B e0 ys) (hy : Raw w A2 c2 us) (ky : Raw w B2 e2 vs) :
    Calls Tryd.prog 16 #[.agg #[.bool n1, .slice A xs.length c, .bool n2, .slice B ys.length e0], .agg #[.bool n3, .slice A2 us.length c2, .bool n4, .slice B2 vs.length e2]] w (RetFracOwn2 w.heap.size w N D K) := by
  have H2 := Hd C
  clear C
  have b0 := ((((Below.refl w.heap.size w).alloc (Nat.le_refl _) (.cells #[.bool n1, .slice A xs.length c, .bool n2, .slice B ys.length e0] 26)).alloc (by simp) (.cells #[.bool n3, .slice A2 us.length c2, .bool n4, .slice B2 vs.length e2] 26)).alloc (by simp; omega) (.cells #[.bool false, .slice none 0 0, .bool false, .slice none 0 0] 26))
  have p0 := ((Quad.new w (.bool n1) (.slice A xs.length c) (.bool n2) (.slice B ys.length e0)).alloc (.cells #[.bool n3, .slice A2 us.length c2, .bool n4, .slice B2 vs.length e2] 26)).alloc (.cells #[.bool false, .slice none 0 0, .bool false, .slice none 0 0] 26)
  have p1 := (Quad.new (w.alloc (.cells #[.bool n1, .slice A xs.length c, .bool n2, .slice B ys.length e0] 26)) (.bool n3) (.slice A2 us.length c2) (.bool n4) (.slice B2 vs.length e2)).alloc (.cells #[.bool false, .slice none 0 0, .bool false, .slice none 0 0] 26)
  have p2 := Quad.new ((w.alloc (.cells #[.bool n1, .slice A xs.length c, .bool n2, .slice B ys.length e0] 26)).alloc (.cells #[.bool n3, .slice A2 us.length c2, .bool n4, .slice B2 vs.length e2] 26)) (.bool false) (.slice none 0 0) (.bool false) (.slice none 0 0)
  simp only [World.size_alloc] at p1 p2
  have PX := Hd p0
  have PY := Hd p1
  have PR := Hd p2
  have RX := Hd (hx.below b0)
  have KX := Hd (kx.below b0)
  have RY := Hd (hy.below b0)
  have KY := Hd (ky.below b0)
  have HB := Hd b0
  clear b0 p0 p1 p2 hx kx hy ky
  go_enter Tryd.func16, Tryd.ntmps16
  obtain ⟨W, E⟩ : ∃ W, W = (((w.alloc (.cells #[.bool n1, .slice A xs.length c, .bool n2, .slice B ys.length e0] 26)).alloc (.cells #[.bool n3, .slice A2 us.length c2, .bool n4, .slice B2 vs.length e2] 26)).alloc (.cells #[.bool false, .slice none 0 0, .bool false, .slice none 0 0] 26)) := ⟨_, rfl⟩
  go_upto_region 1 with fail
  rw [← E] at PX PY PR RX KX RY KY  HB ⊢
  clear E
  have HS0 := Hd (show w.heap.size ≤ W.heap.size from HB.out.size)
  obtain ⟨l_x, x0, x1, x2, x3, -, -, -, -⟩ := PX.out.facts
  obtain ⟨l_y, y0, y1, y2, y3, -, -, -, -⟩ := PY.out.facts
  go_wp2_with fail
  refine (H2.out W RX.out KX.out RY.out KY.out).mono ?_
  rintro e wx1 ⟨v, rfl, hI, hb⟩
  clear l_x x0 x1 x2 x3
  clear l_y y0 y1 y2 y3
  obtain ⟨A8, c8, B8, e8, rfl, -⟩ := hI.form
  have O8 := Hd hI
  clear hI
  have HS_wx1 := Hd (show W.heap.size ≤ wx1.heap.size from hb.size)
  have PR := Hd (PR.out.below hb)
  have HB := Hd (belowTo HB.out hb)
  obtain ⟨l_r, r0, r1, r2, r3, fr0, fr1, fr2, fr3⟩ := PR.out.facts
  have HQ := Hd (PR.out.store (.bool (decide (N < 0))) (.slice A8 (natL N.natAbs).length c8) (.bool (decide (D < 0))) (.slice B8 (natL D.natAbs).length e8))
  have HF := Hd (below4 HB.out (show w.heap.size ≤ w.heap.size + 1 + 1 by omega) (.bool (decide (N < 0))) (.slice A8 (natL N.natAbs).length c8) (.bool (decide (D < 0))) (.slice B8 (natL D.natAbs).length e8))
  have HO := Hd (O8.out.quad PR.out (.bool (decide (N < 0))) (.slice A8 (natL N.natAbs).length c8) (.bool (decide (D < 0))) (.slice B8 (natL D.natAbs).length e8))
  go_wp2_with fail
  obtain ⟨_, k0, k1, k2, k3, _⟩ := HQ.out.facts
  exact bodyPost_ret (by simp [results, Tryd.results16, go_sem, k0, k1, k2, k3]) rfl ⟨_, rfl, HO.out.base HS0.out, HF.out⟩
theorem frac_Quo_nought (n d m f : Int) (A B A2 B2 : Option Addr) (c e0 c2 e2 : Nat) (w : World) (hx : Raw w A c (natL n.natAbs)) (kx : Raw w B e0 (natL d.natAbs)) (hy : Raw w A2 c2 (natL m.natAbs)) (ky : Raw w B2 e2 (natL f.natAbs)) (f1 : Fine n d) (f2 : Fine m f) (hm0 : m = 0) :
    Calls Tryd.prog 16 #[.agg #[.bool (decide (n < 0)), .slice A (natL n.natAbs).length c, .bool (decide (d < 0)), .slice B (natL d.natAbs).length e0], .agg #[.bool (decide (m < 0)), .slice A2 (natL m.natAbs).length c2, .bool (decide (f < 0)), .slice B2 (natL f.natAbs).length e2]] w (RetFracOwn2 w.heap.size w 0 0 3) :=
  frac_Quo_any _ _ _ _ A B A2 B2 c e0 c2 e2 _ _ _ _ 0 0 3 (fun V a1 a2 a3 a4 => do_nought _ _ _ _ A B A2 B2 c e0 c2 e2 _ _ _ _ 0 (fun V a1 a2 a3 a4 => clos_quo_nought n d m f A B A2 B2 c e0 c2 e2 V a1 a2 a3 a4 hm0) V a1 a2 a3 a4 (by rw [f1.chk, f2.chk]; rfl)) w hx kx hy ky
theorem frac_Quo_good (n d m f : Int) (A B A2 B2 : Option Addr) (c e0 c2 e2 : Nat) (w : World) (hx : Raw w A c (natL n.natAbs)) (kx : Raw w B e0 (natL d.natAbs)) (hy : Raw w A2 c2 (natL m.natAbs)) (ky : Raw w B2 e2 (natL f.natAbs)) (f1 : Fine n d) (f2 : Fine m f) (hm0 : m ≠ 0) :
    Calls Tryd.prog 16 #[.agg #[.bool (decide (n < 0)), .slice A (natL n.natAbs).length c, .bool (decide (d < 0)), .slice B (natL d.natAbs).length e0], .agg #[.bool (decide (m < 0)), .slice A2 (natL m.natAbs).length c2, .bool (decide (f < 0)), .slice B2 (natL f.natAbs).length e2]] w (RetFracOwn2 w.heap.size w (ansN (quoN n d m f) (quoD n d m f)) (ansD (quoN n d m f) (quoD n d m f)) (ansK (quoN n d m f) (quoD n d m f))) := by
  have hl1 : lz n ≤ 2048 := f1.num
  have hl2 : lz d ≤ 2048 := f1.den
  have hl3 : lz m ≤ 2048 := f2.num
  have hl4 : lz f ≤ 2048 := f2.den
  have hp1 := f1.pos
  have hp2 := f2.pos
  exact frac_Quo_any _ _ _ _ A B A2 B2 c e0 c2 e2 _ _ _ _ _ _ _ (fun V a1 a2 a3 a4 => do_over _ _ _ _ A B A2 B2 c e0 c2 e2 _ _ _ _ _ _ (fun V a1 a2 a3 a4 => clos_quo n d m f A B A2 B2 c e0 c2 e2 V a1 a2 a3 a4 (by omega) (by omega) (by omega) (by omega) (by omega) hm0) V a1 a2 a3 a4 (by rw [f1.chk, f2.chk]; rfl)) w hx kx hy ky
/- Facts of memory in one bundle: each stays true as memory grows. -/

structure Kp (P : World → Prop) (V : World) : Prop where
  h : P V
  st : ∀ V V', P V → Below V.heap.size V V' → P V'
theorem Kp.below {P : World → Prop} {V V' : World} (k : Kp P V) (hb : Below V.heap.size V V') : Kp P V' := ⟨k.st _ _ k.h hb, k.st⟩
theorem Kp.add {P Q : World → Prop} {V : World} (k : Kp P V) (q : Q V) (s : ∀ V V', Q V → Below V.heap.size V V' → Q V') : Kp (fun V => Q V ∧ P V) V :=
  ⟨⟨q, k.h⟩, fun V V' h hb => ⟨s V V' h.1 hb, k.st V V' h.2 hb⟩⟩
theorem Kp.base {w V : World} (h : Below w.heap.size w V) : Kp (fun V => Below w.heap.size w V) V := ⟨h, fun _ _ a b => belowTo a b⟩
/- The calls of package frac over fractions that may be, wherever their limbs lie: what each law hands to its walk. -/

def OpC (F : FuncId) (n d m f N D K : Int) : Prop := ∀ (V : World) (A B A2 B2 : Option Addr) (c e0 c2 e2 : Nat), Raw V A c (natL n.natAbs) → Raw V B e0 (natL d.natAbs) → Raw V A2 c2 (natL m.natAbs) → Raw V B2 e2 (natL f.natAbs) →
  Calls Tryd.prog F #[.agg #[.bool (decide (n < 0)), .slice A (natL n.natAbs).length c, .bool (decide (d < 0)), .slice B (natL d.natAbs).length e0], .agg #[.bool (decide (m < 0)), .slice A2 (natL m.natAbs).length c2, .bool (decide (f < 0)), .slice B2 (natL f.natAbs).length e2]] V (RetFracOwn2 V.heap.size V N D K)
def LikeC (N D K : Int) : Prop := ∀ (V : World) (A B A2 B2 : Option Addr) (c e0 c2 e2 : Nat), Raw V A c (natL N.natAbs) → Raw V B e0 (natL D.natAbs) → Raw V A2 c2 (natL N.natAbs) → Raw V B2 e2 (natL D.natAbs) →
  Calls Tryd.prog 15 #[.agg #[.bool (decide (N < 0)), .slice A (natL N.natAbs).length c, .bool (decide (D < 0)), .slice B (natL D.natAbs).length e0], .int .i64 K, .agg #[.bool (decide (N < 0)), .slice A2 (natL N.natAbs).length c2, .bool (decide (D < 0)), .slice B2 (natL D.natAbs).length e2], .int .i64 K] V fun e w' => e = .returned (.bool true) ∧ Below V.heap.size V w'
def SignC (n d s : Int) : Prop := ∀ (V : World) (A B : Option Addr) (c e0 : Nat), Raw V A c (natL n.natAbs) → Raw V B e0 (natL d.natAbs) →
  Calls Tryd.prog 11 #[.agg #[.bool (decide (n < 0)), .slice A (natL n.natAbs).length c, .bool (decide (d < 0)), .slice B (natL d.natAbs).length e0]] V fun e w' => e = .returned (.int .i64 s) ∧ Below V.heap.size V w'
theorem add_c {n d m f N D K : Int} (f1 : Fine n d) (f2 : Fine m f) (hN : N = ansN (addN n d m f) (addD n d m f)) (hD : D = ansD (addN n d m f) (addD n d m f)) (hK : K = ansK (addN n d m f) (addD n d m f)) : OpC 13 n d m f N D K := by
  subst hN hD hK
  exact fun V A B A2 B2 c e0 c2 e2 a1 a2 a3 a4 => frac_Add_good n d m f A B A2 B2 c e0 c2 e2 V a1 a2 a3 a4 f1 f2
theorem sub_c {n d m f N D K : Int} (f1 : Fine n d) (f2 : Fine m f) (hN : N = ansN (subN n d m f) (subD n d m f)) (hD : D = ansD (subN n d m f) (subD n d m f)) (hK : K = ansK (subN n d m f) (subD n d m f)) : OpC 10 n d m f N D K := by
  subst hN hD hK
  exact fun V A B A2 B2 c e0 c2 e2 a1 a2 a3 a4 => frac_Sub_good n d m f A B A2 B2 c e0 c2 e2 V a1 a2 a3 a4 f1 f2
theorem mul_c {n d m f N D K : Int} (f1 : Fine n d) (f2 : Fine m f) (hN : N = ansN (mulN n d m f) (mulD n d m f)) (hD : D = ansD (mulN n d m f) (mulD n d m f)) (hK : K = ansK (mulN n d m f) (mulD n d m f)) : OpC 14 n d m f N D K := by
  subst hN hD hK
  exact fun V A B A2 B2 c e0 c2 e2 a1 a2 a3 a4 => frac_Mul_good n d m f A B A2 B2 c e0 c2 e2 V a1 a2 a3 a4 f1 f2
theorem quo_c {n d m f N D K : Int} (f1 : Fine n d) (f2 : Fine m f) (hm : m ≠ 0) (hN : N = ansN (quoN n d m f) (quoD n d m f)) (hD : D = ansD (quoN n d m f) (quoD n d m f)) (hK : K = ansK (quoN n d m f) (quoD n d m f)) : OpC 16 n d m f N D K := by
  subst hN hD hK
  exact fun V A B A2 B2 c e0 c2 e2 a1 a2 a3 a4 => frac_Quo_good n d m f A B A2 B2 c e0 c2 e2 V a1 a2 a3 a4 f1 f2 hm
theorem quo_nought_c {n d m f : Int} (f1 : Fine n d) (f2 : Fine m f) (hm : m = 0) : OpC 16 n d m f 0 0 3 :=
  fun V A B A2 B2 c e0 c2 e2 a1 a2 a3 a4 => frac_Quo_nought n d m f A B A2 B2 c e0 c2 e2 V a1 a2 a3 a4 f1 f2 hm
theorem chk_none : chkE (decide ((0 : Int) < 0)) (decide ((0 : Int) < 0)) (natL (0 : Int).natAbs) (natL (0 : Int).natAbs) = 1 := by
  rw [show natL (0 : Int).natAbs = [] from natL_zero]; rfl
theorem bad_c {n d : Int} (f1 : Fine n d) : (chkE (decide (n < 0)) (decide (d < 0)) (natL n.natAbs) (natL d.natAbs) == 0 && chkE (decide ((0 : Int) < 0)) (decide ((0 : Int) < 0)) (natL (0 : Int).natAbs) (natL (0 : Int).natAbs) == 0) = false := by
  rw [chk_none, f1.chk]; rfl
theorem add_none_c {n d : Int} (f1 : Fine n d) : OpC 13 n d 0 0 0 0 1 :=
  fun V A B A2 B2 c e0 c2 e2 a1 a2 a3 a4 => frac_Add_bad _ _ _ _ A B A2 B2 c e0 c2 e2 _ _ _ _ V a1 a2 a3 a4 (bad_c f1)
theorem mul_none_c {n d : Int} (f1 : Fine n d) : OpC 14 n d 0 0 0 0 1 :=
  fun V A B A2 B2 c e0 c2 e2 a1 a2 a3 a4 => frac_Mul_bad _ _ _ _ A B A2 B2 c e0 c2 e2 _ _ _ _ V a1 a2 a3 a4 (bad_c f1)
theorem sign_c {n d : Int} (f1 : Fine n d) : SignC n d n.sign :=
  fun V A B c e0 a1 a2 => frac_Sign_good n d n.sign A B c e0 V a1 a2 f1.chk rfl
theorem like_c {n d N D K : Int} (hp : 0 < d) (h1 : gcdZ n d = 1) (hN : N = ansN n d) (hD : D = ansD n d) (hK : K = ansK n d) : LikeC N D K :=
  fun V A B A2 B2 c e0 c2 e2 a1 a2 a3 a4 => like_ans n d N D K A B A2 B2 c e0 c2 e2 V a1 a2 a3 a4 hp h1 hN hD hK
theorem like_fine {n d : Int} (f1 : Fine n d) : LikeC n d 0 :=
  fun V A B A2 B2 c e0 c2 e2 a1 a2 a3 a4 => like_same n d A B A2 B2 c e0 c2 e2 V a1 a2 a3 a4 f1
theorem ans_cases {n d N D K : Int} (hN : N = ansN n d) (hD : D = ansD n d) (hK : K = ansK n d) : (K = 0 ∧ N = n ∧ D = d ∧ lz n ≤ 2048 ∧ lz d ≤ 2048) ∨ (K = 4 ∧ N = 0 ∧ D = 0) := by
  subst hN hD hK
  unfold ansN ansD ansK
  by_cases hl : lz n ≤ 2048 ∧ lz d ≤ 2048
  · simp only [if_pos hl]; exact .inl ⟨trivial, trivial, trivial, hl⟩
  · simp only [if_neg hl]; exact .inr ⟨trivial, trivial, trivial⟩
theorem ans_fine {n d : Int} (f : Fine n d) : ansN n d = n ∧ ansD n d = d ∧ ansK n d = 0 := by
  have hl : lz n ≤ 2048 ∧ lz d ≤ 2048 := ⟨f.num, f.den⟩
  unfold ansN ansD ansK
  simp only [if_pos hl]
  exact ⟨trivial, trivial, trivial⟩
theorem add_one (n m : Int) {d f : Int} (hd : 0 < d) (hf : 0 < f) : gcdZ (addN n d m f) (addD n d m f) = 1 := low_one _ (Int.mul_pos hd hf)
theorem mul_one (n m : Int) {d f : Int} (hd : 0 < d) (hf : 0 < f) : gcdZ (mulN n d m f) (mulD n d m f) = 1 := low_one _ (Int.mul_pos hd hf)
theorem fine_add {n d m f N D : Int} (f1 : Fine n d) (f2 : Fine m f) (hN : N = addN n d m f) (hD : D = addD n d m f) (l1 : lz (addN n d m f) ≤ 2048) (l2 : lz (addD n d m f) ≤ 2048) : Fine N D := by
  rw [hN, hD]; exact Fine.mk_low (addD_pos n m f1.pos f2.pos) (add_one n m f1.pos f2.pos) l1 l2
theorem fine_mul {n d m f N D : Int} (f1 : Fine n d) (f2 : Fine m f) (hN : N = mulN n d m f) (hD : D = mulD n d m f) (l1 : lz (mulN n d m f) ≤ 2048) (l2 : lz (mulD n d m f) ≤ 2048) : Fine N D := by
  rw [hN, hD]; exact Fine.mk_low (mulD_pos n m f1.pos f2.pos) (mul_one n m f1.pos f2.pos) l1 l2
theorem like_add {n d m f N D K : Int} (f1 : Fine n d) (f2 : Fine m f) (hN : N = ansN (addN n d m f) (addD n d m f)) (hD : D = ansD (addN n d m f) (addD n d m f)) (hK : K = ansK (addN n d m f) (addD n d m f)) : LikeC N D K :=
  like_c (addD_pos n m f1.pos f2.pos) (add_one n m f1.pos f2.pos) hN hD hK
theorem like_mul {n d m f N D K : Int} (f1 : Fine n d) (f2 : Fine m f) (hN : N = ansN (mulN n d m f) (mulD n d m f)) (hD : D = ansD (mulN n d m f) (mulD n d m f)) (hK : K = ansK (mulN n d m f) (mulD n d m f)) : LikeC N D K :=
  like_c (mulD_pos n m f1.pos f2.pos) (mul_one n m f1.pos f2.pos) hN hD hK
theorem sub_back_c {n d m f N D : Int} (f1 : Fine n d) (f2 : Fine m f) (fa : Fine N D) (hN : N = addN n d m f) (hD : D = addD n d m f) : OpC 10 N D m f n d 0 := by
  have h := sub_back f1 f2
  have a := ans_fine f1
  rw [← hN, ← hD] at h
  exact sub_c fa f2 (by rw [h.1, h.2, a.1]) (by rw [h.1, h.2, a.2.1]) (by rw [h.1, h.2, a.2.2])
theorem quo_back_c {n d m f N D : Int} (f1 : Fine n d) (f2 : Fine m f) (fa : Fine N D) (hN : N = mulN n d m f) (hD : D = mulD n d m f) (hm : m ≠ 0) : OpC 16 N D m f n d 0 := by
  have h := quo_back f1 f2 hm
  have a := ans_fine f1
  rw [← hN, ← hD] at h
  exact quo_c fa f2 hm (by rw [h.1, h.2, a.1]) (by rw [h.1, h.2, a.2.1]) (by rw [h.1, h.2, a.2.2])
end Go.Proofs.YtadmoheohmbieaaDoor
