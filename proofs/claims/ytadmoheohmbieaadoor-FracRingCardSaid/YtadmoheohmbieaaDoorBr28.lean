/- Several texts in one: FOps, FPlain, FSame, FLike. -/
import Derived.Test.YtadmoheohmbieaaDoorBr19
import Derived.Test.YtadmoheohmbieaaDoorBr23
import Derived.Test.YtadmoheohmbieaaDoorBr27
set_option maxRecDepth 100000
set_option maxHeartbeats 8000000
/- The four operations of package frac; Cmp. (Written by wip/frac/genfops.py.) -/
namespace Go.Proofs.YtadmoheohmbieaaDoor
open Go.RowKit

theorem Reads.blk {w : World} {g n size : Nat} {t : TypeId} {cs : List Value} (h : Blk w g t cs.toArray) (hl : cs.length = n * size) : Reads w w.heap.size size (some ⟨g, 0, none⟩) n cs :=
  ⟨hl, fun _ => ⟨⟨g, 0, none⟩, rfl, h.lt, fun j u hu => by
    rw [show (⟨g, 0, none⟩ : Addr).add j = ⟨g, j, none⟩ by unfold Addr.add; split <;> simp_all, h.cell j, ← hu]
    simp⟩⟩
theorem FracIn.quad {w : World} {base g : Nat} {v a b c d : Value} {n m : Int} (h : FracIn w base v n m) (q : Quad w g a b c d) (x y z u : Value) : FracIn ((((w.setCell ⟨g, 0, none⟩ x).setCell ⟨g, 1, none⟩ y).setCell ⟨g, 2, none⟩ z).setCell ⟨g, 3, none⟩ u) base v n m := by
  obtain ⟨A, k, B, e, h1, h2, h3⟩ := h.form
  exact ⟨A, k, B, e, h1, h2.quad q _ _ _ _, h3.quad q _ _ _ _⟩
theorem FracIn.below {w w' : World} {base : Nat} {v : Value} {n d : Int} (h : FracIn w base v n d) (hb : Below w.heap.size w w') : FracIn w' base v n d := by
  obtain ⟨A, k, B, e, h1, h2, h3⟩ := h.form
  exact ⟨A, k, B, e, h1, h2.below hb, h3.below hb⟩

theorem ratio_ChecksI (l : List FLoc) (ks : Nat → Bool) (A : Option Addr) (c : Nat) (hl : l.length ≤ 9223372036854775807) (w : World) (h : Reads w w.heap.size 4 A l.length (cellsF l))
    (H : ∀ q (hq : q < l.length), ∀ V, Below w.heap.size w V → Calls Tryd.prog 19 #[l[q].val] V fun e w' => e = .returned (.int .i64 (if ks q then 0 else 1)) ∧ Below V.heap.size V w') :
    Calls Tryd.prog 22 #[.slice A l.length c] w fun e w' => e = .returned (.bool ((List.range l.length).all ks)) ∧ Below w.heap.size w w' := by
  have HR := Hd h
  have HS := Hd H
  clear h H
  have H0 := Hd (by intro j hj; omega : ∀ j (_ : j < 0), (h : j < l.length) → ks j = true)
  go_enter Tryd.func22, Tryd.ntmps22
  go_wp2_with fail
  go_loopw [7] (fun s wr => ∃ i : Nat, s = .int .i64 i ∧ i ≤ l.length ∧ Hid (∀ j (_ : j < i), (h : j < l.length) → ks j = true) ∧ Below w.heap.size w wr) (fun s _ => l.length - (intOf s).toNat)
  case atStart => exact ⟨0, rfl, Nat.zero_le _, H0, Below.refl _ _⟩
  case round =>
    obtain ⟨i, rfl, hi, HN, hb⟩ := hrel
    clear H0
    by_cases hlt : i < l.length
    · have a0 : (0 : Int) ≤ (i : Int) := by omega
      have a1 : (i : Int) < (l.length : Int) := by omega
      obtain ⟨e0, e1, e2, e3⟩ := cellsF_get l i hlt
      obtain ⟨ad, rfl, hbl, c0, c1, c2, c3⟩ := (HR.out.below hb).row4 hlt e0 e1 e2 e3
      have C := HS.out i hlt
      unfold FLoc.val at C
      have HB := Hd hb
      clear e0 e1 e2 e3 hbl hb
      by_cases hlong : ks i = true
      · rw [if_pos hlong] at C
        have C := Hd C
        have HL := Hd hlong
        clear hlong
        go_wp2_with (first | (go_at_call 19; with_reducible refine (C.out _ (HB.out.alloc HB.out.size _)).mono ?_; rintro e w' ⟨rfl, hb'⟩; have B1 := belowTo (HB.out.alloc HB.out.size _) hb'))
        go_roundw
        case rel =>
          refine ⟨i + 1, by go_num, hlt, Hd fun j hj h => ?_, B1⟩
          rcases (by omega : j < i ∨ j = i) with hj | rfl
          · exact HN.out j hj h
          · exact HL.out
        case measure => simp [intOf]; omega
      · rw [if_neg hlong] at C
        have C := Hd C
        have HL := Hd hlong
        clear hlong
        go_wp2_with (first | (go_at_call 19; with_reducible refine (C.out _ (HB.out.alloc HB.out.size _)).mono ?_; rintro e w' ⟨rfl, hb'⟩; have B1 := belowTo (HB.out.alloc HB.out.size _) hb'))
        go_ret
        have e : (List.range l.length).all ks = false := List.all_eq_false.2 ⟨i, List.mem_range.2 hlt, HL.out⟩
        exact ⟨by rw [e]; rfl, B1⟩
    · have HB := Hd hb
      clear hb
      go_wp2_with fail
      go_ret
      have e : (List.range l.length).all ks = true := List.all_eq_true.2 fun x hx => by
        have hj := List.mem_range.1 hx
        exact HN.out x (by omega) hj
      exact ⟨by rw [e]; rfl, HB.out⟩

theorem checks_two (n1 n2 n3 n4 : Bool) (A B A2 B2 : Option Addr) (c e0 c2 e2 : Nat) (xs ys us vs : List Nat) (V : World) (g' : Nat) (hx : Raw V A c xs) (kx : Raw V B e0 ys) (hy : Raw V A2 c2 us) (ky : Raw V B2 e2 vs) (hg : V.heap.size = g') :
    Calls Tryd.prog 22 #[.slice (some ⟨g', 0, none⟩) 2 2] (V.alloc (.cells #[.bool n1, .slice A xs.length c, .bool n2, .slice B ys.length e0, .bool n3, .slice A2 us.length c2, .bool n4, .slice B2 vs.length e2] 26)) fun e w' => e = .returned (.bool (chkE n1 n2 xs ys == 0 && chkE n3 n4 us vs == 0)) ∧ Below (V.alloc (.cells #[.bool n1, .slice A xs.length c, .bool n2, .slice B ys.length e0, .bool n3, .slice A2 us.length c2, .bool n4, .slice B2 vs.length e2] 26)).heap.size (V.alloc (.cells #[.bool n1, .slice A xs.length c, .bool n2, .slice B ys.length e0, .bool n3, .slice A2 us.length c2, .bool n4, .slice B2 vs.length e2] 26)) w' := by
  have := ratio_ChecksI [⟨n1, A, xs.length, c, n2, B, ys.length, e0⟩, ⟨n3, A2, us.length, c2, n4, B2, vs.length, e2⟩] (fun i => if i = 0 then chkE n1 n2 xs ys == 0 else chkE n3 n4 us vs == 0) (some ⟨g', 0, none⟩) 2 (by simp) (V.alloc (.cells #[.bool n1, .slice A xs.length c, .bool n2, .slice B ys.length e0, .bool n3, .slice A2 us.length c2, .bool n4, .slice B2 vs.length e2] 26))
    (by subst hg; exact Reads.blk (Blk.new V 26 #[.bool n1, .slice A xs.length c, .bool n2, .slice B ys.length e0, .bool n3, .slice A2 us.length c2, .bool n4, .slice B2 vs.length e2]) rfl)
    (by
      intro q hq W hW
      rcases (by simp at hq; omega : q = 0 ∨ q = 1) with rfl | rfl
      · have := ratio_Check n1 n2 A B c e0 xs ys W ((hx.alloc _).below hW) ((kx.alloc _).below hW)
        rw [chkE_bool] at this
        exact this
      · have := ratio_Check n3 n4 A2 B2 c2 e2 us vs W ((hy.alloc _).below hW) ((ky.alloc _).below hW)
        rw [chkE_bool] at this
        exact this)
  simpa [List.range, List.range.loop] using this

structure Fine (n d : Int) : Prop where
  chk : chkE (decide (n < 0)) (decide (d < 0)) (natL n.natAbs) (natL d.natAbs) = 0
  num : Fit n
  den : Fit d
  pos : 0 < d
  low : gcdZ n d = 1
theorem fine_of {n1 n2 : Bool} {xs ys : List Nat} (hx : Limbs xs) (hy : Limbs ys) (h0 : chkE n1 n2 xs ys = 0) : ∃ n d, Fine n d ∧ n1 = decide (n < 0) ∧ n2 = decide (d < 0) ∧ xs = natL n.natAbs ∧ ys = natL d.natAbs := by
  have hc := h0
  unfold chkE mkOk at h0
  cases o1 : okI n1 xs with
  | false => rw [o1] at h0; simp at h0
  | true =>
    cases o2 : okI n2 ys with
    | false => rw [o1, o2] at h0; simp at h0
    | true =>
      obtain ⟨a1, a2, a3⟩ := ok_num hx o1
      obtain ⟨b1, b2, b3⟩ := ok_num hy o2
      rw [o1, o2] at h0
      simp only [Bool.and_self, if_true] at h0
      generalize ival n1 xs = n at a1 a2 a3 h0
      generalize ival n2 ys = d at b1 b2 b3 h0
      subst a1 a2 b1 b2
      split at h0
      · next h1 => exact ⟨n, d, ⟨hc, a3, b3, h1.1, h1.2⟩, rfl, rfl, rfl, rfl⟩
      · simp at h0
def ansN (n d : Int) : Int := if lz n ≤ 2048 ∧ lz d ≤ 2048 then n else 0
def ansD (n d : Int) : Int := if lz n ≤ 2048 ∧ lz d ≤ 2048 then d else 0
def ansK (n d : Int) : Int := if lz n ≤ 2048 ∧ lz d ≤ 2048 then 0 else 4
theorem frac_answered (n d : Int) (A B : Option Addr) (c e0 : Nat) (w : World) (h : Raw w A c (natL n.natAbs)) (g : Raw w B e0 (natL d.natAbs)) :
    Calls Tryd.prog 45 #[.agg #[.bool (decide (n < 0)), .slice A (natL n.natAbs).length c, .bool (decide (d < 0)), .slice B (natL d.natAbs).length e0]] w (RetFracOwn2 w.heap.size w (ansN n d) (ansD n d) (ansK n d)) := by
  unfold ansN ansD ansK
  by_cases hl : lz n ≤ 2048 ∧ lz d ≤ 2048
  · simp only [if_pos hl]; exact frac_answered_fits n d A B c e0 w h g hl.1 hl.2
  · simp only [if_neg hl]; exact frac_answered_long n d A B c e0 w h g (by omega)
def RetFracB (w : World) (n d : Int) (b : Bool) (e : Ending) (w' : World) : Prop := ∃ v, e = .returned (.tuple #[v, .bool b]) ∧ FracIn w' 0 v n d ∧ Below w.heap.size w w'

theorem frac_Cmp_good (n d m f k : Int) (A B A2 B2 : Option Addr) (c e0 c2 e2 : Nat) (w : World) (hx : Raw w A c (natL n.natAbs)) (kx : Raw w B e0 (natL d.natAbs)) (hy : Raw w A2 c2 (natL m.natAbs)) (ky : Raw w B2 e2 (natL f.natAbs)) (f1 : Fine n d) (f2 : Fine m f) (hk : k = cmpz (n * f) (m * d)) :
    Calls Tryd.prog 9 #[.agg #[.bool (decide (n < 0)), .slice A (natL n.natAbs).length c, .bool (decide (d < 0)), .slice B (natL d.natAbs).length e0], .agg #[.bool (decide (m < 0)), .slice A2 (natL m.natAbs).length c2, .bool (decide (f < 0)), .slice B2 (natL f.natAbs).length e2]] w fun e w' => e = .returned (.int .i64 k) ∧ Below w.heap.size w w' := by
  have hc : (chkE (decide (n < 0)) (decide (d < 0)) (natL n.natAbs) (natL d.natAbs) == 0 && chkE (decide (m < 0)) (decide (f < 0)) (natL m.natAbs) (natL f.natAbs) == 0) = true := by rw [f1.chk, f2.chk]; rfl
  have C1 := fun (V : World) (g' : Nat) (a1 : Raw V A c (natL n.natAbs)) (a2 : Raw V B e0 (natL d.natAbs)) (a3 : Raw V A2 c2 (natL m.natAbs)) (a4 : Raw V B2 e2 (natL f.natAbs)) (hg : V.heap.size = g') => checks_two (decide (n < 0)) (decide (d < 0)) (decide (m < 0)) (decide (f < 0)) A B A2 B2 c e0 c2 e2 (natL n.natAbs) (natL d.natAbs) (natL m.natAbs) (natL f.natAbs) V g' a1 a2 a3 a4 hg
  rw [hc] at C1
  have H1 := Hd C1
  clear C1
  have hl1 : lz n ≤ 2048 := f1.num
  have hl2 : lz d ≤ 2048 := f1.den
  have hl3 : lz m ≤ 2048 := f2.num
  have hl4 : lz f ≤ 2048 := f2.den
  have H2 := Hd (fun (V : World) (a1 : Raw V A c (natL n.natAbs)) (a2 : Raw V B e0 (natL d.natAbs)) (a3 : Raw V A2 c2 (natL m.natAbs)) (a4 : Raw V B2 e2 (natL f.natAbs)) => ratio_Cmp n d m f k A B A2 B2 c e0 c2 e2 V a1 a2 a3 a4 (by omega) (by omega) (by omega) (by omega) hk)
  clear hc hk f1 f2 hl1 hl2 hl3 hl4
  have b0 := (((Below.refl w.heap.size w).alloc (Nat.le_refl _) (.cells #[.bool (decide (n < 0)), .slice A (natL n.natAbs).length c, .bool (decide (d < 0)), .slice B (natL d.natAbs).length e0] 26)).alloc (by simp) (.cells #[.bool (decide (m < 0)), .slice A2 (natL m.natAbs).length c2, .bool (decide (f < 0)), .slice B2 (natL f.natAbs).length e2] 26))
  have p0 := (Quad.new w (.bool (decide (n < 0))) (.slice A (natL n.natAbs).length c) (.bool (decide (d < 0))) (.slice B (natL d.natAbs).length e0)).alloc (.cells #[.bool (decide (m < 0)), .slice A2 (natL m.natAbs).length c2, .bool (decide (f < 0)), .slice B2 (natL f.natAbs).length e2] 26)
  have p1 := Quad.new (w.alloc (.cells #[.bool (decide (n < 0)), .slice A (natL n.natAbs).length c, .bool (decide (d < 0)), .slice B (natL d.natAbs).length e0] 26)) (.bool (decide (m < 0))) (.slice A2 (natL m.natAbs).length c2) (.bool (decide (f < 0))) (.slice B2 (natL f.natAbs).length e2)
  simp only [World.size_alloc] at p1
  have PX := Hd p0
  have PY := Hd p1
  have RX := Hd (hx.below b0)
  have KX := Hd (kx.below b0)
  have RY := Hd (hy.below b0)
  have KY := Hd (ky.below b0)
  have HB := Hd b0
  clear b0 p0 p1 hx kx hy ky
  go_enter Tryd.func9, Tryd.ntmps9
  obtain ⟨W, E⟩ : ∃ W, W = ((w.alloc (.cells #[.bool (decide (n < 0)), .slice A (natL n.natAbs).length c, .bool (decide (d < 0)), .slice B (natL d.natAbs).length e0] 26)).alloc (.cells #[.bool (decide (m < 0)), .slice A2 (natL m.natAbs).length c2, .bool (decide (f < 0)), .slice B2 (natL f.natAbs).length e2] 26)) := ⟨_, rfl⟩
  go_upto_region 1 with fail
  rw [← E] at PX PY RX KX RY KY  HB ⊢
  clear E
  have HS0 := Hd (show w.heap.size ≤ W.heap.size from HB.out.size)
  obtain ⟨l_x, x0, x1, x2, x3, -, -, -, -⟩ := PX.out.facts
  obtain ⟨l_y, y0, y1, y2, y3, -, -, -, -⟩ := PY.out.facts
  go_wp2_with fail
  refine (H1.out W _ RX.out KX.out RY.out KY.out rfl).mono ?_
  rintro e wx1 ⟨rfl, hb⟩
  clear l_x x0 x1 x2 x3
  clear l_y y0 y1 y2 y3
  have hb := ((Below.refl W.heap.size W).alloc (Nat.le_refl _) (.cells #[.bool (decide (n < 0)), .slice A (natL n.natAbs).length c, .bool (decide (d < 0)), .slice B (natL d.natAbs).length e0, .bool (decide (m < 0)), .slice A2 (natL m.natAbs).length c2, .bool (decide (f < 0)), .slice B2 (natL f.natAbs).length e2] 26)).trans (hb.mono (by simp))
  have HS_wx1 := Hd (show W.heap.size ≤ wx1.heap.size from hb.size)
  have PX := Hd (PX.out.below hb)
  have PY := Hd (PY.out.below hb)
  have RX := Hd (RX.out.below hb)
  have KX := Hd (KX.out.below hb)
  have RY := Hd (RY.out.below hb)
  have KY := Hd (KY.out.below hb)
  have HB := Hd (belowTo HB.out hb)
  obtain ⟨l_x, x0, x1, x2, x3, -, -, -, -⟩ := PX.out.facts
  obtain ⟨l_y, y0, y1, y2, y3, -, -, -, -⟩ := PY.out.facts
  go_wp2_with fail
  refine (H2.out wx1 RX.out KX.out RY.out KY.out).mono ?_
  rintro e wx2 ⟨rfl, hb⟩
  clear l_x x0 x1 x2 x3
  clear l_y y0 y1 y2 y3
  have HS_wx2 := Hd (show wx1.heap.size ≤ wx2.heap.size from hb.size)
  have PX := Hd (PX.out.below hb)
  have PY := Hd (PY.out.below hb)
  have RX := Hd (RX.out.below hb)
  have KX := Hd (KX.out.below hb)
  have RY := Hd (RY.out.below hb)
  have KY := Hd (KY.out.below hb)
  have HB := Hd (belowTo HB.out hb)
  go_wp2_with fail
  go_ret
  exact ⟨rfl, HB.out⟩
/- Fractions as plain numbers: lowest terms are one, and stand in one order. -/

theorem gcdZ_dvd (n d : Int) : gcdZ n d ∣ n ∧ gcdZ n d ∣ d :=
  ⟨Int.ofNat_dvd_left.2 (Nat.gcd_dvd_left _ _), Int.ofNat_dvd_left.2 (Nat.gcd_dvd_right _ _)⟩
theorem low_parts (n : Int) {d : Int} (hd : 0 < d) : lowN n d * gcdZ n d = n ∧ lowD n d * gcdZ n d = d := by
  unfold lowN lowD
  rw [if_neg (by omega), if_neg (by omega)]
  exact ⟨Int.tdiv_mul_cancel (gcdZ_dvd n d).1, Int.tdiv_mul_cancel (gcdZ_dvd n d).2⟩
theorem lowD_pos (n : Int) {d : Int} (hd : 0 < d) : 0 < lowD n d := by
  have h := (low_parts n hd).2
  have hg := gcdZ_pos (n := n) (d := d) (by omega)
  rcases Int.lt_trichotomy (lowD n d) 0 with h1 | h1 | h1
  · have := Int.mul_neg_of_neg_of_pos h1 hg; omega
  · rw [h1] at h; simp at h; omega
  · exact h1
theorem low_one (n : Int) {d : Int} (hd : 0 < d) : gcdZ (lowN n d) (lowD n d) = 1 := by
  unfold lowN lowD
  rw [if_neg (by omega), if_neg (by omega)]
  have hp : 0 < Nat.gcd n.natAbs d.natAbs := Nat.gcd_pos_of_pos_right _ (by omega)
  have hc : Nat.gcd (n.natAbs / Nat.gcd n.natAbs d.natAbs) (d.natAbs / Nat.gcd n.natAbs d.natAbs) = 1 := Nat.coprime_div_gcd_div_gcd hp
  unfold gcdZ
  rw [Int.natAbs_tdiv, Int.natAbs_tdiv, Int.natAbs_natCast]
  exact congrArg (fun k : Nat => (k : Int)) hc
theorem low_cross (n : Int) {d : Int} (hd : 0 < d) : lowN n d * d = n * lowD n d := by
  have h := low_parts n hd
  generalize lowN n d = p at h ⊢
  generalize lowD n d = q at h ⊢
  generalize gcdZ n d = g at h
  rw [← h.1, ← h.2, Int.mul_assoc, Int.mul_comm g q, Int.mul_comm q g]
theorem frac_one {n d m f : Int} (hd : 0 < d) (hf : 0 < f) (h1 : gcdZ n d = 1) (h2 : gcdZ m f = 1) (e : n * f = m * d) : n = m ∧ d = f := by
  have c1 : Nat.Coprime d.natAbs n.natAbs := by
    have : (Nat.gcd n.natAbs d.natAbs : Int) = 1 := h1
    rw [Nat.coprime_comm]; exact_mod_cast this
  have c2 : Nat.Coprime f.natAbs m.natAbs := by
    have : (Nat.gcd m.natAbs f.natAbs : Int) = 1 := h2
    rw [Nat.coprime_comm]; exact_mod_cast this
  have e' : n.natAbs * f.natAbs = m.natAbs * d.natAbs := by rw [← Int.natAbs_mul, ← Int.natAbs_mul, e]
  have d1 : d.natAbs ∣ f.natAbs := c1.dvd_of_dvd_mul_left ⟨m.natAbs, by rw [e', Nat.mul_comm]⟩
  have d2 : f.natAbs ∣ d.natAbs := c2.dvd_of_dvd_mul_left ⟨n.natAbs, by rw [← e', Nat.mul_comm]⟩
  have ed : d.natAbs = f.natAbs := Nat.dvd_antisymm d1 d2
  have edf : d = f := by omega
  subst edf
  exact ⟨Int.eq_of_mul_eq_mul_right (by omega) e, rfl⟩
theorem cmpz_nought (a b : Int) : cmpz a b = 0 ↔ a = b := by
  unfold cmpz
  split <;> (try split) <;> omega
/- SameFrac of the laws, of any two fractions. (Written by wip/frac/genfsame.py.) -/

theorem same_zz (x y : Int) (A B : Option Addr) (c d : Nat) (w : World) (h : Raw w A c (natL x.natAbs)) (g : Raw w B d (natL y.natAbs)) :
    Calls Tryd.prog 28 #[.agg #[.bool (decide (x < 0)), .slice A (natL x.natAbs).length c], .agg #[.bool (decide (y < 0)), .slice B (natL y.natAbs).length d]] w fun e w' => e = .returned (.bool (decide (x = y))) ∧ Below w.heap.size w w' := by
  have := same_any (decide (x < 0)) (decide (y < 0)) A B c d _ _ w h g
  have e : decide (decide (x < 0) = decide (y < 0) ∧ natL x.natAbs = natL y.natAbs) = decide (x = y) := by
    by_cases hxy : x = y
    · subst hxy; simp
    · rw [decide_eq_false hxy]
      have : ¬ (decide (x < 0) = decide (y < 0) ∧ natL x.natAbs = natL y.natAbs) := by
        rintro ⟨h1, h2⟩
        have h3 : x.natAbs = y.natAbs := by rw [← val_natL x.natAbs, ← val_natL y.natAbs, h2]
        have h4 : (x < 0) ↔ (y < 0) := by simpa using h1
        omega
      simpa using this
  rw [e] at this
  exact this

theorem sameFrac_yes (n d m f : Int) (A B A2 B2 : Option Addr) (c e0 c2 e2 : Nat) (w : World) (hx : Raw w A c (natL n.natAbs)) (kx : Raw w B e0 (natL d.natAbs)) (hy : Raw w A2 c2 (natL m.natAbs)) (ky : Raw w B2 e2 (natL f.natAbs)) (h1 : n = m) (h2 : d = f) :
    Calls Tryd.prog 12 #[.agg #[.bool (decide (n < 0)), .slice A (natL n.natAbs).length c, .bool (decide (d < 0)), .slice B (natL d.natAbs).length e0], .agg #[.bool (decide (m < 0)), .slice A2 (natL m.natAbs).length c2, .bool (decide (f < 0)), .slice B2 (natL f.natAbs).length e2]] w fun e w' => e = .returned (.bool true) ∧ Below w.heap.size w w' := by
  have C1 := fun (V : World) (a1 : Raw V A c (natL n.natAbs)) (a2 : Raw V A2 c2 (natL m.natAbs)) => same_zz n m A A2 c c2 V a1 a2
  rw [decide_eq_true h1] at C1
  have H1 := Hd C1
  have C2 := fun (V : World) (a1 : Raw V B e0 (natL d.natAbs)) (a2 : Raw V B2 e2 (natL f.natAbs)) => same_zz d f B B2 e0 e2 V a1 a2
  rw [decide_eq_true h2] at C2
  have H2 := Hd C2
  clear C1 h1 C2 h2
  have b0 := (((Below.refl w.heap.size w).alloc (Nat.le_refl _) (.cells #[.bool (decide (n < 0)), .slice A (natL n.natAbs).length c, .bool (decide (d < 0)), .slice B (natL d.natAbs).length e0] 26)).alloc (by simp) (.cells #[.bool (decide (m < 0)), .slice A2 (natL m.natAbs).length c2, .bool (decide (f < 0)), .slice B2 (natL f.natAbs).length e2] 26))
  have p0 := (Quad.new w (.bool (decide (n < 0))) (.slice A (natL n.natAbs).length c) (.bool (decide (d < 0))) (.slice B (natL d.natAbs).length e0)).alloc (.cells #[.bool (decide (m < 0)), .slice A2 (natL m.natAbs).length c2, .bool (decide (f < 0)), .slice B2 (natL f.natAbs).length e2] 26)
  have p1 := Quad.new (w.alloc (.cells #[.bool (decide (n < 0)), .slice A (natL n.natAbs).length c, .bool (decide (d < 0)), .slice B (natL d.natAbs).length e0] 26)) (.bool (decide (m < 0))) (.slice A2 (natL m.natAbs).length c2) (.bool (decide (f < 0))) (.slice B2 (natL f.natAbs).length e2)
  simp only [World.size_alloc] at p1
  have PX := Hd p0
  have PY := Hd p1
  have RX := Hd (hx.below b0)
  have KX := Hd (kx.below b0)
  have RY := Hd (hy.below b0)
  have KY := Hd (ky.below b0)
  have HB := Hd b0
  clear b0 p0 p1 hx kx hy ky
  go_enter Tryd.func12, Tryd.ntmps12
  obtain ⟨W, E⟩ : ∃ W, W = ((w.alloc (.cells #[.bool (decide (n < 0)), .slice A (natL n.natAbs).length c, .bool (decide (d < 0)), .slice B (natL d.natAbs).length e0] 26)).alloc (.cells #[.bool (decide (m < 0)), .slice A2 (natL m.natAbs).length c2, .bool (decide (f < 0)), .slice B2 (natL f.natAbs).length e2] 26)) := ⟨_, rfl⟩
  go_upto_region 1 with fail
  rw [← E] at PX PY RX KX RY KY  HB ⊢
  clear E
  have HS0 := Hd (show w.heap.size ≤ W.heap.size from HB.out.size)
  obtain ⟨l_x, x0, x1, x2, x3, -, -, -, -⟩ := PX.out.facts
  obtain ⟨l_y, y0, y1, y2, y3, -, -, -, -⟩ := PY.out.facts
  go_wp2_with fail
  refine (H1.out W RX.out RY.out).mono ?_
  rintro e wx1 ⟨rfl, hb⟩
  clear l_x x0 x1 x2 x3
  clear l_y y0 y1 y2 y3
  have HS_wx1 := Hd (show W.heap.size ≤ wx1.heap.size from hb.size)
  have PX := Hd (PX.out.below hb)
  have PY := Hd (PY.out.below hb)
  have RX := Hd (RX.out.below hb)
  have KX := Hd (KX.out.below hb)
  have RY := Hd (RY.out.below hb)
  have KY := Hd (KY.out.below hb)
  have HB := Hd (belowTo HB.out hb)
  obtain ⟨l_x, x0, x1, x2, x3, -, -, -, -⟩ := PX.out.facts
  obtain ⟨l_y, y0, y1, y2, y3, -, -, -, -⟩ := PY.out.facts
  go_wp2_with fail
  refine (H2.out wx1 KX.out KY.out).mono ?_
  rintro e wx2 ⟨rfl, hb⟩
  clear l_x x0 x1 x2 x3
  clear l_y y0 y1 y2 y3
  have HS_wx2 := Hd (show wx1.heap.size ≤ wx2.heap.size from hb.size)
  have PX := Hd (PX.out.below hb)
  have PY := Hd (PY.out.below hb)
  have RX := Hd (RX.out.below hb)
  have KX := Hd (KX.out.below hb)
  have RY := Hd (RY.out.below hb)
  have KY := Hd (KY.out.below hb)
  have HB := Hd (belowTo HB.out hb)
  go_wp2_with fail
  go_ret
  exact ⟨rfl, HB.out⟩

/- like of the laws of chapter 02. (Written by wip/frac/genflike.py.) -/

theorem like_one (b1 b2 b3 b4 : Bool) (A B A2 B2 : Option Addr) (k1 c k2 e0 k3 c2 k4 e2 : Nat) (e f : Int) (w : World) (h : e ≠ 0) :
    Calls Tryd.prog 15 #[.agg #[.bool b1, .slice A k1 c, .bool b2, .slice B k2 e0], .int .i64 e, .agg #[.bool b3, .slice A2 k3 c2, .bool b4, .slice B2 k4 e2], .int .i64 f] w fun e w' => e = .returned (.bool true) ∧ Below w.heap.size w w' := by
  have hs1 : (e == 0) = false := by simpa using h
  have b0 := ((Below.refl w.heap.size w).alloc (Nat.le_refl _) (.cells #[.bool b1, .slice A k1 c, .bool b2, .slice B k2 e0] 26)).alloc (by simp) (.cells #[.bool b3, .slice A2 k3 c2, .bool b4, .slice B2 k4 e2] 26)
  have HB := Hd b0
  clear b0
  go_enter Tryd.func15, Tryd.ntmps15
  obtain ⟨W, E⟩ : ∃ W, W = (w.alloc (.cells #[.bool b1, .slice A k1 c, .bool b2, .slice B k2 e0] 26)).alloc (.cells #[.bool b3, .slice A2 k3 c2, .bool b4, .slice B2 k4 e2] 26) := ⟨_, rfl⟩
  go_upto_region 1 with fail
  rw [← E] at HB ⊢
  clear E
  go_wp2_with fail
  go_ret
  exact ⟨rfl, HB.out⟩

theorem like_same (n d : Int) (A B A2 B2 : Option Addr) (c e0 c2 e2 : Nat) (w : World) (hx : Raw w A c (natL n.natAbs)) (kx : Raw w B e0 (natL d.natAbs)) (hy : Raw w A2 c2 (natL n.natAbs)) (ky : Raw w B2 e2 (natL d.natAbs)) (f1 : Fine n d) :
    Calls Tryd.prog 15 #[.agg #[.bool (decide (n < 0)), .slice A (natL n.natAbs).length c, .bool (decide (d < 0)), .slice B (natL d.natAbs).length e0], .int .i64 0, .agg #[.bool (decide (n < 0)), .slice A2 (natL n.natAbs).length c2, .bool (decide (d < 0)), .slice B2 (natL d.natAbs).length e2], .int .i64 0] w fun e w' => e = .returned (.bool true) ∧ Below w.heap.size w w' := by
  have M1 := fun (V : World) (a1 : Raw V A c (natL n.natAbs)) (a2 : Raw V B e0 (natL d.natAbs)) (a3 : Raw V A2 c2 (natL n.natAbs)) (a4 : Raw V B2 e2 (natL d.natAbs)) => sameFrac_yes n d n d A B A2 B2 c e0 c2 e2 V a1 a2 a3 a4 rfl rfl
  have M2 := fun (V : World) (a1 : Raw V A c (natL n.natAbs)) (a2 : Raw V B e0 (natL d.natAbs)) (a3 : Raw V A2 c2 (natL n.natAbs)) (a4 : Raw V B2 e2 (natL d.natAbs)) => frac_Cmp_good n d n d 0 A B A2 B2 c e0 c2 e2 V a1 a2 a3 a4 f1 f1 ((cmpz_nought _ _).2 rfl).symm
  have H1 := Hd M1
  have H2 := Hd M2
  clear M1 M2 f1
  have b0 := ((Below.refl w.heap.size w).alloc (Nat.le_refl _) (.cells #[.bool (decide (n < 0)), .slice A (natL n.natAbs).length c, .bool (decide (d < 0)), .slice B (natL d.natAbs).length e0] 26)).alloc (by simp) (.cells #[.bool (decide (n < 0)), .slice A2 (natL n.natAbs).length c2, .bool (decide (d < 0)), .slice B2 (natL d.natAbs).length e2] 26)
  have p0 := (Quad.new w (.bool (decide (n < 0))) (.slice A (natL n.natAbs).length c) (.bool (decide (d < 0))) (.slice B (natL d.natAbs).length e0)).alloc (.cells #[.bool (decide (n < 0)), .slice A2 (natL n.natAbs).length c2, .bool (decide (d < 0)), .slice B2 (natL d.natAbs).length e2] 26)
  have p1 := Quad.new (w.alloc (.cells #[.bool (decide (n < 0)), .slice A (natL n.natAbs).length c, .bool (decide (d < 0)), .slice B (natL d.natAbs).length e0] 26)) (.bool (decide (n < 0))) (.slice A2 (natL n.natAbs).length c2) (.bool (decide (d < 0))) (.slice B2 (natL d.natAbs).length e2)
  simp only [World.size_alloc] at p1
  have PX := Hd p0
  have PY := Hd p1
  have RX := Hd (hx.below b0)
  have KX := Hd (kx.below b0)
  have RY := Hd (hy.below b0)
  have KY := Hd (ky.below b0)
  clear p0 p1 hx kx hy ky
  have HB := Hd b0
  clear b0
  go_enter Tryd.func15, Tryd.ntmps15
  obtain ⟨W, E⟩ : ∃ W, W = (w.alloc (.cells #[.bool (decide (n < 0)), .slice A (natL n.natAbs).length c, .bool (decide (d < 0)), .slice B (natL d.natAbs).length e0] 26)).alloc (.cells #[.bool (decide (n < 0)), .slice A2 (natL n.natAbs).length c2, .bool (decide (d < 0)), .slice B2 (natL d.natAbs).length e2] 26) := ⟨_, rfl⟩
  go_upto_region 1 with fail
  rw [← E] at PX PY RX KX RY KY HB ⊢
  clear E
  obtain ⟨l_x, x0, x1, x2, x3, -, -, -, -⟩ := PX.out.facts
  obtain ⟨l_y, y0, y1, y2, y3, -, -, -, -⟩ := PY.out.facts
  go_wp2_with fail
  refine (H1.out W RX.out KX.out RY.out KY.out).mono ?_
  rintro e wx1 ⟨rfl, hb⟩
  clear l_x x0 x1 x2 x3
  clear l_y y0 y1 y2 y3
  have HS_wx1 := Hd (show W.heap.size ≤ wx1.heap.size from hb.size)
  have PX := Hd (PX.out.below hb)
  have PY := Hd (PY.out.below hb)
  have RX := Hd (RX.out.below hb)
  have KX := Hd (KX.out.below hb)
  have RY := Hd (RY.out.below hb)
  have KY := Hd (KY.out.below hb)
  have HB := Hd (belowTo HB.out hb)
  obtain ⟨l_x, x0, x1, x2, x3, -, -, -, -⟩ := PX.out.facts
  obtain ⟨l_y, y0, y1, y2, y3, -, -, -, -⟩ := PY.out.facts
  go_wp2_with fail
  refine (H2.out wx1 RX.out KX.out RY.out KY.out).mono ?_
  rintro e wx2 ⟨rfl, hb⟩
  clear l_x x0 x1 x2 x3
  clear l_y y0 y1 y2 y3
  have HS_wx2 := Hd (show wx1.heap.size ≤ wx2.heap.size from hb.size)
  have PX := Hd (PX.out.below hb)
  have PY := Hd (PY.out.below hb)
  have RX := Hd (RX.out.below hb)
  have KX := Hd (KX.out.below hb)
  have RY := Hd (RY.out.below hb)
  have KY := Hd (KY.out.below hb)
  have HB := Hd (belowTo HB.out hb)
  go_wp2_with fail
  go_ret
  exact ⟨rfl, HB.out⟩

theorem Fine.mk_low {n d : Int} (hp : 0 < d) (h1 : gcdZ n d = 1) (hn : lz n ≤ 2048) (hd : lz d ≤ 2048) : Fine n d := by
  have f1 : Fit n := hn
  have f2 : Fit d := hd
  refine ⟨?_, hn, hd, hp, h1⟩
  unfold chkE mkOk
  rw [f1.ok, f2.ok, ival_at, ival_at]
  simp only [Bool.and_self, if_true]
  rw [if_pos ⟨hp, h1⟩]
theorem like_ans (n d N D K : Int) (A B A2 B2 : Option Addr) (c e0 c2 e2 : Nat) (w : World) (hx : Raw w A c (natL N.natAbs)) (kx : Raw w B e0 (natL D.natAbs)) (hy : Raw w A2 c2 (natL N.natAbs)) (ky : Raw w B2 e2 (natL D.natAbs)) (hp : 0 < d) (h1 : gcdZ n d = 1) (eN : N = ansN n d) (eD : D = ansD n d) (eK : K = ansK n d) :
    Calls Tryd.prog 15 #[.agg #[.bool (decide (N < 0)), .slice A (natL N.natAbs).length c, .bool (decide (D < 0)), .slice B (natL D.natAbs).length e0], .int .i64 K, .agg #[.bool (decide (N < 0)), .slice A2 (natL N.natAbs).length c2, .bool (decide (D < 0)), .slice B2 (natL D.natAbs).length e2], .int .i64 K] w fun e w' => e = .returned (.bool true) ∧ Below w.heap.size w w' := by
  unfold ansN at eN
  unfold ansD at eD
  unfold ansK at eK
  by_cases hl : lz n ≤ 2048 ∧ lz d ≤ 2048
  · simp only [if_pos hl] at eN eD eK
    subst eN eD eK
    exact like_same N D A B A2 B2 c e0 c2 e2 w hx kx hy ky (Fine.mk_low hp h1 hl.1 hl.2)
  · simp only [if_neg hl] at eN eD eK
    subst eN eD eK
    exact like_one _ _ _ _ A B A2 B2 _ c _ e0 _ c2 _ e2 4 4 w (by decide)
end Go.Proofs.YtadmoheohmbieaaDoor
