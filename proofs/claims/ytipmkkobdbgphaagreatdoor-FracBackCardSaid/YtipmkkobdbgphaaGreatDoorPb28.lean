/- Several texts in one: FOps, FPlain, FRingPlain, FloatLaw. -/
import Derived.Test.YtipmkkobdbgphaaGreatDoorPb19
import Derived.Test.YtipmkkobdbgphaaGreatDoorPbHd
import Derived.Test.YtipmkkobdbgphaaGreatDoorPb23
import Derived.Test.YtipmkkobdbgphaaGreatDoorPb27
set_option maxRecDepth 100000
set_option maxHeartbeats 8000000
/- The four operations of package frac; Cmp. (Written by wip/frac/genfops.py.) -/
namespace Go.Proofs.YtipmkkobdbgphaaGreatDoor
open Go.RowKit

theorem Reads.blk {w : World} {g n size : Nat} {t : TypeId} {cs : List Value} (h : Blk w g t cs.toArray) (hl : cs.length = n * size) : Reads w w.heap.size size (some ⟨g, 0, none⟩) n cs :=
  ⟨hl, fun _ => ⟨⟨g, 0, none⟩, rfl, h.lt, fun j u hu => by
    rw [show (⟨g, 0, none⟩ : Addr).add j = ⟨g, j, none⟩ by unfold Addr.add; split <;> simp_all, h.cell j, ← hu]
    simp⟩⟩
theorem FracIn.quad {w : World} {base g : Nat} {v a b c d : Value} {n m : Int} (h : FracIn w base v n m) (q : Quad w g a b c d) (x y z u : Value) : FracIn ((((w.setCell ⟨g, 0, none⟩ x).setCell ⟨g, 1, none⟩ y).setCell ⟨g, 2, none⟩ z).setCell ⟨g, 3, none⟩ u) base v n m := by
  obtain ⟨A, k, B, e, h1, h2, h3⟩ := h.form
  exact ⟨A, k, B, e, h1, h2.quad q _ _ _ _, h3.quad q _ _ _ _⟩
theorem FracIn.below {w w' : World} {base : Nat} {v : Value} {n d : Int} (h : FracIn w base v n d) (hb : Below w.heap.size w w') : FracIn w' base v n d := by
  obtain ⟨A, k, B, e, h1, h2, h3⟩ := h.form
  exact ⟨A, k, B, e, h1, h2.below hb, h3.below hb⟩

theorem ratio_ChecksI (l : List FLoc) (ks : Nat → Bool) (A : Option Addr) (c : Nat) (hl : l.length ≤ 9223372036854775807) (w : World) (h : Reads w w.heap.size 4 A l.length (cellsF l))
    (H : ∀ q (hq : q < l.length), ∀ V, Below w.heap.size w V → Calls Tryz.prog 102 #[l[q].val] V fun e w' => e = .returned (.int .i64 (if ks q then 0 else 1)) ∧ Below V.heap.size V w') :
    Calls Tryz.prog 47 #[.slice A l.length c] w fun e w' => e = .returned (.bool ((List.range l.length).all ks)) ∧ Below w.heap.size w w' := by
  have HR := Hd h
  have HS := Hd H
  clear h H
  have H0 := Hd (by intro j hj; omega : ∀ j (_ : j < 0), (h : j < l.length) → ks j = true)
  go_enter Tryz.func47, Tryz.ntmps47
  go_wp2_with fail
  go_loopw [7] (fun s wr => ∃ i : Nat, s = .int .i64 i ∧ i ≤ l.length ∧ Hid (∀ j (_ : j < i), (h : j < l.length) → ks j = true) ∧ Below w.heap.size w wr) (fun s _ => l.length - (intOf s).toNat)
  case atStart => exact ⟨0, rfl, Nat.zero_le _, H0, Below.refl _ _⟩
  case round =>
    obtain ⟨i, rfl, hi, HN, hb⟩ := hrel
    clear H0
    by_cases hlt : i < l.length
    · have a0 : (0 : Int) ≤ (i : Int) := by omega
      have a1 : (i : Int) < (l.length : Int) := by omega
      obtain ⟨e0, e1, e2, e3⟩ := cellsF_get l i hlt
      obtain ⟨ad, rfl, hbl, c0, c1, c2, c3⟩ := (HR.out.below hb).row4 hlt e0 e1 e2 e3
      have C := HS.out i hlt
      unfold FLoc.val at C
      have HB := Hd hb
      clear e0 e1 e2 e3 hbl hb
      by_cases hlong : ks i = true
      · rw [if_pos hlong] at C
        have C := Hd C
        have HL := Hd hlong
        clear hlong
        go_wp2_with (first | (go_at_call 102; with_reducible refine (C.out _ (HB.out.alloc HB.out.size _)).mono ?_; rintro e w' ⟨rfl, hb'⟩; have B1 := belowTo (HB.out.alloc HB.out.size _) hb'))
        go_roundw
        case rel =>
          refine ⟨i + 1, by go_num, hlt, Hd fun j hj h => ?_, B1⟩
          rcases (by omega : j < i ∨ j = i) with hj | rfl
          · exact HN.out j hj h
          · exact HL.out
        case measure => simp [intOf]; omega
      · rw [if_neg hlong] at C
        have C := Hd C
        have HL := Hd hlong
        clear hlong
        go_wp2_with (first | (go_at_call 102; with_reducible refine (C.out _ (HB.out.alloc HB.out.size _)).mono ?_; rintro e w' ⟨rfl, hb'⟩; have B1 := belowTo (HB.out.alloc HB.out.size _) hb'))
        go_ret
        have e : (List.range l.length).all ks = false := List.all_eq_false.2 ⟨i, List.mem_range.2 hlt, HL.out⟩
        exact ⟨by rw [e]; rfl, B1⟩
    · have HB := Hd hb
      clear hb
      go_wp2_with fail
      go_ret
      have e : (List.range l.length).all ks = true := List.all_eq_true.2 fun x hx => by
        have hj := List.mem_range.1 hx
        exact HN.out x (by omega) hj
      exact ⟨by rw [e]; rfl, HB.out⟩

theorem checks_two (n1 n2 n3 n4 : Bool) (A B A2 B2 : Option Addr) (c e0 c2 e2 : Nat) (xs ys us vs : List Nat) (V : World) (g' : Nat) (hx : Raw V A c xs) (kx : Raw V B e0 ys) (hy : Raw V A2 c2 us) (ky : Raw V B2 e2 vs) (hg : V.heap.size = g') :
    Calls Tryz.prog 47 #[.slice (some ⟨g', 0, none⟩) 2 2] (V.alloc (.cells #[.bool n1, .slice A xs.length c, .bool n2, .slice B ys.length e0, .bool n3, .slice A2 us.length c2, .bool n4, .slice B2 vs.length e2] 27)) fun e w' => e = .returned (.bool (chkE n1 n2 xs ys == 0 && chkE n3 n4 us vs == 0)) ∧ Below (V.alloc (.cells #[.bool n1, .slice A xs.length c, .bool n2, .slice B ys.length e0, .bool n3, .slice A2 us.length c2, .bool n4, .slice B2 vs.length e2] 27)).heap.size (V.alloc (.cells #[.bool n1, .slice A xs.length c, .bool n2, .slice B ys.length e0, .bool n3, .slice A2 us.length c2, .bool n4, .slice B2 vs.length e2] 27)) w' := by
  have := ratio_ChecksI [⟨n1, A, xs.length, c, n2, B, ys.length, e0⟩, ⟨n3, A2, us.length, c2, n4, B2, vs.length, e2⟩] (fun i => if i = 0 then chkE n1 n2 xs ys == 0 else chkE n3 n4 us vs == 0) (some ⟨g', 0, none⟩) 2 (by simp) (V.alloc (.cells #[.bool n1, .slice A xs.length c, .bool n2, .slice B ys.length e0, .bool n3, .slice A2 us.length c2, .bool n4, .slice B2 vs.length e2] 27))
    (by subst hg; exact Reads.blk (Blk.new V 27 #[.bool n1, .slice A xs.length c, .bool n2, .slice B ys.length e0, .bool n3, .slice A2 us.length c2, .bool n4, .slice B2 vs.length e2]) rfl)
    (by
      intro q hq W hW
      rcases (by simp at hq; omega : q = 0 ∨ q = 1) with rfl | rfl
      · have := ratio_Check n1 n2 A B c e0 xs ys W ((hx.alloc _).below hW) ((kx.alloc _).below hW)
        rw [chkE_bool] at this
        exact this
      · have := ratio_Check n3 n4 A2 B2 c2 e2 us vs W ((hy.alloc _).below hW) ((ky.alloc _).below hW)
        rw [chkE_bool] at this
        exact this)
  simpa [List.range, List.range.loop] using this

structure Fine (n d : Int) : Prop where
  chk : chkE (decide (n < 0)) (decide (d < 0)) (natL n.natAbs) (natL d.natAbs) = 0
  num : Fit n
  den : Fit d
  pos : 0 < d
  low : gcdZ n d = 1
theorem fine_of {n1 n2 : Bool} {xs ys : List Nat} (hx : Limbs xs) (hy : Limbs ys) (h0 : chkE n1 n2 xs ys = 0) : ∃ n d, Fine n d ∧ n1 = decide (n < 0) ∧ n2 = decide (d < 0) ∧ xs = natL n.natAbs ∧ ys = natL d.natAbs := by
  have hc := h0
  unfold chkE mkOk at h0
  cases o1 : okI n1 xs with
  | false => rw [o1] at h0; simp at h0
  | true =>
    cases o2 : okI n2 ys with
    | false => rw [o1, o2] at h0; simp at h0
    | true =>
      obtain ⟨a1, a2, a3⟩ := ok_num hx o1
      obtain ⟨b1, b2, b3⟩ := ok_num hy o2
      rw [o1, o2] at h0
      simp only [Bool.and_self, if_true] at h0
      generalize ival n1 xs = n at a1 a2 a3 h0
      generalize ival n2 ys = d at b1 b2 b3 h0
      subst a1 a2 b1 b2
      split at h0
      · next h1 => exact ⟨n, d, ⟨hc, a3, b3, h1.1, h1.2⟩, rfl, rfl, rfl, rfl⟩
      · simp at h0
def ansN (n d : Int) : Int := if lz n ≤ 2048 ∧ lz d ≤ 2048 then n else 0
def ansD (n d : Int) : Int := if lz n ≤ 2048 ∧ lz d ≤ 2048 then d else 0
def ansK (n d : Int) : Int := if lz n ≤ 2048 ∧ lz d ≤ 2048 then 0 else 4
theorem frac_answered (n d : Int) (A B : Option Addr) (c e0 : Nat) (w : World) (h : Raw w A c (natL n.natAbs)) (g : Raw w B e0 (natL d.natAbs)) :
    Calls Tryz.prog 110 #[.agg #[.bool (decide (n < 0)), .slice A (natL n.natAbs).length c, .bool (decide (d < 0)), .slice B (natL d.natAbs).length e0]] w (RetFracOwn2 w.heap.size w (ansN n d) (ansD n d) (ansK n d)) := by
  unfold ansN ansD ansK
  by_cases hl : lz n ≤ 2048 ∧ lz d ≤ 2048
  · simp only [if_pos hl]; exact frac_answered_fits n d A B c e0 w h g hl.1 hl.2
  · simp only [if_neg hl]; exact frac_answered_long n d A B c e0 w h g (by omega)
def RetFracB (w : World) (n d : Int) (b : Bool) (e : Ending) (w' : World) : Prop := ∃ v, e = .returned (.tuple #[v, .bool b]) ∧ FracIn w' 0 v n d ∧ Below w.heap.size w w'

/- Fractions as plain numbers: lowest terms are one, and stand in one order. -/

theorem gcdZ_dvd (n d : Int) : gcdZ n d ∣ n ∧ gcdZ n d ∣ d :=
  ⟨Int.ofNat_dvd_left.2 (Nat.gcd_dvd_left _ _), Int.ofNat_dvd_left.2 (Nat.gcd_dvd_right _ _)⟩
theorem low_parts (n : Int) {d : Int} (hd : 0 < d) : lowN n d * gcdZ n d = n ∧ lowD n d * gcdZ n d = d := by
  unfold lowN lowD
  rw [if_neg (by omega), if_neg (by omega)]
  exact ⟨Int.tdiv_mul_cancel (gcdZ_dvd n d).1, Int.tdiv_mul_cancel (gcdZ_dvd n d).2⟩
theorem lowD_pos (n : Int) {d : Int} (hd : 0 < d) : 0 < lowD n d := by
  have h := (low_parts n hd).2
  have hg := gcdZ_pos (n := n) (d := d) (by omega)
  rcases Int.lt_trichotomy (lowD n d) 0 with h1 | h1 | h1
  · have := Int.mul_neg_of_neg_of_pos h1 hg; omega
  · rw [h1] at h; simp at h; omega
  · exact h1
theorem low_one (n : Int) {d : Int} (hd : 0 < d) : gcdZ (lowN n d) (lowD n d) = 1 := by
  unfold lowN lowD
  rw [if_neg (by omega), if_neg (by omega)]
  have hp : 0 < Nat.gcd n.natAbs d.natAbs := Nat.gcd_pos_of_pos_right _ (by omega)
  have hc : Nat.gcd (n.natAbs / Nat.gcd n.natAbs d.natAbs) (d.natAbs / Nat.gcd n.natAbs d.natAbs) = 1 := Nat.coprime_div_gcd_div_gcd hp
  unfold gcdZ
  rw [Int.natAbs_tdiv, Int.natAbs_tdiv, Int.natAbs_natCast]
  exact congrArg (fun k : Nat => (k : Int)) hc
theorem low_cross (n : Int) {d : Int} (hd : 0 < d) : lowN n d * d = n * lowD n d := by
  have h := low_parts n hd
  generalize lowN n d = p at h ⊢
  generalize lowD n d = q at h ⊢
  generalize gcdZ n d = g at h
  rw [← h.1, ← h.2, Int.mul_assoc, Int.mul_comm g q, Int.mul_comm q g]
theorem sign_mul_pos {a b : Int} (hb : 0 < b) : (a * b).sign = a.sign := by
  rw [Int.sign_mul, Int.sign_eq_one_of_pos hb, Int.mul_one]
theorem low_sign (n : Int) {d : Int} (hd : 0 < d) : (lowN n d).sign = n.sign := by
  have h := (low_parts n hd).1
  have hg := gcdZ_pos (n := n) (d := d) (by omega)
  rw [← sign_mul_pos (a := lowN n d) hg, h]
theorem frac_one {n d m f : Int} (hd : 0 < d) (hf : 0 < f) (h1 : gcdZ n d = 1) (h2 : gcdZ m f = 1) (e : n * f = m * d) : n = m ∧ d = f := by
  have c1 : Nat.Coprime d.natAbs n.natAbs := by
    have : (Nat.gcd n.natAbs d.natAbs : Int) = 1 := h1
    rw [Nat.coprime_comm]; exact_mod_cast this
  have c2 : Nat.Coprime f.natAbs m.natAbs := by
    have : (Nat.gcd m.natAbs f.natAbs : Int) = 1 := h2
    rw [Nat.coprime_comm]; exact_mod_cast this
  have e' : n.natAbs * f.natAbs = m.natAbs * d.natAbs := by rw [← Int.natAbs_mul, ← Int.natAbs_mul, e]
  have d1 : d.natAbs ∣ f.natAbs := c1.dvd_of_dvd_mul_left ⟨m.natAbs, by rw [e', Nat.mul_comm]⟩
  have d2 : f.natAbs ∣ d.natAbs := c2.dvd_of_dvd_mul_left ⟨n.natAbs, by rw [← e', Nat.mul_comm]⟩
  have ed : d.natAbs = f.natAbs := Nat.dvd_antisymm d1 d2
  have edf : d = f := by omega
  subst edf
  exact ⟨Int.eq_of_mul_eq_mul_right (by omega) e, rfl⟩
theorem fine_low (s : Int) {t : Int} (ht : 0 < t) (h1 : lz (lowN s t) ≤ 2048) (h2 : lz (lowD s t) ≤ 2048) : Fine (lowN s t) (lowD s t) := by
  have f1 : Fit (lowN s t) := h1
  have f2 : Fit (lowD s t) := h2
  refine ⟨?_, h1, h2, lowD_pos s ht, low_one s ht⟩
  unfold chkE mkOk
  rw [f1.ok, f2.ok, ival_at, ival_at]
  simp only [Bool.and_self, if_true]
  rw [if_pos ⟨lowD_pos s ht, low_one s ht⟩]
/- Fractions as plain numbers: the laws of a field. -/

theorem low_is {s t n d : Int} (ht : 0 < t) (hd : 0 < d) (h1 : gcdZ n d = 1) (e : s * d = n * t) : lowN s t = n ∧ lowD s t = d := by
  refine frac_one (lowD_pos s ht) hd (low_one s ht) h1 ?_
  have c1 := low_cross s ht
  generalize lowN s t = N at c1 ⊢
  generalize lowD s t = D at c1 ⊢
  refine Int.eq_of_mul_eq_mul_right (a := t) (by omega) ?_
  rw [show N * d * t = (N * t) * d by simp only [Int.mul_comm, Int.mul_left_comm], c1, show s * D * d = (s * d) * D by simp only [Int.mul_comm, Int.mul_left_comm], e]
  simp only [Int.mul_comm, Int.mul_left_comm]
theorem mulD_pos (n m : Int) {d f : Int} (hd : 0 < d) (hf : 0 < f) : 0 < mulD n d m f := lowD_pos _ (Int.mul_pos hd hf)
/- Floats by their rungs (their bits without the sign): what they are worth in units of 2^-1074, which one is the nearest; plain. -/

def p2 (k : Nat) : Nat := 2 ^ k
theorem p2_pos (k : Nat) : 0 < p2 k := Nat.two_pow_pos k
theorem p2_add (a b : Nat) : p2 (a + b) = p2 a * p2 b := Nat.pow_add 2 a b
theorem p2_succ (k : Nat) : p2 (k + 1) = 2 * p2 k := by unfold p2; rw [Nat.pow_succ, Nat.mul_comm]
theorem p2_zero : p2 0 = 1 := rfl
theorem p2_mono {a b : Nat} (h : a ≤ b) : p2 a ≤ p2 b := Nat.pow_le_pow_right (by omega) h
theorem p2_le {a b : Nat} (h : p2 a < p2 b) : a < b := (Nat.pow_lt_pow_iff_right (by omega)).1 h
def fman (r : Nat) : Nat := if r < 4503599627370496 then r else 4503599627370496 + r % 4503599627370496
def fexp (r : Nat) : Nat := r / 4503599627370496 - 1
def fval (r : Nat) : Nat := fman r * p2 (fexp r)
theorem frung (r : Nat) : fexp r * 4503599627370496 + fman r = r ∧ fman r < 9007199254740992 ∧ (fexp r = 0 ∨ 4503599627370496 ≤ fman r) := by
  unfold fexp fman
  split <;> omega
theorem fval_at {E k : Nat} (hk : k < 9007199254740992) (h : E = 0 ∨ 4503599627370496 ≤ k) : fval (E * 4503599627370496 + k) = k * p2 E := by
  have h1 : fman (E * 4503599627370496 + k) = k := by unfold fman; split <;> omega
  have h2 : fexp (E * 4503599627370496 + k) = E := by unfold fexp; omega
  unfold fval
  rw [h1, h2]
theorem fval_next {E k : Nat} (hk : k < 9007199254740992) (h : E = 0 ∨ 4503599627370496 ≤ k) : fval (E * 4503599627370496 + k + 1) = (k + 1) * p2 E := by
  by_cases h2 : k + 1 < 9007199254740992
  · rw [Nat.add_assoc]
    exact fval_at h2 (by omega)
  · have e : E * 4503599627370496 + k + 1 = (E + 1) * 4503599627370496 + 4503599627370496 := by omega
    rw [e, fval_at (by omega) (by omega), p2_succ, show k + 1 = 4503599627370496 * 2 by omega, Nat.mul_assoc]
theorem fval_succ (r : Nat) : fval r = fman r * p2 (fexp r) ∧ fval (r + 1) = (fman r + 1) * p2 (fexp r) := by
  obtain ⟨h1, h2, h3⟩ := frung r
  have a := fval_next h2 h3
  rw [h1] at a
  exact ⟨rfl, a⟩
theorem fval_lt_succ (r : Nat) : fval r < fval (r + 1) := by
  have h := fval_succ r
  have hp := p2_pos (fexp r)
  rw [h.1, h.2, Nat.add_mul]
  omega
theorem fval_mono {a b : Nat} (h : a ≤ b) : fval a ≤ fval b := by
  induction h with
  | refl => exact Nat.le_refl _
  | step _ ih => exact Nat.le_trans ih (Nat.le_of_lt (fval_lt_succ _))
theorem fval_lt {a b : Nat} (h : a < b) : fval a < fval b := Nat.lt_of_lt_of_le (fval_lt_succ a) (fval_mono h)
theorem fval_zero : fval 0 = 0 := by unfold fval fman; simp
theorem fval_pos {a : Nat} (h : 0 < a) : 0 < fval a := by have := fval_lt h; rw [fval_zero] at this; exact this
def RungAt (N d b : Nat) : Prop := fval b * d ≤ N ∧ N < fval (b + 1) * d
theorem rung_one {N d b c : Nat} (h : RungAt N d b) (k : RungAt N d c) : b = c := by
  rcases Nat.lt_trichotomy b c with l | l | l
  · have := Nat.mul_le_mul_right d (fval_mono (show b + 1 ≤ c from l)); have := h.2; have := k.1; omega
  · exact l
  · have := Nat.mul_le_mul_right d (fval_mono (show c + 1 ≤ b from l)); have := k.2; have := h.1; omega
def upR (N d b : Nat) : Nat := if (fval b + fval (b + 1)) * d < 2 * N ∨ ((fval b + fval (b + 1)) * d = 2 * N ∧ b % 2 = 1) then b + 1 else b
def Near (N d : Nat) (o : Option Nat) : Prop := ∃ b, RungAt N d b ∧ o = if upR N d b < 9218868437227405312 then some (upR N d b) else none
theorem near_one {N d : Nat} {o p : Option Nat} (h : Near N d o) (k : Near N d p) : o = p := by
  obtain ⟨b, h1, rfl⟩ := h
  obtain ⟨c, k1, rfl⟩ := k
  rw [rung_one h1 k1]
theorem near_lt {N d : Nat} {r : Nat} (h : Near N d (some r)) : r < 9218868437227405312 := by
  obtain ⟨b, -, h⟩ := h
  split at h
  · injection h with h; omega
  · cases h
theorem scale_cmp {x x' y y' P Q : Nat} (hP : 0 < P) (hQ : 0 < Q) (h : x * P = y * Q) (h' : x' * P = y' * Q) : (x < x' ↔ y < y') ∧ (x = x' ↔ y = y') := by
  refine ⟨?_, ?_⟩
  · rw [← Nat.mul_lt_mul_right hP, h, h', Nat.mul_lt_mul_right hQ]
  · constructor
    · intro e
      rw [e, h'] at h
      exact (Nat.eq_of_mul_eq_mul_right hQ h).symm
    · intro e
      rw [e, ← h'] at h
      exact Nat.eq_of_mul_eq_mul_right hP h
theorem near_prog {n d q a b E drop half k low : Nat} (hd : 0 < d) (h1 : q * (d * p2 a) ≤ n * p2 b) (h2 : n * p2 b < (q + 1) * (d * p2 a))
    (hdr : p2 drop = 2 * half) (hq : q = k * p2 drop + low) (hl : low < p2 drop) (hE : E + b = 1074 + drop + a) (hk : k < 9007199254740992) (hE0 : E = 0 ∨ 4503599627370496 ≤ k) :
    RungAt (n * p2 1074) d (E * 4503599627370496 + k) ∧ upR (n * p2 1074) d (E * 4503599627370496 + k) = E * 4503599627370496 + k + (if half < low ∨ (low = half ∧ (q * (d * p2 a) ≠ n * p2 b ∨ k % 2 = 1)) then 1 else 0) := by
  have f1 := fval_at hk hE0
  have f2 := fval_next hk hE0
  have hp : p2 E * p2 b = p2 1074 * p2 drop * p2 a := by rw [← p2_add, hE, p2_add, p2_add]
  have pv := p2_pos b
  have pt := p2_pos 1074
  have pz := p2_pos a
  have hodd : (E * 4503599627370496 + k) % 2 = k % 2 := by omega
  unfold RungAt upR
  rw [f1, f2]
  generalize p2 E = u at *
  generalize p2 b = v at *
  generalize p2 1074 = t at *
  generalize p2 drop = g at *
  have hD : 0 < d * p2 a := Nat.mul_pos hd pz
  have e1 : k * u * d * v = k * g * (d * p2 a) * t := by
    rw [show k * u * d * v = k * d * (u * v) by ac_rfl, hp]; ac_rfl
  have e2 : (k + 1) * u * d * v = (k + 1) * g * (d * p2 a) * t := by
    rw [show (k + 1) * u * d * v = (k + 1) * d * (u * v) by ac_rfl, hp]; ac_rfl
  have e3 : (k * u + (k + 1) * u) * d * v = (k * g + half) * (d * p2 a) * (2 * t) := by
    have : (k * u + (k + 1) * u) * d * v = k * u * d * v + (k + 1) * u * d * v := by rw [Nat.add_mul, Nat.add_mul]
    rw [this, e1, e2, ← Nat.add_mul, ← Nat.add_mul]
    have h3 : k * g + (k + 1) * g = 2 * (k * g + half) := by rw [Nat.add_mul, Nat.one_mul]; omega
    rw [h3]; ac_rfl
  generalize d * p2 a = D at *
  have hkg : k * g ≤ q := by omega
  have hkg1 : q + 1 ≤ (k + 1) * g := by rw [Nat.add_mul, Nat.one_mul]; omega
  refine ⟨⟨?_, ?_⟩, ?_⟩
  · refine Nat.le_of_mul_le_mul_right (c := v) ?_ pv
    rw [e1, show n * t * v = n * v * t by ac_rfl]
    exact Nat.mul_le_mul_right t (Nat.le_trans (Nat.mul_le_mul_right D hkg) h1)
  · refine Nat.lt_of_mul_lt_mul_right (a := v) ?_
    rw [e2, show n * t * v = n * v * t by ac_rfl]
    exact Nat.mul_lt_mul_of_pos_right (Nat.lt_of_lt_of_le h2 (Nat.mul_le_mul_right D hkg1)) pt
  · have hc := scale_cmp (x := (k * u + (k + 1) * u) * d) (x' := 2 * (n * t)) (y := (k * g + half) * D) (y' := n * v) (P := v) (Q := 2 * t) pv (by omega) e3 (by ac_rfl)
    simp only [hc.1, hc.2, hodd]
    rcases Nat.lt_trichotomy low half with l | l | l
    · have h5 : (q + 1) * D ≤ (k * g + half) * D := Nat.mul_le_mul_right D (by omega)
      rw [if_neg (by omega), if_neg (by omega), Nat.add_zero]
    · have h5 : k * g + half = q := by omega
      rw [h5]
      by_cases hs : q * D = n * v
      · by_cases ho : k % 2 = 1
        · rw [if_pos (.inr ⟨hs, ho⟩), if_pos (.inr ⟨l, .inr ho⟩)]
        · rw [if_neg (by omega), if_neg (by omega), Nat.add_zero]
      · rw [if_pos (.inl (by omega)), if_pos (.inr ⟨l, .inl hs⟩)]
    · have h5 : (k * g + half) * D < q * D := Nat.mul_lt_mul_of_pos_right (by omega) hD
      rw [if_pos (.inl (by omega)), if_pos (.inl l)]
theorem q_room {n d a b bn bd : Nat} (hn : p2 (bn - 1) ≤ n ∧ n < p2 bn) (hd : p2 (bd - 1) ≤ d ∧ d < p2 bd) (hbn : 1 ≤ bn) (hbd : 1 ≤ bd) (h : bn + b ≤ 54 + bd + a) (h2 : b = 1075 ∨ bn + b = 54 + bd + a) :
    n * p2 b / (d * p2 a) < 36028797018963968 ∧ (b = 1075 ∨ 9007199254740992 ≤ n * p2 b / (d * p2 a)) := by
  have pa := p2_pos a
  have pb := p2_pos b
  have hD : 0 < d * p2 a := Nat.mul_pos (Nat.lt_of_lt_of_le (p2_pos _) hd.1) pa
  constructor
  · rw [Nat.div_lt_iff_lt_mul hD]
    have e1 : n * p2 b < p2 (bn + b) := by rw [p2_add]; exact Nat.mul_lt_mul_of_pos_right hn.2 pb
    have e2 := p2_mono h
    have e3 : p2 (54 + bd + a) = 36028797018963968 * (p2 (bd - 1) * p2 a) := by
      rw [show 54 + bd + a = 55 + ((bd - 1) + a) by omega, p2_add 55, p2_add (bd - 1)]
      rfl
    have e4 : p2 (bd - 1) * p2 a ≤ d * p2 a := Nat.mul_le_mul_right _ hd.1
    omega
  · rcases h2 with h2 | h2
    · exact .inl h2
    · refine .inr ((Nat.le_div_iff_mul_le hD).2 ?_)
      have e1 : p2 (bn - 1 + b) ≤ n * p2 b := by rw [p2_add]; exact Nat.mul_le_mul_right _ hn.1
      have e3 : p2 (bn - 1 + b) = 9007199254740992 * (p2 bd * p2 a) := by
        rw [show bn - 1 + b = 53 + (bd + a) by omega, p2_add 53, p2_add bd]
        rfl
      have e4 : d * p2 a < p2 bd * p2 a := Nat.mul_lt_mul_of_pos_right hd.2 pa
      omega
theorem low_pow {s a : Int} {t K : Nat} (h : t = 0 ∨ a % 2 = 1) (hs : s * (p2 t : Int) = a * (p2 K : Int)) : lowN s (p2 K : Int) = a ∧ lowD s (p2 K : Int) = (p2 t : Int) := by
  refine low_is (by have := p2_pos K; omega) (by have := p2_pos t; omega) ?_ hs
  unfold gcdZ
  rw [Int.natAbs_natCast]
  rcases h with h | h
  · subst h
    rw [p2_zero, Nat.gcd_one_right]
    rfl
  · have h2 : Nat.Coprime a.natAbs 2 := by
      have h1 : a.natAbs % 2 = 1 := by omega
      rw [Nat.coprime_comm]
      unfold Nat.Coprime
      rw [Nat.gcd_rec, h1]
      rfl
    have h3 : Nat.Coprime a.natAbs (p2 t) := Nat.Coprime.pow_right t h2
    rw [h3]
    rfl
end Go.Proofs.YtipmkkobdbgphaaGreatDoor
