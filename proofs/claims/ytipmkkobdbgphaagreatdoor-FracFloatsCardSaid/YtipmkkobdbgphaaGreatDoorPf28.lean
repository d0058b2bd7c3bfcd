/- Several texts in one: FOps, FPlain, FRingPlain, FloatLaw. -/
import Derived.Test.YtipmkkobdbgphaaGreatDoorPf19
import Derived.Test.YtipmkkobdbgphaaGreatDoorPf23
import Derived.Test.YtipmkkobdbgphaaGreatDoorPf27
set_option maxRecDepth 100000
set_option maxHeartbeats 8000000
/- The four operations of package frac; Cmp. (Written by wip/frac/genfops.py.) -/
namespace Go.Proofs.YtipmkkobdbgphaaGreatDoor
open Go.RowKit

theorem Zy.blk {w : World} {g n size : Nat} {t : TypeId} {cs : List Value} (h : ZM w g t cs.toArray) (hl : cs.length = n * size) : Zy w w.heap.size size (some ⟨g, 0, none⟩) n cs :=
 ⟨hl, fun _ => ⟨⟨g, 0, none⟩, rfl, h.lt, fun j u hu => by
   rw [show (⟨g, 0, none⟩ : Addr).add j = ⟨g, j, none⟩ by unfold Addr.add; split <;> simp_all, h.cell j, ← hu]
   simp⟩⟩
theorem ZQ.quad {w : World} {base g : Nat} {v a b c d : Value} {n m : Int} (h : ZQ w base v n m) (q : Zv w g a b c d) (x y z u : Value) : ZQ ((((w.setCell ⟨g, 0, none⟩ x).setCell ⟨g, 1, none⟩ y).setCell ⟨g, 2, none⟩ z).setCell ⟨g, 3, none⟩ u) base v n m := by
 obtain ⟨A, k, B, e, h1, h2, h3⟩ := h.form
 exact ⟨A, k, B, e, h1, h2.quad q _ _ _ _, h3.quad q _ _ _ _⟩
theorem ZQ.below {w w' : World} {base : Nat} {v : Value} {n d : Int} (h : ZQ w base v n d) (hb : Below w.heap.size w w') : ZQ w' base v n d := by
 obtain ⟨A, k, B, e, h1, h2, h3⟩ := h.form
 exact ⟨A, k, B, e, h1, h2.below hb, h3.below hb⟩

structure Fine (n d : Int) : Prop where
 chk : JH (decide (n < 0)) (decide (d < 0)) (Za n.natAbs) (Za d.natAbs) = 0
 num : Jh n
 den : Jh d
 pos : 0 < d
 low : ZU n d = 1
theorem fine_of {n1 n2 : Bool} {xs ys : List Nat} (hx : Zm xs) (hy : Zm ys) (h0 : JH n1 n2 xs ys = 0) : ∃ n d, Fine n d ∧ n1 = decide (n < 0) ∧ n2 = decide (d < 0) ∧ xs = Za n.natAbs ∧ ys = Za d.natAbs := by
 have hc := h0
 unfold JH mkOk at h0
 cases o1 : okI n1 xs with
 | false => rw [o1] at h0; simp at h0
 | true =>
   cases o2 : okI n2 ys with
   | false => rw [o1, o2] at h0; simp at h0
   | true =>
     obtain ⟨a1, a2, a3⟩ := ok_num hx o1
     obtain ⟨b1, b2, b3⟩ := ok_num hy o2
     rw [o1, o2] at h0
     simp only [Bool.and_self, if_true] at h0
     generalize Zp n1 xs = n at a1 a2 a3 h0
     generalize Zp n2 ys = d at b1 b2 b3 h0
     subst a1 a2 b1 b2
     split at h0
     · next h1 => exact ⟨n, d, ⟨hc, a3, b3, h1.1, h1.2⟩, rfl, rfl, rfl, rfl⟩
     · simp at h0
def ansN (n d : Int) : Int := if lz n ≤ 2048 ∧ lz d ≤ 2048 then n else 0
def ansD (n d : Int) : Int := if lz n ≤ 2048 ∧ lz d ≤ 2048 then d else 0
def ansK (n d : Int) : Int := if lz n ≤ 2048 ∧ lz d ≤ 2048 then 0 else 4
def RetFracB (w : World) (n d : Int) (b : Bool) (e : Ending) (w' : World) : Prop := ∃ v, e = .returned (.tuple #[v, .bool b]) ∧ ZQ w' 0 v n d ∧ Below w.heap.size w w'

/- Fractions as plain numbers: lowest terms are one, and stand in one order. -/

theorem gcdZ_dvd (n d : Int) : ZU n d ∣ n ∧ ZU n d ∣ d :=
 ⟨Int.ofNat_dvd_left.2 (Nat.gcd_dvd_left _ _), Int.ofNat_dvd_left.2 (Nat.gcd_dvd_right _ _)⟩
theorem low_parts (n : Int) {d : Int} (hd : 0 < d) : YG n d * ZU n d = n ∧ YC n d * ZU n d = d := by
 unfold YG YC
 rw [if_neg (by omega), if_neg (by omega)]
 exact ⟨Int.tdiv_mul_cancel (gcdZ_dvd n d).1, Int.tdiv_mul_cancel (gcdZ_dvd n d).2⟩
theorem lowD_pos (n : Int) {d : Int} (hd : 0 < d) : 0 < YC n d := by
 have h := (low_parts n hd).2
 have hg := Xn (n := n) (d := d) (by omega)
 rcases Int.lt_trichotomy (YC n d) 0 with h1 | h1 | h1
 · have := Int.mul_neg_of_neg_of_pos h1 hg; omega
 · rw [h1] at h; simp at h; omega
 · exact h1
theorem low_one (n : Int) {d : Int} (hd : 0 < d) : ZU (YG n d) (YC n d) = 1 := by
 unfold YG YC
 rw [if_neg (by omega), if_neg (by omega)]
 have hp : 0 < Nat.gcd n.natAbs d.natAbs := Nat.gcd_pos_of_pos_right _ (by omega)
 have hc : Nat.gcd (n.natAbs / Nat.gcd n.natAbs d.natAbs) (d.natAbs / Nat.gcd n.natAbs d.natAbs) = 1 := Nat.coprime_div_gcd_div_gcd hp
 unfold ZU
 rw [Int.natAbs_tdiv, Int.natAbs_tdiv, Int.natAbs_natCast]
 exact congrArg (fun k : Nat => (k : Int)) hc
theorem low_cross (n : Int) {d : Int} (hd : 0 < d) : YG n d * d = n * YC n d := by
 have h := low_parts n hd
 generalize YG n d = p at h ⊢
 generalize YC n d = q at h ⊢
 generalize ZU n d = g at h
 rw [← h.1, ← h.2, Int.mul_assoc, Int.mul_comm g q, Int.mul_comm q g]
theorem frac_one {n d m f : Int} (hd : 0 < d) (hf : 0 < f) (h1 : ZU n d = 1) (h2 : ZU m f = 1) (e : n * f = m * d) : n = m ∧ d = f := by
 have c1 : Nat.Coprime d.natAbs n.natAbs := by
   have : (Nat.gcd n.natAbs d.natAbs : Int) = 1 := h1
   rw [Nat.coprime_comm]; exact_mod_cast this
 have c2 : Nat.Coprime f.natAbs m.natAbs := by
   have : (Nat.gcd m.natAbs f.natAbs : Int) = 1 := h2
   rw [Nat.coprime_comm]; exact_mod_cast this
 have e' : n.natAbs * f.natAbs = m.natAbs * d.natAbs := by rw [← Int.natAbs_mul, ← Int.natAbs_mul, e]
 have d1 : d.natAbs ∣ f.natAbs := c1.dvd_of_dvd_mul_left ⟨m.natAbs, by rw [e', Nat.mul_comm]⟩
 have d2 : f.natAbs ∣ d.natAbs := c2.dvd_of_dvd_mul_left ⟨n.natAbs, by rw [← e', Nat.mul_comm]⟩
 have ed : d.natAbs = f.natAbs := Nat.dvd_antisymm d1 d2
 have edf : d = f := by omega
 subst edf
 exact ⟨Int.eq_of_mul_eq_mul_right (by omega) e, rfl⟩
theorem cmpz_le0 (a b : Int) : YT a b ≤ 0 ↔ a ≤ b := by
 unfold YT
 split <;> (try split) <;> omega
/- Fractions as plain numbers: the laws of a field. -/

theorem low_is {s t n d : Int} (ht : 0 < t) (hd : 0 < d) (h1 : ZU n d = 1) (e : s * d = n * t) : YG s t = n ∧ YC s t = d := by
 refine frac_one (lowD_pos s ht) hd (low_one s ht) h1 ?_
 have c1 := low_cross s ht
 generalize YG s t = N at c1 ⊢
 generalize YC s t = D at c1 ⊢
 refine Int.eq_of_mul_eq_mul_right (a := t) (by omega) ?_
 rw [show N * d * t = (N * t) * d by simp only [Int.mul_comm, Int.mul_left_comm], c1, show s * D * d = (s * d) * D by simp only [Int.mul_comm, Int.mul_left_comm], e]
 simp only [Int.mul_comm, Int.mul_left_comm]
/- Floats by their rungs (their bits without the sign): what they are worth in units of 2^-1074, which one is the nearest; plain. -/

def p2 (k : Nat) : Nat := 2 ^ k
theorem Xk (k : Nat) : 0 < p2 k := Nat.two_pow_pos k
theorem YO (a b : Nat) : p2 (a + b) = p2 a * p2 b := Nat.pow_add 2 a b
theorem p2_succ (k : Nat) : p2 (k + 1) = 2 * p2 k := by unfold p2; rw [Nat.pow_succ, Nat.mul_comm]
theorem p2_zero : p2 0 = 1 := rfl
theorem p2_mono {a b : Nat} (h : a ≤ b) : p2 a ≤ p2 b := Nat.pow_le_pow_right (by omega) h
theorem p2_le {a b : Nat} (h : p2 a < p2 b) : a < b := (Nat.pow_lt_pow_iff_right (by omega)).1 h
def Xs (r : Nat) : Nat := if r < 4503599627370496 then r else 4503599627370496 + r % 4503599627370496
def Y2 (r : Nat) : Nat := r / 4503599627370496 - 1
def ZY (r : Nat) : Nat := Xs r * p2 (Y2 r)
theorem frung (r : Nat) : Y2 r * 4503599627370496 + Xs r = r ∧ Xs r < 9007199254740992 ∧ (Y2 r = 0 ∨ 4503599627370496 ≤ Xs r) := by
 unfold Y2 Xs
 split <;> omega
theorem fval_at {E k : Nat} (hk : k < 9007199254740992) (h : E = 0 ∨ 4503599627370496 ≤ k) : ZY (E * 4503599627370496 + k) = k * p2 E := by
 have h1 : Xs (E * 4503599627370496 + k) = k := by unfold Xs; split <;> omega
 have h2 : Y2 (E * 4503599627370496 + k) = E := by unfold Y2; omega
 unfold ZY
 rw [h1, h2]
theorem fval_next {E k : Nat} (hk : k < 9007199254740992) (h : E = 0 ∨ 4503599627370496 ≤ k) : ZY (E * 4503599627370496 + k + 1) = (k + 1) * p2 E := by
 by_cases h2 : k + 1 < 9007199254740992
 · rw [Nat.add_assoc]
   exact fval_at h2 (by omega)
 · have e : E * 4503599627370496 + k + 1 = (E + 1) * 4503599627370496 + 4503599627370496 := by omega
   rw [e, fval_at (by omega) (by omega), p2_succ, show k + 1 = 4503599627370496 * 2 by omega, Nat.mul_assoc]
theorem fval_succ (r : Nat) : ZY r = Xs r * p2 (Y2 r) ∧ ZY (r + 1) = (Xs r + 1) * p2 (Y2 r) := by
 obtain ⟨h1, h2, h3⟩ := frung r
 have a := fval_next h2 h3
 rw [h1] at a
 exact ⟨rfl, a⟩
theorem Jb (r : Nat) : ZY r < ZY (r + 1) := by
 have h := fval_succ r
 have hp := Xk (Y2 r)
 rw [h.1, h.2, Nat.add_mul]
 omega
theorem XL {a b : Nat} (h : a ≤ b) : ZY a ≤ ZY b := by
 induction h with
 | refl => exact Nat.le_refl _
 | step _ ih => exact Nat.le_trans ih (Nat.le_of_lt (Jb _))
theorem fval_lt {a b : Nat} (h : a < b) : ZY a < ZY b := Nat.lt_of_lt_of_le (Jb a) (XL h)
theorem Jf : ZY 0 = 0 := by unfold ZY Xs; simp
theorem fval_pos {a : Nat} (h : 0 < a) : 0 < ZY a := by have := fval_lt h; rw [Jf] at this; exact this
theorem fval_ge (r : Nat) : r ≤ ZY r := by
 induction r with
 | zero => exact Nat.zero_le _
 | succ r ih => exact Nat.lt_of_le_of_lt ih (Jb r)

def RungAt (N d b : Nat) : Prop := ZY b * d ≤ N ∧ N < ZY (b + 1) * d
theorem rung_one {N d b c : Nat} (h : RungAt N d b) (k : RungAt N d c) : b = c := by
 rcases Nat.lt_trichotomy b c with l | l | l
 · have := Nat.mul_le_mul_right d (XL (show b + 1 ≤ c from l)); have := h.2; have := k.1; omega
 · exact l
 · have := Nat.mul_le_mul_right d (XL (show c + 1 ≤ b from l)); have := k.2; have := h.1; omega
theorem rung_ex' (N d : Nat) : ∀ m, N < ZY m * d → ∃ b, RungAt N d b
 | 0, h => by rw [Jf] at h; omega
 | m + 1, h => by
   by_cases k : ZY m * d ≤ N
   · exact ⟨m, k, h⟩
   · exact rung_ex' N d m (by omega)
theorem rung_ex (N : Nat) {d : Nat} (hd : 0 < d) : ∃ b, RungAt N d b :=
 rung_ex' N d (N + 1) (Nat.lt_of_lt_of_le (Nat.lt_of_lt_of_le (Nat.lt_succ_self N) (fval_ge _)) (Nat.le_mul_of_pos_right _ hd))
def upR (N d b : Nat) : Nat := if (ZY b + ZY (b + 1)) * d < 2 * N ∨ ((ZY b + ZY (b + 1)) * d = 2 * N ∧ b % 2 = 1) then b + 1 else b
theorem upR_le (N d b : Nat) : b ≤ upR N d b ∧ upR N d b ≤ b + 1 := by unfold upR; split <;> omega
def Near (N d : Nat) (o : Option Nat) : Prop := ∃ b, RungAt N d b ∧ o = if upR N d b < 9218868437227405312 then some (upR N d b) else none
theorem near_one {N d : Nat} {o p : Option Nat} (h : Near N d o) (k : Near N d p) : o = p := by
 obtain ⟨b, h1, rfl⟩ := h
 obtain ⟨c, k1, rfl⟩ := k
 rw [rung_one h1 k1]
theorem near_ex (N : Nat) {d : Nat} (hd : 0 < d) : ∃ o, Near N d o := by
 obtain ⟨b, hb⟩ := rung_ex N hd
 exact ⟨_, b, hb, rfl⟩
theorem near_lt {N d : Nat} {r : Nat} (h : Near N d (some r)) : r < 9218868437227405312 := by
 obtain ⟨b, -, h⟩ := h
 split at h
 · injection h with h; omega
 · cases h
theorem near_cap {N d b : Nat} (hd : 0 < d) (h : ZY b * d ≤ N) (k : b + 1 = 9218868437227405312 ∨ N < ZY (b + 1) * d) :
   Near N d (if upR N d b < 9218868437227405312 then some (upR N d b) else none) := by
 by_cases k2 : N < ZY (b + 1) * d
 · exact ⟨b, ⟨h, k2⟩, rfl⟩
 · have e : b + 1 = 9218868437227405312 := by omega
   obtain ⟨c, hc⟩ := rung_ex N hd
   have hcb : b + 1 ≤ c := by
     refine Decidable.byContradiction fun hn => ?_
     have := Nat.mul_le_mul_right d (XL (show c + 1 ≤ b + 1 by omega))
     have := hc.2
     omega
   have h1 := Nat.mul_lt_mul_of_pos_right (Jb b) hd
   have hu : upR N d b = b + 1 := by
     unfold upR
     rw [if_pos (.inl (by rw [Nat.add_mul]; omega))]
   have hv := upR_le N d c
   refine ⟨c, hc, ?_⟩
   rw [hu, if_neg (by omega), if_neg (by omega)]
theorem scale_cmp {x x' y y' P Q : Nat} (hP : 0 < P) (hQ : 0 < Q) (h : x * P = y * Q) (h' : x' * P = y' * Q) : (x < x' ↔ y < y') ∧ (x = x' ↔ y = y') := by
 refine ⟨?_, ?_⟩
 · rw [← Nat.mul_lt_mul_right hP, h, h', Nat.mul_lt_mul_right hQ]
 · constructor
   · intro e
     rw [e, h'] at h
     exact (Nat.eq_of_mul_eq_mul_right hQ h).symm
   · intro e
     rw [e, ← h'] at h
     exact Nat.eq_of_mul_eq_mul_right hP h
theorem near_prog {n d q a b E drop half k low : Nat} (hd : 0 < d) (h1 : q * (d * p2 a) ≤ n * p2 b) (h2 : n * p2 b < (q + 1) * (d * p2 a))
   (hdr : p2 drop = 2 * half) (hq : q = k * p2 drop + low) (hl : low < p2 drop) (hE : E + b = 1074 + drop + a) (hk : k < 9007199254740992) (hE0 : E = 0 ∨ 4503599627370496 ≤ k) :
   RungAt (n * p2 1074) d (E * 4503599627370496 + k) ∧ upR (n * p2 1074) d (E * 4503599627370496 + k) = E * 4503599627370496 + k + (if half < low ∨ (low = half ∧ (q * (d * p2 a) ≠ n * p2 b ∨ k % 2 = 1)) then 1 else 0) := by
 have f1 := fval_at hk hE0
 have f2 := fval_next hk hE0
 have hp : p2 E * p2 b = p2 1074 * p2 drop * p2 a := by rw [← YO, hE, YO, YO]
 have pv := Xk b
 have pt := Xk 1074
 have pz := Xk a
 have hodd : (E * 4503599627370496 + k) % 2 = k % 2 := by omega
 unfold RungAt upR
 rw [f1, f2]
 generalize p2 E = u at *
 generalize p2 b = v at *
 generalize p2 1074 = t at *
 generalize p2 drop = g at *
 have hD : 0 < d * p2 a := Nat.mul_pos hd pz
 have e1 : k * u * d * v = k * g * (d * p2 a) * t := by
   rw [show k * u * d * v = k * d * (u * v) by ac_rfl, hp]; ac_rfl
 have e2 : (k + 1) * u * d * v = (k + 1) * g * (d * p2 a) * t := by
   rw [show (k + 1) * u * d * v = (k + 1) * d * (u * v) by ac_rfl, hp]; ac_rfl
 have e3 : (k * u + (k + 1) * u) * d * v = (k * g + half) * (d * p2 a) * (2 * t) := by
   have : (k * u + (k + 1) * u) * d * v = k * u * d * v + (k + 1) * u * d * v := by rw [Nat.add_mul, Nat.add_mul]
   rw [this, e1, e2, ← Nat.add_mul, ← Nat.add_mul]
   have h3 : k * g + (k + 1) * g = 2 * (k * g + half) := by rw [Nat.add_mul, Nat.one_mul]; omega
   rw [h3]; ac_rfl
 generalize d * p2 a = D at *
 have hkg : k * g ≤ q := by omega
 have hkg1 : q + 1 ≤ (k + 1) * g := by rw [Nat.add_mul, Nat.one_mul]; omega
 refine ⟨⟨?_, ?_⟩, ?_⟩
 · refine Nat.le_of_mul_le_mul_right (c := v) ?_ pv
   rw [e1, show n * t * v = n * v * t by ac_rfl]
   exact Nat.mul_le_mul_right t (Nat.le_trans (Nat.mul_le_mul_right D hkg) h1)
 · refine Nat.lt_of_mul_lt_mul_right (a := v) ?_
   rw [e2, show n * t * v = n * v * t by ac_rfl]
   exact Nat.mul_lt_mul_of_pos_right (Nat.lt_of_lt_of_le h2 (Nat.mul_le_mul_right D hkg1)) pt
 · have hc := scale_cmp (x := (k * u + (k + 1) * u) * d) (x' := 2 * (n * t)) (y := (k * g + half) * D) (y' := n * v) (P := v) (Q := 2 * t) pv (by omega) e3 (by ac_rfl)
   simp only [hc.1, hc.2, hodd]
   rcases Nat.lt_trichotomy low half with l | l | l
   · have h5 : (q + 1) * D ≤ (k * g + half) * D := Nat.mul_le_mul_right D (by omega)
     rw [if_neg (by omega), if_neg (by omega), Nat.add_zero]
   · have h5 : k * g + half = q := by omega
     rw [h5]
     by_cases hs : q * D = n * v
     · by_cases ho : k % 2 = 1
       · rw [if_pos (.inr ⟨hs, ho⟩), if_pos (.inr ⟨l, .inr ho⟩)]
       · rw [if_neg (by omega), if_neg (by omega), Nat.add_zero]
     · rw [if_pos (.inl (by omega)), if_pos (.inr ⟨l, .inl hs⟩)]
   · have h5 : (k * g + half) * D < q * D := Nat.mul_lt_mul_of_pos_right (by omega) hD
     rw [if_pos (.inl (by omega)), if_pos (.inl l)]
theorem q_room {n d a b bn bd : Nat} (hn : p2 (bn - 1) ≤ n ∧ n < p2 bn) (hd : p2 (bd - 1) ≤ d ∧ d < p2 bd) (hbn : 1 ≤ bn) (hbd : 1 ≤ bd) (h : bn + b ≤ 54 + bd + a) (h2 : b = 1075 ∨ bn + b = 54 + bd + a) :
   n * p2 b / (d * p2 a) < 36028797018963968 ∧ (b = 1075 ∨ 9007199254740992 ≤ n * p2 b / (d * p2 a)) := by
 have pa := Xk a
 have pb := Xk b
 have hD : 0 < d * p2 a := Nat.mul_pos (Nat.lt_of_lt_of_le (Xk _) hd.1) pa
 constructor
 · rw [Nat.div_lt_iff_lt_mul hD]
   have e1 : n * p2 b < p2 (bn + b) := by rw [YO]; exact Nat.mul_lt_mul_of_pos_right hn.2 pb
   have e2 := p2_mono h
   have e3 : p2 (54 + bd + a) = 36028797018963968 * (p2 (bd - 1) * p2 a) := by
     rw [show 54 + bd + a = 55 + ((bd - 1) + a) by omega, YO 55, YO (bd - 1)]
     rfl
   have e4 : p2 (bd - 1) * p2 a ≤ d * p2 a := Nat.mul_le_mul_right _ hd.1
   omega
 · rcases h2 with h2 | h2
   · exact .inl h2
   · refine .inr ((Nat.le_div_iff_mul_le hD).2 ?_)
     have e1 : p2 (bn - 1 + b) ≤ n * p2 b := by rw [YO]; exact Nat.mul_le_mul_right _ hn.1
     have e3 : p2 (bn - 1 + b) = 9007199254740992 * (p2 bd * p2 a) := by
       rw [show bn - 1 + b = 53 + (bd + a) by omega, YO 53, YO bd]
       rfl
     have e4 : d * p2 a < p2 bd * p2 a := Nat.mul_lt_mul_of_pos_right hd.2 pa
     omega
theorem low_pow {s a : Int} {t K : Nat} (h : t = 0 ∨ a % 2 = 1) (hs : s * (p2 t : Int) = a * (p2 K : Int)) : YG s (p2 K : Int) = a ∧ YC s (p2 K : Int) = (p2 t : Int) := by
 refine low_is (by have := Xk K; omega) (by have := Xk t; omega) ?_ hs
 unfold ZU
 rw [Int.natAbs_natCast]
 rcases h with h | h
 · subst h
   rw [p2_zero, Nat.gcd_one_right]
   rfl
 · have h2 : Nat.Coprime a.natAbs 2 := by
     have h1 : a.natAbs % 2 = 1 := by omega
     rw [Nat.coprime_comm]
     unfold Nat.Coprime
     rw [Nat.gcd_rec, h1]
     rfl
   have h3 : Nat.Coprime a.natAbs (p2 t) := Nat.Coprime.pow_right t h2
   rw [h3]
   rfl
end Go.Proofs.YtipmkkobdbgphaaGreatDoor
