/- Several texts in one: Trees, FOps, FPlain, ReadF. -/
import Derived.Test.YtkncbenhfcpgkaaGreatDoorPu43
import Derived.Test.YtkncbenhfcpgkaaGreatDoorPu18
import Derived.Test.YtkncbenhfcpgkaaGreatDoorPu25
import Derived.Test.YtkncbenhfcpgkaaGreatDoorPu14
import Derived.Test.YtkncbenhfcpgkaaGreatDoorPu16
import Derived.Test.YtkncbenhfcpgkaaGreatDoorPu24
import Derived.Test.YtkncbenhfcpgkaaGreatDoorPu08
import Derived.Test.YtkncbenhfcpgkaaGreatDoorPu23
import Derived.Test.YtkncbenhfcpgkaaGreatDoorPu39
import Derived.Test.YtkncbenhfcpgkaaGreatDoorPu05
import Derived.Test.YtkncbenhfcpgkaaGreatDoorPu17
import Derived.Test.YtkncbenhfcpgkaaGreatDoorPu03
import Derived.Test.YtkncbenhfcpgkaaGreatDoorPu02
import Derived.Test.YtkncbenhfcpgkaaGreatDoorPu01
import Derived.Test.YtkncbenhfcpgkaaGreatDoorPu22
import Derived.Test.YtkncbenhfcpgkaaGreatDoorPu13
import Derived.Test.YtkncbenhfcpgkaaGreatDoorPu12
import Derived.Test.YtkncbenhfcpgkaaGreatDoorPu06
import Derived.Test.YtkncbenhfcpgkaaGreatDoorPu04
import Derived.Test.YtkncbenhfcpgkaaGreatDoorPu15
import Derived.Test.YtkncbenhfcpgkaaGreatDoorPu09
import Derived.Test.YtkncbenhfcpgkaaGreatDoorPu07
import Derived.Test.YtkncbenhfcpgkaaGreatDoorPu11
import Derived.Test.YtkncbenhfcpgkaaGreatDoorPu27
import Derived.Test.YtkncbenhfcpgkaaGreatDoorPu19
import Derived.Test.YtkncbenhfcpgkaaGreatDoorPu26
import Derived.Test.YtkncbenhfcpgkaaGreatDoorPu42
import Derived.Test.YtkncbenhfcpgkaaGreatDoorPu31
import Derived.Test.YtkncbenhfcpgkaaGreatDoorPu30
import Derived.Test.YtkncbenhfcpgkaaGreatDoorPu29
import Derived.Test.YtkncbenhfcpgkaaGreatDoorPu28
import Derived.Test.YtkncbenhfcpgkaaGreatDoorPu20
import Derived.Test.YtkncbenhfcpgkaaGreatDoorPu10
set_option maxRecDepth 100000
set_option maxHeartbeats 8000000
/- Plus, Minus, Times, Over, Cmp of package ratio. (Written by wip/frac/gentrees.py.) -/
namespace Go.Proofs.YtkncbenhfcpgkaaGreatDoor
open Go.RowKit
def addN (n d m f : Int) : Int := lowN (n * f + m * d) (d * f)
def addD (n d m f : Int) : Int := lowD (n * f + m * d) (d * f)
def subN (n d m f : Int) : Int := lowN (n * f - m * d) (d * f)
def subD (n d m f : Int) : Int := lowD (n * f - m * d) (d * f)
def mulN (n d m f : Int) : Int := lowN (n * m) (d * f)
def mulD (n d m f : Int) : Int := lowD (n * m) (d * f)
def quoN (n d m f : Int) : Int := lowN (n * f) (d * m)
def quoD (n d m f : Int) : Int := lowD (n * f) (d * m)

/- The four operations of package frac; Cmp. (Written by wip/frac/genfops.py.) -/

theorem Reads.blk {w : World} {g n size : Nat} {t : TypeId} {cs : List Value} (h : Blk w g t cs.toArray) (hl : cs.length = n * size) : Reads w w.heap.size size (some ⟨g, 0, none⟩) n cs :=
  ⟨hl, fun _ => ⟨⟨g, 0, none⟩, rfl, h.lt, fun j u hu => by
    rw [show (⟨g, 0, none⟩ : Addr).add j = ⟨g, j, none⟩ by unfold Addr.add; split <;> simp_all, h.cell j, ← hu]
    simp⟩⟩
theorem FracIn.quad {w : World} {base g : Nat} {v a b c d : Value} {n m : Int} (h : FracIn w base v n m) (q : Quad w g a b c d) (x y z u : Value) : FracIn ((((w.setCell ⟨g, 0, none⟩ x).setCell ⟨g, 1, none⟩ y).setCell ⟨g, 2, none⟩ z).setCell ⟨g, 3, none⟩ u) base v n m := by
  obtain ⟨A, k, B, e, h1, h2, h3⟩ := h.form
  exact ⟨A, k, B, e, h1, h2.quad q _ _ _ _, h3.quad q _ _ _ _⟩
theorem FracIn.below {w w' : World} {base : Nat} {v : Value} {n d : Int} (h : FracIn w base v n d) (hb : Below w.heap.size w w') : FracIn w' base v n d := by
  obtain ⟨A, k, B, e, h1, h2, h3⟩ := h.form
  exact ⟨A, k, B, e, h1, h2.below hb, h3.below hb⟩

structure Fine (n d : Int) : Prop where
  chk : chkE (decide (n < 0)) (decide (d < 0)) (natL n.natAbs) (natL d.natAbs) = 0
  num : Fit n
  den : Fit d
  pos : 0 < d
  low : gcdZ n d = 1
theorem fine_of {n1 n2 : Bool} {xs ys : List Nat} (hx : Limbs xs) (hy : Limbs ys) (h0 : chkE n1 n2 xs ys = 0) : ∃ n d, Fine n d ∧ n1 = decide (n < 0) ∧ n2 = decide (d < 0) ∧ xs = natL n.natAbs ∧ ys = natL d.natAbs := by
  have hc := h0
  unfold chkE mkOk at h0
  cases o1 : okI n1 xs with
  | false => rw [o1] at h0; simp at h0
  | true =>
    cases o2 : okI n2 ys with
    | false => rw [o1, o2] at h0; simp at h0
    | true =>
      obtain ⟨a1, a2, a3⟩ := ok_num hx o1
      obtain ⟨b1, b2, b3⟩ := ok_num hy o2
      rw [o1, o2] at h0
      simp only [Bool.and_self, if_true] at h0
      generalize ival n1 xs = n at a1 a2 a3 h0
      generalize ival n2 ys = d at b1 b2 b3 h0
      subst a1 a2 b1 b2
      split at h0
      · next h1 => exact ⟨n, d, ⟨hc, a3, b3, h1.1, h1.2⟩, rfl, rfl, rfl, rfl⟩
      · simp at h0
def ansN (n d : Int) : Int := if lz n ≤ 2048 ∧ lz d ≤ 2048 then n else 0
def ansD (n d : Int) : Int := if lz n ≤ 2048 ∧ lz d ≤ 2048 then d else 0
def ansK (n d : Int) : Int := if lz n ≤ 2048 ∧ lz d ≤ 2048 then 0 else 4
theorem frac_answered (n d : Int) (A B : Option Addr) (c e0 : Nat) (w : World) (h : Raw w A c (natL n.natAbs)) (g : Raw w B e0 (natL d.natAbs)) :
    Calls Tryz.prog 101 #[.agg #[.bool (decide (n < 0)), .slice A (natL n.natAbs).length c, .bool (decide (d < 0)), .slice B (natL d.natAbs).length e0]] w (RetFracOwn2 w.heap.size w (ansN n d) (ansD n d) (ansK n d)) := by
  unfold ansN ansD ansK
  by_cases hl : lz n ≤ 2048 ∧ lz d ≤ 2048
  · simp only [if_pos hl]; exact frac_answered_fits n d A B c e0 w h g hl.1 hl.2
  · simp only [if_neg hl]; exact frac_answered_long n d A B c e0 w h g (by omega)
theorem ans_lz (n d : Int) : lz (ansN n d) ≤ 2048 ∧ lz (ansD n d) ≤ 2048 := by
  unfold ansN ansD
  split
  · assumption
  · decide
def RetFracB (w : World) (n d : Int) (b : Bool) (e : Ending) (w' : World) : Prop := ∃ v, e = .returned (.tuple #[v, .bool b]) ∧ FracIn w' 0 v n d ∧ Below w.heap.size w w'

/- Fractions as plain numbers: lowest terms are one, and stand in one order. -/

theorem gcdZ_dvd (n d : Int) : gcdZ n d ∣ n ∧ gcdZ n d ∣ d :=
  ⟨Int.ofNat_dvd_left.2 (Nat.gcd_dvd_left _ _), Int.ofNat_dvd_left.2 (Nat.gcd_dvd_right _ _)⟩
theorem low_parts (n : Int) {d : Int} (hd : 0 < d) : lowN n d * gcdZ n d = n ∧ lowD n d * gcdZ n d = d := by
  unfold lowN lowD
  rw [if_neg (by omega), if_neg (by omega)]
  exact ⟨Int.tdiv_mul_cancel (gcdZ_dvd n d).1, Int.tdiv_mul_cancel (gcdZ_dvd n d).2⟩
/- What a text is read as, as a fraction; plain. -/

def frontS (s : List UInt8) : List UInt8 := s.takeWhile (· ≠ 47)
def backS (s : List UInt8) : List UInt8 := s.drop ((frontS s).length + 1)
def readF (s : List UInt8) : Option (Int × Int) := match readZ (frontS s) with
  | none => none
  | some n => if 47 ∈ s then (match readZ (backS s) with
      | none => none
      | some d => if 0 < d ∧ d ≠ 1 ∧ gcdZ n d = 1 then some (n, d) else none)
    else some (n, 1)
theorem front_all : ∀ {s : List UInt8}, (47 : UInt8) ∉ s → frontS s = s
  | [], _ => rfl
  | x :: r, h => by
    have hx : x ≠ 47 := fun e => h (by rw [e]; exact List.mem_cons_self ..)
    unfold frontS
    rw [List.takeWhile_cons, if_pos (by simpa using hx)]
    exact congrArg (x :: ·) (front_all fun k => h (List.mem_cons_of_mem _ k))
theorem front_app {a b : List UInt8} (h : (47 : UInt8) ∉ a) : frontS (a ++ 47 :: b) = a := by
  unfold frontS
  induction a with
  | nil => rfl
  | cons x r ih =>
    have hx : x ≠ 47 := fun e => h (by rw [e]; exact List.mem_cons_self ..)
    rw [List.cons_append, List.takeWhile_cons, if_pos (by simpa using hx), ih fun k => h (List.mem_cons_of_mem _ k)]
theorem back_app {a b : List UInt8} (h : (47 : UInt8) ∉ a) : backS (a ++ 47 :: b) = b := by
  unfold backS
  rw [front_app h]
  simp
theorem split_at_bar : ∀ {s : List UInt8}, (47 : UInt8) ∈ s → s = frontS s ++ 47 :: backS s
  | [], h => by cases h
  | x :: r, h => by
    by_cases hx : x = 47
    · subst hx; simp [frontS, backS]
    · have hr : (47 : UInt8) ∈ r := (List.mem_cons.1 h).resolve_left fun e => hx e.symm
      have ih := split_at_bar hr
      have e1 : frontS (x :: r) = x :: frontS r := by unfold frontS; rw [List.takeWhile_cons, if_pos (by simpa using hx)]
      have e2 : backS (x :: r) = backS r := by unfold backS; rw [e1]; simp
      rw [e1, e2, List.cons_append, ← ih]
theorem front_no : ∀ (s : List UInt8), (47 : UInt8) ∉ frontS s
  | [], h => by cases h
  | x :: r, h => by
    unfold frontS at h
    rw [List.takeWhile_cons] at h
    split at h
    · rename_i hx
      rcases List.mem_cons.1 h with e | e
      · subst e; simp at hx
      · exact front_no r e
    · cases h
theorem itoa_no (x : Int) : (47 : UInt8) ∉ Lib.itoa x := fun h => by
  unfold Lib.itoa at h
  split at h
  · rcases List.mem_cons.1 h with e | e
    · exact absurd e (by decide)
    · have := (dec_isDigit _ e).1; exact absurd this (by decide)
  · have := (dec_isDigit _ h).1; exact absurd this (by decide)
theorem lowest_told {s : List UInt8} {n d : Int} (hb : (47 : UInt8) ∈ s) (hz : readZ (frontS s) = some n) (hy : readZ (backS s) = some d) (hd : 0 < d) :
    fracText (lowN n d) (lowD n d) = s ↔ d ≠ 1 ∧ gcdZ n d = 1 := by
  have es : s = Lib.itoa n ++ 47 :: Lib.itoa d := by rw [itoa_readZ hz, itoa_readZ hy]; exact split_at_bar hb
  constructor
  · intro h
    unfold fracText at h
    by_cases h1 : lowD n d = 1
    · rw [if_pos h1] at h
      exact absurd hb (by rw [← h]; exact itoa_no _)
    · rw [if_neg h1, es] at h
      have e2 := congrArg backS h
      rw [back_app (itoa_no _), back_app (itoa_no _)] at e2
      have e3 := itoa_inj.1 e2
      refine ⟨by rw [← e3]; exact h1, ?_⟩
      have h4 := (low_parts n hd).2
      rw [e3] at h4
      have h5 : d * gcdZ n d = d * 1 := by rw [h4, Int.mul_one]
      exact Int.eq_of_mul_eq_mul_left (by omega) h5
  · rintro ⟨h1, hg⟩
    have h4 := low_parts n hd
    rw [hg, Int.mul_one, Int.mul_one] at h4
    unfold fracText
    rw [h4.1, h4.2, if_neg h1, es]
end Go.Proofs.YtkncbenhfcpgkaaGreatDoor
