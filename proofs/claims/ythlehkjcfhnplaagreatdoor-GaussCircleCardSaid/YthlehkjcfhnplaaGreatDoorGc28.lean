/- Several texts in one: FOps, FPlain, FRingPlain, Rat. -/
import Derived.Test.YthlehkjcfhnplaaGreatDoorGc19
import Derived.Test.YthlehkjcfhnplaaGreatDoorGcHd
import Derived.Test.YthlehkjcfhnplaaGreatDoorGc23
import Derived.Test.YthlehkjcfhnplaaGreatDoorGc27
set_option maxRecDepth 100000
set_option maxHeartbeats 8000000
/- The four operations of package frac; Cmp. (Written by wip/frac/genfops.py.) -/
namespace Go.Proofs.YthlehkjcfhnplaaGreatDoor
open Go.RowKit

theorem Reads.blk {w : World} {g n size : Nat} {t : TypeId} {cs : List Value} (h : Blk w g t cs.toArray) (hl : cs.length = n * size) : Reads w w.heap.size size (some ⟨g, 0, none⟩) n cs :=
  ⟨hl, fun _ => ⟨⟨g, 0, none⟩, rfl, h.lt, fun j u hu => by
    rw [show (⟨g, 0, none⟩ : Addr).add j = ⟨g, j, none⟩ by unfold Addr.add; split <;> simp_all, h.cell j, ← hu]
    simp⟩⟩
theorem FracIn.quad {w : World} {base g : Nat} {v a b c d : Value} {n m : Int} (h : FracIn w base v n m) (q : Quad w g a b c d) (x y z u : Value) : FracIn ((((w.setCell ⟨g, 0, none⟩ x).setCell ⟨g, 1, none⟩ y).setCell ⟨g, 2, none⟩ z).setCell ⟨g, 3, none⟩ u) base v n m := by
  obtain ⟨A, k, B, e, h1, h2, h3⟩ := h.form
  exact ⟨A, k, B, e, h1, h2.quad q _ _ _ _, h3.quad q _ _ _ _⟩
theorem FracIn.below {w w' : World} {base : Nat} {v : Value} {n d : Int} (h : FracIn w base v n d) (hb : Below w.heap.size w w') : FracIn w' base v n d := by
  obtain ⟨A, k, B, e, h1, h2, h3⟩ := h.form
  exact ⟨A, k, B, e, h1, h2.below hb, h3.below hb⟩

theorem ratio_ChecksI (l : List FLoc) (ks : Nat → Bool) (A : Option Addr) (c : Nat) (hl : l.length ≤ 9223372036854775807) (w : World) (h : Reads w w.heap.size 4 A l.length (cellsF l))
    (H : ∀ q (hq : q < l.length), ∀ V, Below w.heap.size w V → Calls Tryz.prog 140 #[l[q].val] V fun e w' => e = .returned (.int .i64 (if ks q then 0 else 1)) ∧ Below V.heap.size V w') :
    Calls Tryz.prog 124 #[.slice A l.length c] w fun e w' => e = .returned (.bool ((List.range l.length).all ks)) ∧ Below w.heap.size w w' := by
  have HR := Hd h
  have HS := Hd H
  clear h H
  have H0 := Hd (by intro j hj; omega : ∀ j (_ : j < 0), (h : j < l.length) → ks j = true)
  go_enter Tryz.func124, Tryz.ntmps124
  go_wp2_with fail
  go_loopw [7] (fun s wr => ∃ i : Nat, s = .int .i64 i ∧ i ≤ l.length ∧ Hid (∀ j (_ : j < i), (h : j < l.length) → ks j = true) ∧ Below w.heap.size w wr) (fun s _ => l.length - (intOf s).toNat)
  case atStart => exact ⟨0, rfl, Nat.zero_le _, H0, Below.refl _ _⟩
  case round =>
    obtain ⟨i, rfl, hi, HN, hb⟩ := hrel
    clear H0
    by_cases hlt : i < l.length
    · have a0 : (0 : Int) ≤ (i : Int) := by omega
      have a1 : (i : Int) < (l.length : Int) := by omega
      obtain ⟨e0, e1, e2, e3⟩ := cellsF_get l i hlt
      obtain ⟨ad, rfl, hbl, c0, c1, c2, c3⟩ := (HR.out.below hb).row4 hlt e0 e1 e2 e3
      have C := HS.out i hlt
      unfold FLoc.val at C
      have HB := Hd hb
      clear e0 e1 e2 e3 hbl hb
      by_cases hlong : ks i = true
      · rw [if_pos hlong] at C
        have C := Hd C
        have HL := Hd hlong
        clear hlong
        go_wp2_with (first | (go_at_call 140; with_reducible refine (C.out _ (HB.out.alloc HB.out.size _)).mono ?_; rintro e w' ⟨rfl, hb'⟩; have B1 := belowTo (HB.out.alloc HB.out.size _) hb'))
        go_roundw
        case rel =>
          refine ⟨i + 1, by go_num, hlt, Hd fun j hj h => ?_, B1⟩
          rcases (by omega : j < i ∨ j = i) with hj | rfl
          · exact HN.out j hj h
          · exact HL.out
        case measure => simp [intOf]; omega
      · rw [if_neg hlong] at C
        have C := Hd C
        have HL := Hd hlong
        clear hlong
        go_wp2_with (first | (go_at_call 140; with_reducible refine (C.out _ (HB.out.alloc HB.out.size _)).mono ?_; rintro e w' ⟨rfl, hb'⟩; have B1 := belowTo (HB.out.alloc HB.out.size _) hb'))
        go_ret
        have e : (List.range l.length).all ks = false := List.all_eq_false.2 ⟨i, List.mem_range.2 hlt, HL.out⟩
        exact ⟨by rw [e]; rfl, B1⟩
    · have HB := Hd hb
      clear hb
      go_wp2_with fail
      go_ret
      have e : (List.range l.length).all ks = true := List.all_eq_true.2 fun x hx => by
        have hj := List.mem_range.1 hx
        exact HN.out x (by omega) hj
      exact ⟨by rw [e]; rfl, HB.out⟩

theorem checks_two (n1 n2 n3 n4 : Bool) (A B A2 B2 : Option Addr) (c e0 c2 e2 : Nat) (xs ys us vs : List Nat) (V : World) (g' : Nat) (hx : Raw V A c xs) (kx : Raw V B e0 ys) (hy : Raw V A2 c2 us) (ky : Raw V B2 e2 vs) (hg : V.heap.size = g') :
    Calls Tryz.prog 124 #[.slice (some ⟨g', 0, none⟩) 2 2] (V.alloc (.cells #[.bool n1, .slice A xs.length c, .bool n2, .slice B ys.length e0, .bool n3, .slice A2 us.length c2, .bool n4, .slice B2 vs.length e2] 26)) fun e w' => e = .returned (.bool (chkE n1 n2 xs ys == 0 && chkE n3 n4 us vs == 0)) ∧ Below (V.alloc (.cells #[.bool n1, .slice A xs.length c, .bool n2, .slice B ys.length e0, .bool n3, .slice A2 us.length c2, .bool n4, .slice B2 vs.length e2] 26)).heap.size (V.alloc (.cells #[.bool n1, .slice A xs.length c, .bool n2, .slice B ys.length e0, .bool n3, .slice A2 us.length c2, .bool n4, .slice B2 vs.length e2] 26)) w' := by
  have := ratio_ChecksI [⟨n1, A, xs.length, c, n2, B, ys.length, e0⟩, ⟨n3, A2, us.length, c2, n4, B2, vs.length, e2⟩] (fun i => if i = 0 then chkE n1 n2 xs ys == 0 else chkE n3 n4 us vs == 0) (some ⟨g', 0, none⟩) 2 (by simp) (V.alloc (.cells #[.bool n1, .slice A xs.length c, .bool n2, .slice B ys.length e0, .bool n3, .slice A2 us.length c2, .bool n4, .slice B2 vs.length e2] 26))
    (by subst hg; exact Reads.blk (Blk.new V 26 #[.bool n1, .slice A xs.length c, .bool n2, .slice B ys.length e0, .bool n3, .slice A2 us.length c2, .bool n4, .slice B2 vs.length e2]) rfl)
    (by
      intro q hq W hW
      rcases (by simp at hq; omega : q = 0 ∨ q = 1) with rfl | rfl
      · have := ratio_Check n1 n2 A B c e0 xs ys W ((hx.alloc _).below hW) ((kx.alloc _).below hW)
        rw [chkE_bool] at this
        exact this
      · have := ratio_Check n3 n4 A2 B2 c2 e2 us vs W ((hy.alloc _).below hW) ((ky.alloc _).below hW)
        rw [chkE_bool] at this
        exact this)
  simpa [List.range, List.range.loop] using this

structure Fine (n d : Int) : Prop where
  chk : chkE (decide (n < 0)) (decide (d < 0)) (natL n.natAbs) (natL d.natAbs) = 0
  num : Fit n
  den : Fit d
  pos : 0 < d
  low : gcdZ n d = 1
theorem fine_of {n1 n2 : Bool} {xs ys : List Nat} (hx : Limbs xs) (hy : Limbs ys) (h0 : chkE n1 n2 xs ys = 0) : ∃ n d, Fine n d ∧ n1 = decide (n < 0) ∧ n2 = decide (d < 0) ∧ xs = natL n.natAbs ∧ ys = natL d.natAbs := by
  have hc := h0
  unfold chkE mkOk at h0
  cases o1 : okI n1 xs with
  | false => rw [o1] at h0; simp at h0
  | true =>
    cases o2 : okI n2 ys with
    | false => rw [o1, o2] at h0; simp at h0
    | true =>
      obtain ⟨a1, a2, a3⟩ := ok_num hx o1
      obtain ⟨b1, b2, b3⟩ := ok_num hy o2
      rw [o1, o2] at h0
      simp only [Bool.and_self, if_true] at h0
      generalize ival n1 xs = n at a1 a2 a3 h0
      generalize ival n2 ys = d at b1 b2 b3 h0
      subst a1 a2 b1 b2
      split at h0
      · next h1 => exact ⟨n, d, ⟨hc, a3, b3, h1.1, h1.2⟩, rfl, rfl, rfl, rfl⟩
      · simp at h0
def ansN (n d : Int) : Int := if lz n ≤ 2048 ∧ lz d ≤ 2048 then n else 0
def ansD (n d : Int) : Int := if lz n ≤ 2048 ∧ lz d ≤ 2048 then d else 0
def ansK (n d : Int) : Int := if lz n ≤ 2048 ∧ lz d ≤ 2048 then 0 else 4
theorem frac_answered (n d : Int) (A B : Option Addr) (c e0 : Nat) (w : World) (h : Raw w A c (natL n.natAbs)) (g : Raw w B e0 (natL d.natAbs)) :
    Calls Tryz.prog 213 #[.agg #[.bool (decide (n < 0)), .slice A (natL n.natAbs).length c, .bool (decide (d < 0)), .slice B (natL d.natAbs).length e0]] w (RetFracOwn2 w.heap.size w (ansN n d) (ansD n d) (ansK n d)) := by
  unfold ansN ansD ansK
  by_cases hl : lz n ≤ 2048 ∧ lz d ≤ 2048
  · simp only [if_pos hl]; exact frac_answered_fits n d A B c e0 w h g hl.1 hl.2
  · simp only [if_neg hl]; exact frac_answered_long n d A B c e0 w h g (by omega)
def RetFracB (w : World) (n d : Int) (b : Bool) (e : Ending) (w' : World) : Prop := ∃ v, e = .returned (.tuple #[v, .bool b]) ∧ FracIn w' 0 v n d ∧ Below w.heap.size w w'

/- Fractions as plain numbers: lowest terms are one, and stand in one order. -/

theorem gcdZ_dvd (n d : Int) : gcdZ n d ∣ n ∧ gcdZ n d ∣ d :=
  ⟨Int.ofNat_dvd_left.2 (Nat.gcd_dvd_left _ _), Int.ofNat_dvd_left.2 (Nat.gcd_dvd_right _ _)⟩
theorem low_parts (n : Int) {d : Int} (hd : 0 < d) : lowN n d * gcdZ n d = n ∧ lowD n d * gcdZ n d = d := by
  unfold lowN lowD
  rw [if_neg (by omega), if_neg (by omega)]
  exact ⟨Int.tdiv_mul_cancel (gcdZ_dvd n d).1, Int.tdiv_mul_cancel (gcdZ_dvd n d).2⟩
theorem lowD_pos (n : Int) {d : Int} (hd : 0 < d) : 0 < lowD n d := by
  have h := (low_parts n hd).2
  have hg := gcdZ_pos (n := n) (d := d) (by omega)
  rcases Int.lt_trichotomy (lowD n d) 0 with h1 | h1 | h1
  · have := Int.mul_neg_of_neg_of_pos h1 hg; omega
  · rw [h1] at h; simp at h; omega
  · exact h1
theorem low_one (n : Int) {d : Int} (hd : 0 < d) : gcdZ (lowN n d) (lowD n d) = 1 := by
  unfold lowN lowD
  rw [if_neg (by omega), if_neg (by omega)]
  have hp : 0 < Nat.gcd n.natAbs d.natAbs := Nat.gcd_pos_of_pos_right _ (by omega)
  have hc : Nat.gcd (n.natAbs / Nat.gcd n.natAbs d.natAbs) (d.natAbs / Nat.gcd n.natAbs d.natAbs) = 1 := Nat.coprime_div_gcd_div_gcd hp
  unfold gcdZ
  rw [Int.natAbs_tdiv, Int.natAbs_tdiv, Int.natAbs_natCast]
  exact congrArg (fun k : Nat => (k : Int)) hc
theorem low_cross (n : Int) {d : Int} (hd : 0 < d) : lowN n d * d = n * lowD n d := by
  have h := low_parts n hd
  generalize lowN n d = p at h ⊢
  generalize lowD n d = q at h ⊢
  generalize gcdZ n d = g at h
  rw [← h.1, ← h.2, Int.mul_assoc, Int.mul_comm g q, Int.mul_comm q g]
/- Fractions as plain numbers: the laws of a field. -/

/- Fractions in lowest terms as rational numbers; plain. -/

structure Is (q : Rat) (n d : Int) : Prop where
  num : q.num = n
  den : (q.den : Int) = d
theorem Is.pos {q : Rat} {n d : Int} (h : Is q n d) : 0 < d := by
  have := q.den_pos
  rw [← h.den]
  omega
theorem Is.low {q : Rat} {n d : Int} (h : Is q n d) : gcdZ n d = 1 := by
  have := q.reduced
  unfold gcdZ
  rw [← h.num, ← h.den, Int.natAbs_natCast]
  exact congrArg (fun k : Nat => (k : Int)) this
theorem Is.of (q : Rat) : Is q q.num q.den := ⟨rfl, rfl⟩
theorem Is.eq {q : Rat} {n d : Int} (h : Is q n d) : q = Rat.divInt n d := by
  rw [← h.num, ← h.den, Rat.num_divInt_den]
theorem Is.one {a b : Rat} {n d m f : Int} (h : Is a n d) (g : Is b m f) : a = b ↔ n = m ∧ d = f := by
  constructor
  · rintro rfl
    exact ⟨h.num.symm.trans g.num, h.den.symm.trans g.den⟩
  · rintro ⟨rfl, rfl⟩
    rw [h.eq, g.eq]
theorem Is.uniq {q : Rat} {n d m f : Int} (h : Is q n d) (g : Is q m f) : n = m ∧ d = f := (h.one g).1 rfl
theorem is_of {n d : Int} (hd : 0 < d) (hg : gcdZ n d = 1) : Is (Rat.divInt n d) n d := by
  have hc : Nat.Coprime n.natAbs d.natAbs := by
    unfold gcdZ at hg
    exact_mod_cast hg
  have e : Rat.divInt n d = ⟨n, d.natAbs, by omega, hc⟩ := by
    rw [Rat.mk_eq_divInt, show ((d.natAbs : Nat) : Int) = d by omega]
  rw [e]
  exact ⟨rfl, by show ((d.natAbs : Nat) : Int) = d; omega⟩
theorem low_neg {n d : Int} (hd : d < 0) : lowN n d = lowN (-n) (-d) ∧ lowD n d = lowD (-n) (-d) := by
  unfold lowN lowD
  have eg : gcdZ (-n) (-d) = gcdZ n d := by unfold gcdZ; rw [Int.natAbs_neg, Int.natAbs_neg]
  rw [if_pos hd, if_pos hd, if_neg (by omega), if_neg (by omega), eg, Int.neg_tdiv, Int.neg_tdiv]
  exact ⟨rfl, rfl⟩
theorem is_low (n : Int) {d : Int} (hd : d ≠ 0) : Is (Rat.divInt n d) (lowN n d) (lowD n d) := by
  have key : ∀ (n : Int) {d : Int}, 0 < d → Is (Rat.divInt n d) (lowN n d) (lowD n d) := fun n d hd => by
    have e : Rat.divInt n d = Rat.divInt (lowN n d) (lowD n d) := by
      have h2 := lowD_pos n hd
      rw [Rat.divInt_eq_divInt_iff (by omega) (by omega)]
      exact (low_cross n hd).symm
    rw [e]
    exact is_of (lowD_pos n hd) (low_one n hd)
  rcases Int.lt_or_gt_of_ne hd with h | h
  · rw [(low_neg h).1, (low_neg h).2, ← Rat.neg_divInt_neg]
    exact key _ (by omega)
  · exact key _ h
section
variable {a b : Rat} {n d m f : Int} (h : Is a n d) (g : Is b m f)
include h g
theorem is_add : Is (a + b) (addN n d m f) (addD n d m f) := by
  have h1 := h.pos
  have h2 := g.pos
  rw [h.eq, g.eq, Rat.divInt_add_divInt _ _ (by omega) (by omega)]
  exact is_low _ (Int.mul_ne_zero (by omega) (by omega))
theorem is_sub : Is (a - b) (subN n d m f) (subD n d m f) := by
  have h1 := h.pos
  have h2 := g.pos
  rw [h.eq, g.eq, Rat.divInt_sub_divInt _ _ (by omega) (by omega)]
  exact is_low _ (Int.mul_ne_zero (by omega) (by omega))
theorem is_mul : Is (a * b) (mulN n d m f) (mulD n d m f) := by
  have h1 := h.pos
  have h2 := g.pos
  rw [h.eq, g.eq, Rat.divInt_mul_divInt]
  exact is_low _ (Int.mul_ne_zero (by omega) (by omega))
theorem is_quo (hb : b ≠ 0) : Is (a / b) (quoN n d m f) (quoD n d m f) := by
  have h1 := h.pos
  have h2 := g.pos
  have h3 : m ≠ 0 := fun e => hb (by rw [← Rat.num_eq_zero, g.num, e])
  rw [h.eq, g.eq, Rat.div_def, Rat.inv_divInt, Rat.divInt_mul_divInt]
  exact is_low _ (Int.mul_ne_zero (by omega) h3)
end
theorem is_unit : Is 1 1 1 := ⟨rfl, rfl⟩
theorem Is.nought {q : Rat} {n d : Int} (h : Is q n d) : n = 0 ↔ q = 0 := by rw [← Rat.num_eq_zero, h.num]
theorem is_int (z : Int) : Is (z : Rat) z 1 := ⟨rfl, rfl⟩
theorem fine_is {n d : Int} (f : Fine n d) : Is (Rat.divInt n d) n d := is_of f.pos f.low
theorem Is.fine {q : Rat} {n d : Int} (h : Is q n d) (h1 : lz n ≤ 2048) (h2 : lz d ≤ 2048) : Fine n d := by
  have f1 : Fit n := h1
  have f2 : Fit d := h2
  refine ⟨?_, h1, h2, h.pos, h.low⟩
  unfold chkE mkOk
  rw [f1.ok, f2.ok, ival_at, ival_at]
  simp only [Bool.and_self, if_true]
  rw [if_pos ⟨h.pos, h.low⟩]
end Go.Proofs.YthlehkjcfhnplaaGreatDoor
