/- Several texts in one: ReadBack, RefDivide, RefQuo. -/
import Derived.Test.YtbdliabfdplohaaDoorBw07
import Derived.Lib.ItoaMem
import Derived.Test.YtbdliabfdplohaaDoorBw11
import Derived.Test.YtbdliabfdplohaaDoorBw20
set_option maxRecDepth 100000
set_option maxHeartbeats 8000000
/- What is told is read as the number; what is read is told so: plain Lean. -/
namespace Go.Proofs.YtbdliabfdplohaaDoor

theorem dec_ne (n : Nat) : Lib.decDigits n ≠ [] := fun e => by
  have h := read_digits n
  rcases Nat.eq_zero_or_pos n with h0 | h0
  · subst h0; rw [Lib.decDigits_one (by omega)] at e; cases e
  · obtain ⟨d, r, h1, -⟩ := dec_head n (by omega)
    rw [h1] at e; cases e
theorem dec_first (n : Nat) : (Lib.decDigits n).head? ≠ some 48 ∨ Lib.decDigits n = [48] := by
  rcases Nat.eq_zero_or_pos n with h0 | h0
  · subst h0; exact .inr (Lib.decDigits_one (by omega))
  · obtain ⟨d, r, h1, h2⟩ := dec_head n (by omega)
    rw [h1]
    exact .inl (by simpa using h2)
theorem dec_isDigit (n : Nat) {b : UInt8} (h : b ∈ Lib.decDigits n) : 48 ≤ b.toNat ∧ b.toNat ≤ 57 := by
  obtain ⟨i, hi, e⟩ := List.mem_iff_getElem.1 h
  refine Decidable.byContradiction fun hn => ?_
  have h2 := read_digits n
  rw [decFrom_none (i := i) (b := b) (by rw [List.getElem?_eq_getElem hi, e]) (digitVal_none (by omega))] at h2
  cases h2
theorem readN_dec (n : Nat) (neg : Bool) (h : neg = true → n ≠ 0) : readN (Lib.decDigits n) neg = some n := by
  unfold readN
  have hb : badD (Lib.decDigits n) neg = false := by
    unfold badD
    have h1 : (Lib.decDigits n).isEmpty = false := by
      cases hd : Lib.decDigits n with
      | nil => exact absurd hd (dec_ne n)
      | cons _ _ => rfl
    rw [h1, Bool.false_or]
    rcases dec_first n with h2 | h2
    · rw [beq_eq_false_iff_ne.2 h2]; rfl
    · rw [h2]
      cases neg with
      | false => rfl
      | true =>
        exfalso
        have h3 := read_digits n
        rw [h2] at h3
        have h4 : Lib.decFrom 0 [48] = some 0 := by decide
        rw [h4] at h3
        exact h rfl (Option.some.inj h3).symm
  rw [hb, if_neg Bool.false_ne_true, read_digits]
theorem readZ_itoa (x : Int) : readZ (Lib.itoa x) = some x := by
  unfold readZ
  by_cases hx : x < 0
  · have e : Lib.itoa x = 45 :: Lib.decDigits x.natAbs := by unfold Lib.itoa; rw [if_pos hx]
    have h1 : negOf (Lib.itoa x) = true := by rw [e]; rfl
    have h2 : tailOf (Lib.itoa x) = Lib.decDigits x.natAbs := by unfold tailOf; rw [h1, e]; rfl
    rw [h1, h2, readN_dec _ _ (by intro _; omega)]
    show some (if true = true then -((x.natAbs : Nat) : Int) else ((x.natAbs : Nat) : Int)) = some x
    rw [if_pos rfl, show -((x.natAbs : Nat) : Int) = x by omega]
  · have e : Lib.itoa x = Lib.decDigits x.toNat := by unfold Lib.itoa; rw [if_neg hx]
    have h1 : negOf (Lib.itoa x) = false := by
      rw [e]
      unfold negOf
      cases hd : Lib.decDigits x.toNat with
      | nil => rfl
      | cons b r =>
        have := dec_isDigit x.toNat (b := b) (by rw [hd]; simp)
        show (some b == some (45 : UInt8)) = false
        rw [beq_eq_false_iff_ne]
        intro h3
        injection h3 with h3
        rw [h3] at this
        exact absurd this.1 (by decide)
    have h2 : tailOf (Lib.itoa x) = Lib.decDigits x.toNat := by unfold tailOf; rw [h1, e]; rfl
    rw [h1, h2, readN_dec _ _ (by intro h; cases h)]
    show some (if false = true then -((x.toNat : Nat) : Int) else ((x.toNat : Nat) : Int)) = some x
    rw [if_neg Bool.false_ne_true, show ((x.toNat : Nat) : Int) = x by omega]
theorem itoa_readZ {s : List UInt8} {z : Int} (h : readZ s = some z) : Lib.itoa z = s := by
  unfold readZ at h
  cases hn : readN (tailOf s) (negOf s) with
  | none => rw [hn] at h; cases h
  | some n =>
    rw [hn] at h
    have hz : (if negOf s then -(n : Int) else n) = z := Option.some.inj h
    unfold readN at hn
    cases hb : badD (tailOf s) (negOf s) with
    | true => rw [hb] at hn; cases hn
    | false =>
      rw [hb, if_neg Bool.false_ne_true] at hn
      have hne : tailOf s ≠ [] := fun e => by rw [e] at hb; cases hb
      have hb2 : ((tailOf s).head? == some 48 && (decide (1 < (tailOf s).length) || negOf s)) = false := by
        unfold badD at hb
        exact (Bool.or_eq_false_iff.1 hb).2
      have hfirst : (tailOf s).head? ≠ some 48 ∨ tailOf s = [48] := by
        by_cases h1 : (tailOf s).head? = some 48
        · right
          rw [h1] at hb2
          have h2 : (decide (1 < (tailOf s).length) || negOf s) = false := hb2
          have h3 := of_decide_eq_false (Bool.or_eq_false_iff.1 h2).1
          cases ht : tailOf s with
          | nil => exact absurd ht hne
          | cons b r =>
            rw [ht] at h1 h3
            cases r with
            | nil => simp at h1; rw [h1]
            | cons _ _ => simp at h3
        · exact .inl h1
      have hd := digits_read _ _ rfl n hn hne hfirst
      cases hg : negOf s with
      | false =>
        have hs : tailOf s = s := by unfold tailOf; rw [hg]; rfl
        rw [hg, if_neg Bool.false_ne_true] at hz
        rw [← hz, Lib.itoa_nonneg, hd, hs]
      | true =>
        have hs : 45 :: tailOf s = s := by
          unfold tailOf
          rw [hg]
          unfold negOf at hg
          cases s with
          | nil => cases hg
          | cons b r =>
            simp at hg
            rw [hg]; rfl
        rw [hg] at hz
        simp only [if_true] at hz
        have hn0 : 0 < n := by
          rcases Nat.eq_zero_or_pos n with h0 | h0
          · exfalso
            rw [h0, Lib.decDigits_one (by omega)] at hd
            rw [← hd, hg] at hb2
            exact absurd hb2 (by decide)
          · exact h0
        rw [← hz, Lib.itoa_neg _ hn0, hd, hs]
theorem itoa_inj {x y : Int} : Lib.itoa x = Lib.itoa y ↔ x = y := by
  constructor
  · intro h
    have := readZ_itoa x
    rw [h, readZ_itoa y] at this
    exact (Option.some.inj this).symm
  · intro h; rw [h]
/- divide of the references: long division, limb by limb. -/
open Go.RowKit

def RetNN (base : Nat) (w : World) (n1 n2 : Nat) (e : Ending) (w' : World) : Prop := ∃ v1 v2, e = .returned (.tuple #[v1, v2]) ∧ OwnN w' base v1 n1 ∧ OwnN w' base v2 n2 ∧ Below w.heap.size w w'

theorem own_setFar {w : World} {base : Nat} {e : TypeId} {size n g k : Nat} {v : Value} {xs : List Value} (h : w.ownsRow base e size v n xs) (hg : g < base) (u : Value) : (w.setCell ⟨g, k, none⟩ u).ownsRow base e size v n xs := by
  refine ⟨h.1, ?_⟩
  rcases h.2 with h2 | ⟨b, cap, cur, h1, h2, h3, h4⟩
  · exact .inl h2
  · exact .inr ⟨b, cap, cur, h1, h2, (Blk.far (t := e) h3 (p := ⟨g, k, none⟩) (show b ≠ g by omega) u), h4⟩
theorem OwnN.far {w : World} {base n g k : Nat} {v : Value} (h : OwnN w base v n) (hg : g < base) (u : Value) : OwnN (w.setCell ⟨g, k, none⟩ u) base v n := by
  obtain ⟨A, c, h1, h2, h3, h4⟩ := h.form
  exact ⟨A, c, h1, h2, h3, own_setFar h4 hg u⟩

structure RDiv (w wr : World) (g : Nat) (xs ys : List Nat) (v : Value) (k R : Nat) (zs : List Nat) : Prop where
  len : zs.length = xs.length
  limbs : Limbs zs
  row : Row wr g zs
  low : Below w.heap.size w wr
  own : OwnN wr (g + 1) v R
  eq : val (zs.drop k) * val ys + R = val (xs.drop k)
  lt : R < val ys
  nought : ∀ j, j < k → at0 zs j = 0
theorem RDiv.skip {w wr wr' : World} {g : Nat} {xs ys : List Nat} {v v' : Value} {k R : Nat} {zs : List Nat} (h : RDiv w wr g xs ys v (k + 1) R zs) (hk : k < xs.length) (hrow : Row wr' g zs) (hlow : Below w.heap.size w wr') (hown : OwnN wr' (g + 1) v' (xs[k] + 4294967296 * R)) (hlt : xs[k] + 4294967296 * R < val ys) :
    RDiv w wr' g xs ys v' k (xs[k] + 4294967296 * R) zs := by
  have hk2 : k < zs.length := by rw [h.len]; exact hk
  have h0 : zs[k] = 0 := by rw [← at0_lt hk2]; exact h.nought k (Nat.lt_succ_self _)
  refine ⟨h.len, h.limbs, hrow, hlow, hown, ?_, hlt, fun j hj => h.nought j (by omega)⟩
  rw [val_drop_more hk2, val_drop_more hk, h0, ← h.eq, Nat.zero_add, Nat.mul_add, Nat.mul_assoc]
  omega
theorem RDiv.take {w wr wr' : World} {g : Nat} {xs ys : List Nat} {v v' : Value} {k R q : Nat} {zs : List Nat} (h : RDiv w wr g xs ys v (k + 1) R zs) (hk : k < xs.length) (hq : q = (xs[k] + 4294967296 * R) / val ys) (hq2 : q < 4294967296) (hrow : Row wr' g (zs.set k q)) (hlow : Below w.heap.size w wr') (hown : OwnN wr' (g + 1) v' (xs[k] + 4294967296 * R - val ys * q)) :
    RDiv w wr' g xs ys v' k (xs[k] + 4294967296 * R - val ys * q) (zs.set k q) := by
  have hk2 : k < zs.length := by rw [h.len]; exact hk
  have hY : 0 < val ys := by have := h.lt; omega
  have hd := Nat.div_add_mod (xs[k] + 4294967296 * R) (val ys)
  have hm := Nat.mod_lt (xs[k] + 4294967296 * R) hY
  rw [← hq] at hd
  refine ⟨by rw [List.length_set]; exact h.len, limbs_set h.limbs hq2, hrow, hlow, hown, ?_, by omega, fun j hj => ?_⟩
  · rw [val_drop_set hk2, val_drop_more hk, ← h.eq, Nat.add_mul, Nat.mul_assoc 4294967296, Nat.mul_add, Nat.mul_comm q]
    omega
  · rw [at0_set_ne (by omega)]; exact h.nought j (by omega)
theorem RDiv.stop {w wr : World} {g : Nat} {xs ys : List Nat} {v : Value} {R : Nat} {zs : List Nat} (h : RDiv w wr g xs ys v 0 R zs) : val zs = val xs / val ys ∧ R = val xs % val ys := by
  have e := h.eq
  have hl := h.lt
  simp only [List.drop_zero] at e
  have hY : 0 < val ys := by omega
  rw [← e]
  constructor
  · rw [Nat.add_comm, Nat.add_mul_div_right _ _ hY, Nat.div_eq_of_lt hl, Nat.zero_add]
  · rw [Nat.mul_add_mod_self_right, Nat.mod_eq_of_lt hl]

/- Divide of the references. -/

end Go.Proofs.YtbdliabfdplohaaDoor
