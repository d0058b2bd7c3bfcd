/- Several texts in one: ReadLaw, ReadZ, ReadBack, LowestOwn. -/
import Derived.Test.YtkncbenhfcpgkaaGreatDoorPu42
import Derived.Test.YtkncbenhfcpgkaaGreatDoorPu31
import Derived.Lib.Atoi
import Derived.Lib.RabinKarpLaws
import Derived.Lib.Itoa
import Derived.Lib.ItoaMem
import Derived.Test.YtkncbenhfcpgkaaGreatDoorPu27
import Derived.Test.YtkncbenhfcpgkaaGreatDoorPuHd
import Derived.Test.YtkncbenhfcpgkaaGreatDoorPu25
import Derived.Test.YtkncbenhfcpgkaaGreatDoorPu18
import Derived.Test.YtkncbenhfcpgkaaGreatDoorPu19
import Derived.Test.YtkncbenhfcpgkaaGreatDoorPu14
import Derived.Test.YtkncbenhfcpgkaaGreatDoorPu23
import Derived.Test.YtkncbenhfcpgkaaGreatDoorPu08
import Derived.Test.YtkncbenhfcpgkaaGreatDoorPu39
import Derived.Test.YtkncbenhfcpgkaaGreatDoorPu07
import Derived.Test.YtkncbenhfcpgkaaGreatDoorPu22
import Derived.Test.YtkncbenhfcpgkaaGreatDoorPu05
import Derived.Test.YtkncbenhfcpgkaaGreatDoorPu04
import Derived.Test.YtkncbenhfcpgkaaGreatDoorPu01
import Derived.Test.YtkncbenhfcpgkaaGreatDoorPu03
import Derived.Test.YtkncbenhfcpgkaaGreatDoorPu02
import Derived.Test.YtkncbenhfcpgkaaGreatDoorPu06
import Derived.Test.YtkncbenhfcpgkaaGreatDoorPu11
import Derived.Test.YtkncbenhfcpgkaaGreatDoorPu13
import Derived.Test.YtkncbenhfcpgkaaGreatDoorPu12
import Derived.Test.YtkncbenhfcpgkaaGreatDoorPu16
import Derived.Test.YtkncbenhfcpgkaaGreatDoorPu24
import Derived.Test.YtkncbenhfcpgkaaGreatDoorPu17
import Derived.Test.YtkncbenhfcpgkaaGreatDoorPu15
import Derived.Test.YtkncbenhfcpgkaaGreatDoorPu09
import Derived.Test.YtkncbenhfcpgkaaGreatDoorPu26
set_option maxRecDepth 100000
set_option maxHeartbeats 8000000
/- A number's text, read: plain Lean. -/
namespace Go.Proofs.YtkncbenhfcpgkaaGreatDoor

theorem decFrom_append : ∀ (a b : List UInt8) (acc : Nat), Lib.decFrom acc (a ++ b) = (Lib.decFrom acc a).bind fun n => Lib.decFrom n b
  | [], b, acc => rfl
  | c :: a, b, acc => by
    simp only [List.cons_append, Lib.decFrom]
    cases h : Lib.digitVal c with
    | none => simp
    | some d => simpa using decFrom_append a b (acc * 10 + d)
theorem decFrom_scale : ∀ (l : List UInt8) (acc : Nat), Lib.decFrom acc l = (Lib.decFrom 0 l).map fun v => acc * 10 ^ l.length + v
  | [], acc => by simp [Lib.decFrom]
  | c :: l, acc => by
    simp only [Lib.decFrom]
    cases h : Lib.digitVal c with
    | none => simp
    | some d =>
      show Lib.decFrom (acc * 10 + d) l = Option.map _ (Lib.decFrom (0 * 10 + d) l)
      rw [decFrom_scale l (acc * 10 + d), decFrom_scale l (0 * 10 + d)]
      cases Lib.decFrom 0 l with
      | none => rfl
      | some v =>
        simp [List.length_cons, Nat.pow_succ]
        rw [Nat.add_mul, Nat.mul_assoc, Nat.mul_comm 10 (10 ^ l.length)]
        omega
theorem digitVal_digit {d : Nat} (h : d < 10) : Lib.digitVal (UInt8.ofNat (48 + d)) = some d := by
  have e : (UInt8.ofNat (48 + d)).toNat = 48 + d := by simp; omega
  unfold Lib.digitVal
  rw [e, if_pos (by omega)]
  congr 1
  omega
theorem read_digits : ∀ (v : Nat), Lib.decFrom 0 (Lib.decDigits v) = some v := by
  intro v
  induction v using Nat.strongRecOn with
  | ind v ih =>
    rcases Nat.lt_or_ge v 10 with h | h
    · rw [Lib.decDigits_one h]
      simp only [Lib.decFrom]
      rw [digitVal_digit h]
      simp
    · rw [dec_last h, decFrom_append, ih (v / 10) (by omega)]
      simp only [Option.bind_some, Lib.decFrom]
      rw [digitVal_digit (show v % 10 < 10 by omega)]
      simp
      omega
theorem digits_read : ∀ (n : Nat) (l : List UInt8), l.length = n → ∀ v, Lib.decFrom 0 l = some v → l ≠ [] → (l.head? ≠ some 48 ∨ l = [48]) → Lib.decDigits v = l := by
  intro n
  induction n with
  | zero => intro l hl v _ hne; exact absurd (List.eq_nil_of_length_eq_zero hl) hne
  | succ n ih =>
    intro l hl v hv hne hh
    obtain ⟨a, c, rfl⟩ : ∃ a c, l = a ++ [c] := ⟨l.dropLast, l.getLast hne, (List.dropLast_concat_getLast hne).symm⟩
    rw [decFrom_append] at hv
    cases ha : Lib.decFrom 0 a with
    | none => rw [ha] at hv; simp at hv
    | some u =>
      rw [ha] at hv
      simp only [Option.bind_some, Lib.decFrom] at hv
      cases hd : Lib.digitVal c with
      | none => rw [hd] at hv; simp at hv
      | some d =>
        rw [hd] at hv
        simp at hv
        obtain ⟨d1, d2, d3⟩ := Lib.digitVal_eq hd
        have ec : c = UInt8.ofNat (48 + d) := by
          apply UInt8.toNat_inj.1
          simp
          omega
        by_cases hae : a = []
        · subst hae
          simp [Lib.decFrom] at ha
          subst ha
          rw [show v = d by omega, Lib.decDigits_one (by omega), ec]
          rfl
        · have hu : u ≠ 0 := by
            intro e
            have := ih a (by simpa using hl) u ha hae (.inl (by
              intro e2
              rcases hh with h | h
              · apply h
                cases a with
                | nil => exact absurd rfl hae
                | cons x a => simpa using e2
              · have := congrArg List.length h
                simp at this
                exact hae this))
            rw [e, Lib.decDigits_one (by omega)] at this
            rcases hh with h | h
            · apply h
              rw [← this]
              rfl
            · have := congrArg List.length h
              simp at this
              exact hae this
          have hda := ih a (by simpa using hl) u ha hae (.inl (by
              intro e2
              rcases hh with h | h
              · apply h
                cases a with
                | nil => exact absurd rfl hae
                | cons x a => simpa using e2
              · have := congrArg List.length h
                simp at this
                exact hae this))
          rw [← hv, dec_last (by omega), show (u * 10 + d) / 10 = u by omega, show (u * 10 + d) % 10 = d by omega, hda, ec]
/- What a text of a whole number says: plain Lean. -/

def badD (D : List UInt8) (neg : Bool) : Bool := D.isEmpty || (D.head? == some 48 && (decide (1 < D.length) || neg))
def readN (D : List UInt8) (neg : Bool) : Option Nat := if badD D neg then none else Lib.decFrom 0 D
def negOf (s : List UInt8) : Bool := s.head? == some 45
def tailOf (s : List UInt8) : List UInt8 := if negOf s then s.tail else s
def readZ (s : List UInt8) : Option Int := (readN (tailOf s) (negOf s)).map fun n => if negOf s then -(n : Int) else n
theorem decFrom_none {l : List UInt8} {i : Nat} {b : UInt8} (h : l[i]? = some b) (hd : Lib.digitVal b = none) (acc : Nat) : Lib.decFrom acc l = none := by
  cases h2 : Lib.decFrom acc l with
  | none => rfl
  | some n =>
    obtain ⟨m, hm⟩ := Lib.decFrom_prefix l acc n h2 (i + 1)
    rw [List.take_add_one, h, Option.toList_some, decFrom_append] at hm
    cases h3 : Lib.decFrom acc (l.take i) with
    | none => rw [h3] at hm; cases hm
    | some k => rw [h3] at hm; simp [Lib.decFrom, hd] at hm
theorem digitVal_none {b : UInt8} (h : b.toNat < 48 ∨ 57 < b.toNat) : Lib.digitVal b = none := by
  unfold Lib.digitVal
  rw [if_neg (by omega)]
theorem digitVal_some {b : UInt8} (h1 : 48 ≤ b.toNat) (h2 : b.toNat ≤ 57) : Lib.digitVal b = some (b.toNat - 48) := by
  unfold Lib.digitVal
  rw [if_pos ⟨h1, h2⟩]
theorem decFrom_join {a b : List UInt8} {v p : Nat} (ha : Lib.decFrom 0 a = some v) (hb : Lib.decFrom 0 b = some p) : Lib.decFrom 0 (a ++ b) = some (v * 10 ^ b.length + p) := by
  rw [decFrom_append, ha]
  show Lib.decFrom v b = _
  rw [decFrom_scale, hb]
  rfl
theorem take_split (l : List UInt8) {i j : Nat} (h : i ≤ j) : l.take j = l.take i ++ (l.drop i).take (j - i) := by
  obtain ⟨k, rfl⟩ : ∃ k, j = i + k := ⟨j - i, by omega⟩
  rw [List.take_add, Nat.add_sub_cancel_left]
/- What is told is read as the number; what is read is told so: plain Lean. -/

theorem dec_ne (n : Nat) : Lib.decDigits n ≠ [] := fun e => by
  have h := read_digits n
  rcases Nat.eq_zero_or_pos n with h0 | h0
  · subst h0; rw [Lib.decDigits_one (by omega)] at e; cases e
  · obtain ⟨d, r, h1, -⟩ := dec_head n (by omega)
    rw [h1] at e; cases e
theorem dec_first (n : Nat) : (Lib.decDigits n).head? ≠ some 48 ∨ Lib.decDigits n = [48] := by
  rcases Nat.eq_zero_or_pos n with h0 | h0
  · subst h0; exact .inr (Lib.decDigits_one (by omega))
  · obtain ⟨d, r, h1, h2⟩ := dec_head n (by omega)
    rw [h1]
    exact .inl (by simpa using h2)
theorem dec_isDigit (n : Nat) {b : UInt8} (h : b ∈ Lib.decDigits n) : 48 ≤ b.toNat ∧ b.toNat ≤ 57 := by
  obtain ⟨i, hi, e⟩ := List.mem_iff_getElem.1 h
  refine Decidable.byContradiction fun hn => ?_
  have h2 := read_digits n
  rw [decFrom_none (i := i) (b := b) (by rw [List.getElem?_eq_getElem hi, e]) (digitVal_none (by omega))] at h2
  cases h2
theorem readN_dec (n : Nat) (neg : Bool) (h : neg = true → n ≠ 0) : readN (Lib.decDigits n) neg = some n := by
  unfold readN
  have hb : badD (Lib.decDigits n) neg = false := by
    unfold badD
    have h1 : (Lib.decDigits n).isEmpty = false := by
      cases hd : Lib.decDigits n with
      | nil => exact absurd hd (dec_ne n)
      | cons _ _ => rfl
    rw [h1, Bool.false_or]
    rcases dec_first n with h2 | h2
    · rw [beq_eq_false_iff_ne.2 h2]; rfl
    · rw [h2]
      cases neg with
      | false => rfl
      | true =>
        exfalso
        have h3 := read_digits n
        rw [h2] at h3
        have h4 : Lib.decFrom 0 [48] = some 0 := by decide
        rw [h4] at h3
        exact h rfl (Option.some.inj h3).symm
  rw [hb, if_neg Bool.false_ne_true, read_digits]
theorem readZ_itoa (x : Int) : readZ (Lib.itoa x) = some x := by
  unfold readZ
  by_cases hx : x < 0
  · have e : Lib.itoa x = 45 :: Lib.decDigits x.natAbs := by unfold Lib.itoa; rw [if_pos hx]
    have h1 : negOf (Lib.itoa x) = true := by rw [e]; rfl
    have h2 : tailOf (Lib.itoa x) = Lib.decDigits x.natAbs := by unfold tailOf; rw [h1, e]; rfl
    rw [h1, h2, readN_dec _ _ (by intro _; omega)]
    show some (if true = true then -((x.natAbs : Nat) : Int) else ((x.natAbs : Nat) : Int)) = some x
    rw [if_pos rfl, show -((x.natAbs : Nat) : Int) = x by omega]
  · have e : Lib.itoa x = Lib.decDigits x.toNat := by unfold Lib.itoa; rw [if_neg hx]
    have h1 : negOf (Lib.itoa x) = false := by
      rw [e]
      unfold negOf
      cases hd : Lib.decDigits x.toNat with
      | nil => rfl
      | cons b r =>
        have := dec_isDigit x.toNat (b := b) (by rw [hd]; simp)
        show (some b == some (45 : UInt8)) = false
        rw [beq_eq_false_iff_ne]
        intro h3
        injection h3 with h3
        rw [h3] at this
        exact absurd this.1 (by decide)
    have h2 : tailOf (Lib.itoa x) = Lib.decDigits x.toNat := by unfold tailOf; rw [h1, e]; rfl
    rw [h1, h2, readN_dec _ _ (by intro h; cases h)]
    show some (if false = true then -((x.toNat : Nat) : Int) else ((x.toNat : Nat) : Int)) = some x
    rw [if_neg Bool.false_ne_true, show ((x.toNat : Nat) : Int) = x by omega]
theorem itoa_readZ {s : List UInt8} {z : Int} (h : readZ s = some z) : Lib.itoa z = s := by
  unfold readZ at h
  cases hn : readN (tailOf s) (negOf s) with
  | none => rw [hn] at h; cases h
  | some n =>
    rw [hn] at h
    have hz : (if negOf s then -(n : Int) else n) = z := Option.some.inj h
    unfold readN at hn
    cases hb : badD (tailOf s) (negOf s) with
    | true => rw [hb] at hn; cases hn
    | false =>
      rw [hb, if_neg Bool.false_ne_true] at hn
      have hne : tailOf s ≠ [] := fun e => by rw [e] at hb; cases hb
      have hb2 : ((tailOf s).head? == some 48 && (decide (1 < (tailOf s).length) || negOf s)) = false := by
        unfold badD at hb
        exact (Bool.or_eq_false_iff.1 hb).2
      have hfirst : (tailOf s).head? ≠ some 48 ∨ tailOf s = [48] := by
        by_cases h1 : (tailOf s).head? = some 48
        · right
          rw [h1] at hb2
          have h2 : (decide (1 < (tailOf s).length) || negOf s) = false := hb2
          have h3 := of_decide_eq_false (Bool.or_eq_false_iff.1 h2).1
          cases ht : tailOf s with
          | nil => exact absurd ht hne
          | cons b r =>
            rw [ht] at h1 h3
            cases r with
            | nil => simp at h1; rw [h1]
            | cons _ _ => simp at h3
        · exact .inl h1
      have hd := digits_read _ _ rfl n hn hne hfirst
      cases hg : negOf s with
      | false =>
        have hs : tailOf s = s := by unfold tailOf; rw [hg]; rfl
        rw [hg, if_neg Bool.false_ne_true] at hz
        rw [← hz, Lib.itoa_nonneg, hd, hs]
      | true =>
        have hs : 45 :: tailOf s = s := by
          unfold tailOf
          rw [hg]
          unfold negOf at hg
          cases s with
          | nil => cases hg
          | cons b r =>
            simp at hg
            rw [hg]; rfl
        rw [hg] at hz
        simp only [if_true] at hz
        have hn0 : 0 < n := by
          rcases Nat.eq_zero_or_pos n with h0 | h0
          · exfalso
            rw [h0, Lib.decDigits_one (by omega)] at hd
            rw [← hd, hg] at hb2
            exact absurd hb2 (by decide)
          · exact h0
        rw [← hz, Lib.itoa_neg _ hn0, hd, hs]
theorem itoa_inj {x y : Int} : Lib.itoa x = Lib.itoa y ↔ x = y := by
  constructor
  · intro h
    have := readZ_itoa x
    rw [h, readZ_itoa y] at this
    exact (Option.some.inj this).symm
  · intro h; rw [h]
/- Lowest of package ratio over numbers of the call's own; Lowest of the references. (Written by wip/frac/genlowestown.py.) -/
open Go.RowKit

def RetFracIn (w : World) (n d : Int) (e : Ending) (w' : World) : Prop := ∃ v, e = .returned v ∧ FracIn w' 0 v n d ∧ Below w.heap.size w w'
theorem IntOwn.quad {w : World} {base g : Nat} {v' a b c d : Value} {n : Int} (hi : IntOwn w base v' n) (q : Quad w g a b c d) (x y z u : Value) : IntOwn ((((w.setCell ⟨g, 0, none⟩ x).setCell ⟨g, 1, none⟩ y).setCell ⟨g, 2, none⟩ z).setCell ⟨g, 3, none⟩ u) base v' n := by
  obtain ⟨A', c', a1, a2, a3, a4⟩ := hi.form
  have hne := own_blk_ne a4 q.blk (by decide)
  refine ⟨A', c', a1, a2, a3, a4.1, ?_⟩
  rcases a4.2 with p | ⟨g', cap, cur, p1, p2, p3, p4⟩
  · exact .inl p
  · refine .inr ⟨g', cap, cur, p1, p2, ?_, p4⟩
    have hg : g' ≠ g := fun e => by
      rw [p1] at hne
      exact hne (by simp [Value.ownBlock, e])
    rw [Below.heap_setCell _ ⟨g, 3, none⟩ u g' hg, Below.heap_setCell _ ⟨g, 2, none⟩ z g' hg, Below.heap_setCell _ ⟨g, 1, none⟩ y g' hg, Below.heap_setCell _ ⟨g, 0, none⟩ x g' hg]
    exact p3

theorem elow_one_neg (n d : Int) (A B : Option Addr) (c e0 : Nat) (w : World) (h_n : Raw w A c (natL n.natAbs)) (h_d : Raw w B e0 (natL d.natAbs)) (o_n : IntOwn w 0 (.agg #[.bool (decide (n < 0)), .slice A (natL n.natAbs).length c]) n) (o_d : IntOwn w 0 (.agg #[.bool (decide (d < 0)), .slice B (natL d.natAbs).length e0]) d) (hn : lz n ≤ 400000000) (hd : lz d ≤ 400000000) (hd0 : d ≠ 0) (hs0 : d < 0) (hgc : gcdZ n d = 1) :
    Calls Tryz.prog 196 #[.agg #[.bool (decide (n < 0)), .slice A (natL n.natAbs).length c], .agg #[.bool (decide (d < 0)), .slice B (natL d.natAbs).length e0]] w (RetFracIn w (lowN n d) (lowD n d)) := by
  obtain ⟨g, hg⟩ : ∃ k : Int, k = gcdZ n d := ⟨_, rfl⟩
  obtain ⟨one, hone⟩ : ∃ k : Int, k = 1 := ⟨_, rfl⟩
  obtain ⟨q, hq⟩ : ∃ k : Int, k = n.tdiv g := ⟨_, rfl⟩
  obtain ⟨r, hr⟩ : ∃ k : Int, k = n.tmod g := ⟨_, rfl⟩
  obtain ⟨p, hp⟩ : ∃ k : Int, k = d.tdiv g := ⟨_, rfl⟩
  obtain ⟨s, hs⟩ : ∃ k : Int, k = d.tmod g := ⟨_, rfl⟩
  obtain ⟨q', hq'⟩ : ∃ k : Int, k = -q := ⟨_, rfl⟩
  obtain ⟨p', hp'⟩ : ∃ k : Int, k = -p := ⟨_, rfl⟩
  have hgp := gcdZ_pos (n := n) hd0
  have hgl := gcdZ_lz (n := n) hd0
  rw [← hg] at hgp hgl hgc
  have hql : lz q ≤ lz n := by rw [hq]; exact tdiv_lz n g
  have hpl : lz p ≤ lz d := by rw [hp]; exact tdiv_lz d g
  have hps : p.sign = d.sign := by rw [hp, hg]; exact tdiv_sign hd0
  have hol : lz one ≤ 2 := by rw [hone]; decide
  obtain ⟨sg, hsg⟩ : ∃ k : Int, k = p.sign := ⟨_, rfl⟩
  have HSG := Hd hsg
  have HSN := Hd (show decide (sg < 0) = true from by
    rw [hsg, hps]
    exact decide_eq_true (by rw [Int.sign_eq_neg_one_of_neg hs0]; decide))
  have HG := Hd (show g = ((Nat.gcd n.natAbs d.natAbs : Nat) : Int) from hg)
  have H1 := Hd hone
  have HG0 := Hd (show g ≠ 0 from by omega)
  have HQ := Hd (And.intro hq hr)
  have HP := Hd (And.intro hp hs)
  have HN1 := Hd hq'
  have HN2 := Hd hp'
  have HK := Hd (show (0 : Int) = cmpz g one from by rw [hone]; rw [hgc]; decide)
  have HLN := Hd (show lowN n d = q' ∧ lowD n d = p' from by
    unfold lowN lowD
    rw [if_pos hs0, if_pos hs0, ← hg, ← hq, ← hp, hq', hp']
    exact ⟨rfl, rfl⟩)
  have HQN := Hd (show q = n ∧ p = d from by rw [hq, hp, hgc]; exact ⟨Int.tdiv_one _, Int.tdiv_one _⟩)
  have OW_n := Hd o_n
  have OW_d := Hd o_d
  clear o_n o_d
  clear hgc hg hone hq hr hp hs hq' hp' hs0 hsg hps hd0
  have b0 := ((((Below.refl w.heap.size w).alloc (Nat.le_refl _) (.cells #[.bool (decide (n < 0)), .slice A (natL n.natAbs).length c] 24)).alloc (by simp) (.cells #[.bool (decide (d < 0)), .slice B (natL d.natAbs).length e0] 24)).alloc (by simp; omega) (.cells #[.bool false, .slice none 0 0, .bool false, .slice none 0 0] 56))
  have p0 := ((Pair.new w 24 (.bool (decide (n < 0))) (.slice A (natL n.natAbs).length c)).alloc (.cells #[.bool (decide (d < 0)), .slice B (natL d.natAbs).length e0] 24)).alloc (.cells #[.bool false, .slice none 0 0, .bool false, .slice none 0 0] 56)
  have p1 := (Pair.new (w.alloc (.cells #[.bool (decide (n < 0)), .slice A (natL n.natAbs).length c] 24)) 24 (.bool (decide (d < 0))) (.slice B (natL d.natAbs).length e0)).alloc (.cells #[.bool false, .slice none 0 0, .bool false, .slice none 0 0] 56)
  have p2 := Quad.new ((w.alloc (.cells #[.bool (decide (n < 0)), .slice A (natL n.natAbs).length c] 24)).alloc (.cells #[.bool (decide (d < 0)), .slice B (natL d.natAbs).length e0] 24)) (.bool false) (.slice none 0 0) (.bool false) (.slice none 0 0)
  simp only [World.size_alloc] at p1 p2
  have V_n := Hd (NV.of h_n b0 p0)
  have V_d := Hd (NV.of h_d b0 p1)
  have P_r0 := Hd p2
  have RW_n := Hd h_n
  have RW_d := Hd h_d
  have HBW := Hd b0
  clear b0 p0 p1 p2 h_n h_d
  go_enter Tryz.func196, Tryz.ntmps196
  obtain ⟨W, E⟩ : ∃ W, W = (((w.alloc (.cells #[.bool (decide (n < 0)), .slice A (natL n.natAbs).length c] 24)).alloc (.cells #[.bool (decide (d < 0)), .slice B (natL d.natAbs).length e0] 24)).alloc (.cells #[.bool false, .slice none 0 0, .bool false, .slice none 0 0] 56)) := ⟨_, rfl⟩
  go_upto_region 1 with fail
  rw [← E] at V_n V_d P_r0 HBW ⊢
  clear E
  have hsz := P_r0.out.blk.lt
  have O_n0 := Hd (OW_n.out.below HBW.out)
  have O_d0 := Hd (OW_d.out.below HBW.out)
  clear OW_n OW_d
  obtain ⟨l_n, a_n, b_n, -, -⟩ := V_n.out.pair.facts
  obtain ⟨l_d, a_d, b_d, -, -⟩ := V_d.out.pair.facts
  go_wp2_with fail
  refine (ecommon n d g A B c e0 W V_n.out.raw V_d.out.raw (by omega) (by omega) HG.out).mono ?_
  rintro e x1 ⟨v, rfl, hI, hb⟩
  obtain ⟨A1, c1, rfl, r1⟩ := hI.raw
  have hIg := hI.base (Nat.zero_le _)
  have hszg := hb.size
  clear l_n a_n b_n l_d a_d b_d
  have V_n := Hd (V_n.out.below hb)
  have V_d := Hd (V_d.out.below hb)
  have P_r0 := Hd (P_r0.out.below hb)
  have O_n0 := Hd (O_n0.out.below hb)
  have O_d0 := Hd (O_d0.out.below hb)
  have HBW := Hd (belowTo HBW.out hb)
  have R_g := Hd r1
  clear hb r1
  have O_g := Hd hIg
  clear hI hIg
  go_upto_region 2 with fail
  have ha := ((Below.refl x1.heap.size x1).alloc (Nat.le_refl _) (.cells #[.bool (decide (g < 0)), .slice A1 (natL g.natAbs).length c1] 24))
  have p_g := (Pair.new x1 24 (.bool (decide (g < 0))) (.slice A1 (natL g.natAbs).length c1))
  obtain ⟨y2, E⟩ : ∃ W, W = (x1.alloc (.cells #[.bool (decide (g < 0)), .slice A1 (natL g.natAbs).length c1] 24)) := ⟨_, rfl⟩
  rw [← E] at ha p_g ⊢
  have V_g := Hd (NV.of R_g.out ha p_g)
  have V_n := Hd (V_n.out.below ha)
  have V_d := Hd (V_d.out.below ha)
  have P_r0 := Hd (P_r0.out.below ha)
  have O_n0 := Hd (O_n0.out.below ha)
  have O_d0 := Hd (O_d0.out.below ha)
  have O_g := Hd (O_g.out.below ha)
  have HBW := Hd (belowTo HBW.out ha)
  obtain ⟨g2, hg⟩ : ∃ g, g = x1.heap.size := ⟨_, rfl⟩
  rw [← hg] at V_g ⊢
  have hge2 : x1.heap.size ≤ g2 := by omega
  clear E ha hg p_g
  go_wp2_with fail
  obtain ⟨W0, hW⟩ : ∃ W0, W0 = y2 := ⟨_, rfl⟩
  rw [← hW] at HBW P_r0 O_n0 O_d0 O_g V_n V_d V_g  ⊢
  clear hW
  refine wp_region_free [.val (.agg #[.bool (decide (g < 0)), .slice A1 (natL g.natAbs).length c1]) [], .any false (fun u0 V => IntAt V u0 one) [], .val (.int .i64 0) [1], .val (.bool false) []] W0.heap.size W0 [] (fun _ _ => False) _ mixedOrders2 (Nat.le_refl _) (Below.refl _ _) (KeptV.refl _ _ _) rfl (by kernel_rfl) (by kernel_rfl) (by kernel_rfl) (by kernel_rfl) (by kernel_rfl) (by kernel_rfl) (by kernel_rfl) (by kernel_rfl) rfl (by simp [oldsF]) ?_ ?_ ?_ ?_
  · simp only [StableF, and_true]
    exact fun u0 V V' h k => h.keptNone k
  · simp only [OldsF]
  · simp (maxSteps := 4000000) [StepsF, DepF, freeAct, fill, pairs]
    repeat' (first | apply And.intro | (intro (u0 : Value)))
    all_goals first
    | (intro V hV hK
       obtain ⟨-, a_g, b_g, -, -⟩ := (V_g.out.below hV).pair.facts
       have r_g := Hd (V_g.out.below hV).raw
       clear hV hK
       go_simp
       first
       | exact Below.refl _ _
       | exact ⟨by first | rfl | decide | go_num, Below.refl _ _⟩
       | ((with_reducible refine (eof 1 one H1.out (by decide) (by decide) V).mono ?_); rintro e w' ⟨v, rfl, hv, hb⟩; exact ⟨hv.at_, hb⟩))
    | (intro V hV hK hu
       obtain ⟨A', c', rfl, hr⟩ := hu.form
       have r_g := Hd (V_g.out.below hV).raw
       have r' := Hd hr
       clear hV hK hu hr
       go_simp
       (with_reducible refine (ecmp g one 0 A1 A' c1 c' V r_g.out r'.out (by omega) (by omega) HK.out).mono ?_)
       rintro e w' ⟨rfl, hb⟩
       exact ⟨rfl, hb⟩)
  · simp [EndF, FactsF, freeAct, fill, pairs]
    intro u1 V hV hK _ _ _ _
    have V_n := Hd (V_n.out.below hV)
    have V_d := Hd (V_d.out.below hV)
    have V_g := Hd (V_g.out.below hV)
    have P_r0 := Hd (P_r0.out.below hV)
    have O_n0 := Hd (O_n0.out.below hV)
    have O_d0 := Hd (O_d0.out.below hV)
    have O_g := Hd (O_g.out.below hV)
    have HBW := Hd (belowTo HBW.out hV)
    clear hV hK
    obtain ⟨v3, hV0⟩ : ∃ Y, Y = V := ⟨_, rfl⟩
    rw [← hV0] at HBW P_r0 O_n0 O_d0 O_g V_n V_d V_g  ⊢
    clear hV0
    obtain ⟨rfl, rfl⟩ := HQN.out
    have hsn := HSN.out
    obtain ⟨l_d, a_d, b_d, -, -⟩ := V_d.out.pair.facts
    go_wp2_with fail
    refine (esign p sg B e0 v3 V_d.out.raw HSG.out).mono ?_
    rintro e x4 ⟨rfl, hb⟩
    clear l_d a_d b_d
    have V_n := Hd (V_n.out.below hb)
    have V_d := Hd (V_d.out.below hb)
    have V_g := Hd (V_g.out.below hb)
    have P_r0 := Hd (P_r0.out.below hb)
    have O_n0 := Hd (O_n0.out.below hb)
    have O_d0 := Hd (O_d0.out.below hb)
    have O_g := Hd (O_g.out.below hb)
    have HBW := Hd (belowTo HBW.out hb)
    clear hb
    go_upto_region 6 with fail
    clear hsn
    go_wp2_with fail
    have hszz := P_r0.out.blk.lt
    refine wp_region_free [.val (.agg #[.bool (decide (q < 0)), .slice A (natL q.natAbs).length c]) [1004], .any false (fun u V => IntOwn V 0 u q') [], .val (.agg #[.bool (decide (p < 0)), .slice B (natL p.natAbs).length e0]) [1005], .any false (fun u V => IntOwn V 0 u p') [], .old (w.heap.size) 24 #[.bool (decide (q < 0)), .slice A (natL q.natAbs).length c] 0 2 1 [], .old (w.heap.size + 1) 24 #[.bool (decide (p < 0)), .slice B (natL p.natAbs).length e0] 0 2 3 []] w.heap.size x4 [24] (fun _ _ => False) _ mixedOrders2 (by omega) (Below.refl _ _) (KeptV.refl _ _ _) rfl (by kernel_rfl) (by kernel_rfl) (by kernel_rfl) (by kernel_rfl) (by kernel_rfl) (by kernel_rfl) (by kernel_rfl) (by kernel_rfl) rfl (by simp [oldsF]) ?_ ?_ ?_ ?_
    · simp only [StableF, and_true]
      exact ⟨fun u V V' h k => h.kept k (by decide), fun u V V' h k => h.kept k (by decide)⟩
    · simp only [OldsF, and_true]
      exact ⟨⟨by omega, by omega, V_n.out.pair.blk, by simp⟩, by omega, by omega, V_d.out.pair.blk, by simp⟩
    · simp (maxSteps := 4000000) [StepsF, DepF, freeAct, fill, pairs]
      repeat' (first | apply And.intro | (intro (u : Value)) | (intro (u : Nat)))
      all_goals try exact ⟨_, _, _, rfl, rfl, rfl, rfl, intInfo⟩
      all_goals first
      | (intro V hV hK hp
         obtain ⟨-, a_p, b_p, -, -⟩ := (Pair.mk hp).facts
         clear hV hK hp
         go_simp
         exact Below.refl _ _)
      | (intro V hV hK
         have rn := Hd ((O_n0.out.kept hK (by decide)).rawAt)
         have rd := Hd ((O_d0.out.kept hK (by decide)).rawAt)
         clear hV hK
         go_simp
         first
         | ((with_reducible refine (eturned q q' A c V rn.out (by omega) HN1.out).mono ?_); rintro e w' ⟨v, rfl, hv, hb⟩; exact ⟨hv.base (Nat.zero_le _), hb⟩)
         | ((with_reducible refine (eturned p p' B e0 V rd.out (by omega) HN2.out).mono ?_); rintro e w' ⟨v, rfl, hv, hb⟩; exact ⟨hv.base (Nat.zero_le _), hb⟩))
      | exact fun _ _ _ (h : IntOwn _ _ _ _) => h.cells
    · simp [EndF, FactsF, freeAct, fill, pairs]
      intro u1 u2 V hV hK h1 h2 p1 p2 _ _ _
      obtain ⟨A6, c6, rfl, r6⟩ := h1.raw
      obtain ⟨A7, c7, rfl, r7⟩ := h2.raw
      simp [setAll, Value.cells] at p1 p2
      have V_n := Hd (show NV V (w.heap.size) q' A6 c6 from ⟨⟨p1⟩, r6⟩)
      have V_d := Hd (show NV V (w.heap.size + 1) p' A7 c7 from ⟨⟨p2⟩, r7⟩)
      have HBW := Hd (HBW.out.trans hV)
      have P_r0 := Hd (show Quad V _ _ _ _ _ from ⟨hK.blk P_r0.out.blk (by decide)⟩)
      have O_n9 := Hd h1
      have O_d9 := Hd h2
      clear hV hK h1 h2 p1 p2 r6 r7
      obtain ⟨l_n, a_n, b_n, -, -⟩ := V_n.out.pair.facts
      obtain ⟨l_d, a_d, b_d, -, -⟩ := V_d.out.pair.facts
      obtain ⟨l_r, c_r0, c_r1, c_r2, c_r3, f_r0, f_r1, f_r2, f_r3⟩ := P_r0.out.facts
      have HQ9 := Hd (P_r0.out.store (.bool (decide (q' < 0))) (.slice A6 (natL q'.natAbs).length c6) (.bool (decide (p' < 0))) (.slice A7 (natL p'.natAbs).length c7))
      have HB9 := Hd (below4 HBW.out (show w.heap.size ≤ w.heap.size + 1 + 1 by omega) (.bool (decide (q' < 0))) (.slice A6 (natL q'.natAbs).length c6) (.bool (decide (p' < 0))) (.slice A7 (natL p'.natAbs).length c7))
      have HF := Hd (show FracIn ((((V.setCell ⟨w.heap.size + 1 + 1, 0, none⟩ (.bool (decide (q' < 0)))).setCell ⟨w.heap.size + 1 + 1, 1, none⟩ (.slice A6 (natL q'.natAbs).length c6)).setCell ⟨w.heap.size + 1 + 1, 2, none⟩ (.bool (decide (p' < 0)))).setCell ⟨w.heap.size + 1 + 1, 3, none⟩ (.slice A7 (natL p'.natAbs).length c7)) 0 (.agg #[.bool (decide (q' < 0)), .slice A6 (natL q'.natAbs).length c6, .bool (decide (p' < 0)), .slice A7 (natL p'.natAbs).length c7]) q' p' from ⟨_, _, _, _, rfl, O_n9.out.quad P_r0.out _ _ _ _, O_d9.out.quad P_r0.out _ _ _ _⟩)
      go_wp2_with fail
      obtain ⟨_, k0, k1, k2, k3, _⟩ := HQ9.out.facts
      exact bodyPost_ret (by simp [results, Tryz.results196, go_sem, k0, k1, k2, k3]) rfl ⟨.agg #[.bool (decide (q' < 0)), .slice A6 (natL q'.natAbs).length c6, .bool (decide (p' < 0)), .slice A7 (natL p'.natAbs).length c7], rfl, by rw [HLN.out.1, HLN.out.2]; exact HF.out, HB9.out⟩

theorem elow_one_pos (n d : Int) (A B : Option Addr) (c e0 : Nat) (w : World) (h_n : Raw w A c (natL n.natAbs)) (h_d : Raw w B e0 (natL d.natAbs)) (o_n : IntOwn w 0 (.agg #[.bool (decide (n < 0)), .slice A (natL n.natAbs).length c]) n) (o_d : IntOwn w 0 (.agg #[.bool (decide (d < 0)), .slice B (natL d.natAbs).length e0]) d) (hn : lz n ≤ 400000000) (hd : lz d ≤ 400000000) (hd0 : d ≠ 0) (hs0 : ¬ d < 0) (hgc : gcdZ n d = 1) :
    Calls Tryz.prog 196 #[.agg #[.bool (decide (n < 0)), .slice A (natL n.natAbs).length c], .agg #[.bool (decide (d < 0)), .slice B (natL d.natAbs).length e0]] w (RetFracIn w (lowN n d) (lowD n d)) := by
  obtain ⟨g, hg⟩ : ∃ k : Int, k = gcdZ n d := ⟨_, rfl⟩
  obtain ⟨one, hone⟩ : ∃ k : Int, k = 1 := ⟨_, rfl⟩
  obtain ⟨q, hq⟩ : ∃ k : Int, k = n.tdiv g := ⟨_, rfl⟩
  obtain ⟨r, hr⟩ : ∃ k : Int, k = n.tmod g := ⟨_, rfl⟩
  obtain ⟨p, hp⟩ : ∃ k : Int, k = d.tdiv g := ⟨_, rfl⟩
  obtain ⟨s, hs⟩ : ∃ k : Int, k = d.tmod g := ⟨_, rfl⟩
  obtain ⟨q', hq'⟩ : ∃ k : Int, k = -q := ⟨_, rfl⟩
  obtain ⟨p', hp'⟩ : ∃ k : Int, k = -p := ⟨_, rfl⟩
  have hgp := gcdZ_pos (n := n) hd0
  have hgl := gcdZ_lz (n := n) hd0
  rw [← hg] at hgp hgl hgc
  have hql : lz q ≤ lz n := by rw [hq]; exact tdiv_lz n g
  have hpl : lz p ≤ lz d := by rw [hp]; exact tdiv_lz d g
  have hps : p.sign = d.sign := by rw [hp, hg]; exact tdiv_sign hd0
  have hol : lz one ≤ 2 := by rw [hone]; decide
  obtain ⟨sg, hsg⟩ : ∃ k : Int, k = p.sign := ⟨_, rfl⟩
  have HSG := Hd hsg
  have HSN := Hd (show decide (sg < 0) = false from by
    rw [hsg, hps]
    exact decide_eq_false (by have := sign_cases d; omega))
  have HG := Hd (show g = ((Nat.gcd n.natAbs d.natAbs : Nat) : Int) from hg)
  have H1 := Hd hone
  have HG0 := Hd (show g ≠ 0 from by omega)
  have HQ := Hd (And.intro hq hr)
  have HP := Hd (And.intro hp hs)
  have HN1 := Hd hq'
  have HN2 := Hd hp'
  have HK := Hd (show (0 : Int) = cmpz g one from by rw [hone]; rw [hgc]; decide)
  have HLN := Hd (show lowN n d = q ∧ lowD n d = p from by
    unfold lowN lowD
    rw [if_neg hs0, if_neg hs0, ← hg, ← hq, ← hp]
    exact ⟨rfl, rfl⟩)
  have HQN := Hd (show q = n ∧ p = d from by rw [hq, hp, hgc]; exact ⟨Int.tdiv_one _, Int.tdiv_one _⟩)
  have OW_n := Hd o_n
  have OW_d := Hd o_d
  clear o_n o_d
  clear hgc hg hone hq hr hp hs hq' hp' hs0 hsg hps hd0
  have b0 := ((((Below.refl w.heap.size w).alloc (Nat.le_refl _) (.cells #[.bool (decide (n < 0)), .slice A (natL n.natAbs).length c] 24)).alloc (by simp) (.cells #[.bool (decide (d < 0)), .slice B (natL d.natAbs).length e0] 24)).alloc (by simp; omega) (.cells #[.bool false, .slice none 0 0, .bool false, .slice none 0 0] 56))
  have p0 := ((Pair.new w 24 (.bool (decide (n < 0))) (.slice A (natL n.natAbs).length c)).alloc (.cells #[.bool (decide (d < 0)), .slice B (natL d.natAbs).length e0] 24)).alloc (.cells #[.bool false, .slice none 0 0, .bool false, .slice none 0 0] 56)
  have p1 := (Pair.new (w.alloc (.cells #[.bool (decide (n < 0)), .slice A (natL n.natAbs).length c] 24)) 24 (.bool (decide (d < 0))) (.slice B (natL d.natAbs).length e0)).alloc (.cells #[.bool false, .slice none 0 0, .bool false, .slice none 0 0] 56)
  have p2 := Quad.new ((w.alloc (.cells #[.bool (decide (n < 0)), .slice A (natL n.natAbs).length c] 24)).alloc (.cells #[.bool (decide (d < 0)), .slice B (natL d.natAbs).length e0] 24)) (.bool false) (.slice none 0 0) (.bool false) (.slice none 0 0)
  simp only [World.size_alloc] at p1 p2
  have V_n := Hd (NV.of h_n b0 p0)
  have V_d := Hd (NV.of h_d b0 p1)
  have P_r0 := Hd p2
  have RW_n := Hd h_n
  have RW_d := Hd h_d
  have HBW := Hd b0
  clear b0 p0 p1 p2 h_n h_d
  go_enter Tryz.func196, Tryz.ntmps196
  obtain ⟨W, E⟩ : ∃ W, W = (((w.alloc (.cells #[.bool (decide (n < 0)), .slice A (natL n.natAbs).length c] 24)).alloc (.cells #[.bool (decide (d < 0)), .slice B (natL d.natAbs).length e0] 24)).alloc (.cells #[.bool false, .slice none 0 0, .bool false, .slice none 0 0] 56)) := ⟨_, rfl⟩
  go_upto_region 1 with fail
  rw [← E] at V_n V_d P_r0 HBW ⊢
  clear E
  have hsz := P_r0.out.blk.lt
  have O_n0 := Hd (OW_n.out.below HBW.out)
  have O_d0 := Hd (OW_d.out.below HBW.out)
  clear OW_n OW_d
  obtain ⟨l_n, a_n, b_n, -, -⟩ := V_n.out.pair.facts
  obtain ⟨l_d, a_d, b_d, -, -⟩ := V_d.out.pair.facts
  go_wp2_with fail
  refine (ecommon n d g A B c e0 W V_n.out.raw V_d.out.raw (by omega) (by omega) HG.out).mono ?_
  rintro e x1 ⟨v, rfl, hI, hb⟩
  obtain ⟨A1, c1, rfl, r1⟩ := hI.raw
  have hIg := hI.base (Nat.zero_le _)
  have hszg := hb.size
  clear l_n a_n b_n l_d a_d b_d
  have V_n := Hd (V_n.out.below hb)
  have V_d := Hd (V_d.out.below hb)
  have P_r0 := Hd (P_r0.out.below hb)
  have O_n0 := Hd (O_n0.out.below hb)
  have O_d0 := Hd (O_d0.out.below hb)
  have HBW := Hd (belowTo HBW.out hb)
  have R_g := Hd r1
  clear hb r1
  have O_g := Hd hIg
  clear hI hIg
  go_upto_region 2 with fail
  have ha := ((Below.refl x1.heap.size x1).alloc (Nat.le_refl _) (.cells #[.bool (decide (g < 0)), .slice A1 (natL g.natAbs).length c1] 24))
  have p_g := (Pair.new x1 24 (.bool (decide (g < 0))) (.slice A1 (natL g.natAbs).length c1))
  obtain ⟨y2, E⟩ : ∃ W, W = (x1.alloc (.cells #[.bool (decide (g < 0)), .slice A1 (natL g.natAbs).length c1] 24)) := ⟨_, rfl⟩
  rw [← E] at ha p_g ⊢
  have V_g := Hd (NV.of R_g.out ha p_g)
  have V_n := Hd (V_n.out.below ha)
  have V_d := Hd (V_d.out.below ha)
  have P_r0 := Hd (P_r0.out.below ha)
  have O_n0 := Hd (O_n0.out.below ha)
  have O_d0 := Hd (O_d0.out.below ha)
  have O_g := Hd (O_g.out.below ha)
  have HBW := Hd (belowTo HBW.out ha)
  obtain ⟨g2, hg⟩ : ∃ g, g = x1.heap.size := ⟨_, rfl⟩
  rw [← hg] at V_g ⊢
  have hge2 : x1.heap.size ≤ g2 := by omega
  clear E ha hg p_g
  go_wp2_with fail
  obtain ⟨W0, hW⟩ : ∃ W0, W0 = y2 := ⟨_, rfl⟩
  rw [← hW] at HBW P_r0 O_n0 O_d0 O_g V_n V_d V_g  ⊢
  clear hW
  refine wp_region_free [.val (.agg #[.bool (decide (g < 0)), .slice A1 (natL g.natAbs).length c1]) [], .any false (fun u0 V => IntAt V u0 one) [], .val (.int .i64 0) [1], .val (.bool false) []] W0.heap.size W0 [] (fun _ _ => False) _ mixedOrders2 (Nat.le_refl _) (Below.refl _ _) (KeptV.refl _ _ _) rfl (by kernel_rfl) (by kernel_rfl) (by kernel_rfl) (by kernel_rfl) (by kernel_rfl) (by kernel_rfl) (by kernel_rfl) (by kernel_rfl) rfl (by simp [oldsF]) ?_ ?_ ?_ ?_
  · simp only [StableF, and_true]
    exact fun u0 V V' h k => h.keptNone k
  · simp only [OldsF]
  · simp (maxSteps := 4000000) [StepsF, DepF, freeAct, fill, pairs]
    repeat' (first | apply And.intro | (intro (u0 : Value)))
    all_goals first
    | (intro V hV hK
       obtain ⟨-, a_g, b_g, -, -⟩ := (V_g.out.below hV).pair.facts
       have r_g := Hd (V_g.out.below hV).raw
       clear hV hK
       go_simp
       first
       | exact Below.refl _ _
       | exact ⟨by first | rfl | decide | go_num, Below.refl _ _⟩
       | ((with_reducible refine (eof 1 one H1.out (by decide) (by decide) V).mono ?_); rintro e w' ⟨v, rfl, hv, hb⟩; exact ⟨hv.at_, hb⟩))
    | (intro V hV hK hu
       obtain ⟨A', c', rfl, hr⟩ := hu.form
       have r_g := Hd (V_g.out.below hV).raw
       have r' := Hd hr
       clear hV hK hu hr
       go_simp
       (with_reducible refine (ecmp g one 0 A1 A' c1 c' V r_g.out r'.out (by omega) (by omega) HK.out).mono ?_)
       rintro e w' ⟨rfl, hb⟩
       exact ⟨rfl, hb⟩)
  · simp [EndF, FactsF, freeAct, fill, pairs]
    intro u1 V hV hK _ _ _ _
    have V_n := Hd (V_n.out.below hV)
    have V_d := Hd (V_d.out.below hV)
    have V_g := Hd (V_g.out.below hV)
    have P_r0 := Hd (P_r0.out.below hV)
    have O_n0 := Hd (O_n0.out.below hV)
    have O_d0 := Hd (O_d0.out.below hV)
    have O_g := Hd (O_g.out.below hV)
    have HBW := Hd (belowTo HBW.out hV)
    clear hV hK
    obtain ⟨v3, hV0⟩ : ∃ Y, Y = V := ⟨_, rfl⟩
    rw [← hV0] at HBW P_r0 O_n0 O_d0 O_g V_n V_d V_g  ⊢
    clear hV0
    obtain ⟨rfl, rfl⟩ := HQN.out
    have hsn := HSN.out
    obtain ⟨l_d, a_d, b_d, -, -⟩ := V_d.out.pair.facts
    go_wp2_with fail
    refine (esign p sg B e0 v3 V_d.out.raw HSG.out).mono ?_
    rintro e x4 ⟨rfl, hb⟩
    clear l_d a_d b_d
    have V_n := Hd (V_n.out.below hb)
    have V_d := Hd (V_d.out.below hb)
    have V_g := Hd (V_g.out.below hb)
    have P_r0 := Hd (P_r0.out.below hb)
    have O_n0 := Hd (O_n0.out.below hb)
    have O_d0 := Hd (O_d0.out.below hb)
    have O_g := Hd (O_g.out.below hb)
    have HBW := Hd (belowTo HBW.out hb)
    clear hb
    go_upto_region 7 with fail
    clear hsn
    obtain ⟨l_n, a_n, b_n, -, -⟩ := V_n.out.pair.facts
    obtain ⟨l_d, a_d, b_d, -, -⟩ := V_d.out.pair.facts
    obtain ⟨l_r, c_r0, c_r1, c_r2, c_r3, f_r0, f_r1, f_r2, f_r3⟩ := P_r0.out.facts
    have HQ9 := Hd (P_r0.out.store (.bool (decide (q < 0))) (.slice A (natL q.natAbs).length c) (.bool (decide (p < 0))) (.slice B (natL p.natAbs).length e0))
    have HB9 := Hd (below4 HBW.out (show w.heap.size ≤ w.heap.size + 1 + 1 by omega) (.bool (decide (q < 0))) (.slice A (natL q.natAbs).length c) (.bool (decide (p < 0))) (.slice B (natL p.natAbs).length e0))
    have HF := Hd (show FracIn ((((x4.setCell ⟨w.heap.size + 1 + 1, 0, none⟩ (.bool (decide (q < 0)))).setCell ⟨w.heap.size + 1 + 1, 1, none⟩ (.slice A (natL q.natAbs).length c)).setCell ⟨w.heap.size + 1 + 1, 2, none⟩ (.bool (decide (p < 0)))).setCell ⟨w.heap.size + 1 + 1, 3, none⟩ (.slice B (natL p.natAbs).length e0)) 0 (.agg #[.bool (decide (q < 0)), .slice A (natL q.natAbs).length c, .bool (decide (p < 0)), .slice B (natL p.natAbs).length e0]) q p from ⟨_, _, _, _, rfl, O_n0.out.quad P_r0.out _ _ _ _, O_d0.out.quad P_r0.out _ _ _ _⟩)
    go_wp2_with fail
    obtain ⟨_, k0, k1, k2, k3, _⟩ := HQ9.out.facts
    exact bodyPost_ret (by simp [results, Tryz.results196, go_sem, k0, k1, k2, k3]) rfl ⟨.agg #[.bool (decide (q < 0)), .slice A (natL q.natAbs).length c, .bool (decide (p < 0)), .slice B (natL p.natAbs).length e0], rfl, by rw [HLN.out.1, HLN.out.2]; exact HF.out, HB9.out⟩

theorem elow_more_neg (n d : Int) (A B : Option Addr) (c e0 : Nat) (w : World) (h_n : Raw w A c (natL n.natAbs)) (h_d : Raw w B e0 (natL d.natAbs)) (o_n : IntOwn w 0 (.agg #[.bool (decide (n < 0)), .slice A (natL n.natAbs).length c]) n) (o_d : IntOwn w 0 (.agg #[.bool (decide (d < 0)), .slice B (natL d.natAbs).length e0]) d) (hn : lz n ≤ 400000000) (hd : lz d ≤ 400000000) (hd0 : d ≠ 0) (hs0 : d < 0) (hgc : 1 < gcdZ n d) :
    Calls Tryz.prog 196 #[.agg #[.bool (decide (n < 0)), .slice A (natL n.natAbs).length c], .agg #[.bool (decide (d < 0)), .slice B (natL d.natAbs).length e0]] w (RetFracIn w (lowN n d) (lowD n d)) := by
  obtain ⟨g, hg⟩ : ∃ k : Int, k = gcdZ n d := ⟨_, rfl⟩
  obtain ⟨one, hone⟩ : ∃ k : Int, k = 1 := ⟨_, rfl⟩
  obtain ⟨q, hq⟩ : ∃ k : Int, k = n.tdiv g := ⟨_, rfl⟩
  obtain ⟨r, hr⟩ : ∃ k : Int, k = n.tmod g := ⟨_, rfl⟩
  obtain ⟨p, hp⟩ : ∃ k : Int, k = d.tdiv g := ⟨_, rfl⟩
  obtain ⟨s, hs⟩ : ∃ k : Int, k = d.tmod g := ⟨_, rfl⟩
  obtain ⟨q', hq'⟩ : ∃ k : Int, k = -q := ⟨_, rfl⟩
  obtain ⟨p', hp'⟩ : ∃ k : Int, k = -p := ⟨_, rfl⟩
  have hgp := gcdZ_pos (n := n) hd0
  have hgl := gcdZ_lz (n := n) hd0
  rw [← hg] at hgp hgl hgc
  have hql : lz q ≤ lz n := by rw [hq]; exact tdiv_lz n g
  have hpl : lz p ≤ lz d := by rw [hp]; exact tdiv_lz d g
  have hps : p.sign = d.sign := by rw [hp, hg]; exact tdiv_sign hd0
  have hol : lz one ≤ 2 := by rw [hone]; decide
  obtain ⟨sg, hsg⟩ : ∃ k : Int, k = p.sign := ⟨_, rfl⟩
  have HSG := Hd hsg
  have HSN := Hd (show decide (sg < 0) = true from by
    rw [hsg, hps]
    exact decide_eq_true (by rw [Int.sign_eq_neg_one_of_neg hs0]; decide))
  have HG := Hd (show g = ((Nat.gcd n.natAbs d.natAbs : Nat) : Int) from hg)
  have H1 := Hd hone
  have HG0 := Hd (show g ≠ 0 from by omega)
  have HQ := Hd (And.intro hq hr)
  have HP := Hd (And.intro hp hs)
  have HN1 := Hd hq'
  have HN2 := Hd hp'
  have HK := Hd (show (1 : Int) = cmpz g one from by rw [hone]; exact (cmpz_gt (by omega)).symm)
  have HLN := Hd (show lowN n d = q' ∧ lowD n d = p' from by
    unfold lowN lowD
    rw [if_pos hs0, if_pos hs0, ← hg, ← hq, ← hp, hq', hp']
    exact ⟨rfl, rfl⟩)
  have OW_n := Hd o_n
  have OW_d := Hd o_d
  clear o_n o_d
  clear hgc hg hone hq hr hp hs hq' hp' hs0 hsg hps hd0
  have b0 := ((((Below.refl w.heap.size w).alloc (Nat.le_refl _) (.cells #[.bool (decide (n < 0)), .slice A (natL n.natAbs).length c] 24)).alloc (by simp) (.cells #[.bool (decide (d < 0)), .slice B (natL d.natAbs).length e0] 24)).alloc (by simp; omega) (.cells #[.bool false, .slice none 0 0, .bool false, .slice none 0 0] 56))
  have p0 := ((Pair.new w 24 (.bool (decide (n < 0))) (.slice A (natL n.natAbs).length c)).alloc (.cells #[.bool (decide (d < 0)), .slice B (natL d.natAbs).length e0] 24)).alloc (.cells #[.bool false, .slice none 0 0, .bool false, .slice none 0 0] 56)
  have p1 := (Pair.new (w.alloc (.cells #[.bool (decide (n < 0)), .slice A (natL n.natAbs).length c] 24)) 24 (.bool (decide (d < 0))) (.slice B (natL d.natAbs).length e0)).alloc (.cells #[.bool false, .slice none 0 0, .bool false, .slice none 0 0] 56)
  have p2 := Quad.new ((w.alloc (.cells #[.bool (decide (n < 0)), .slice A (natL n.natAbs).length c] 24)).alloc (.cells #[.bool (decide (d < 0)), .slice B (natL d.natAbs).length e0] 24)) (.bool false) (.slice none 0 0) (.bool false) (.slice none 0 0)
  simp only [World.size_alloc] at p1 p2
  have V_n := Hd (NV.of h_n b0 p0)
  have V_d := Hd (NV.of h_d b0 p1)
  have P_r0 := Hd p2
  have RW_n := Hd h_n
  have RW_d := Hd h_d
  have HBW := Hd b0
  clear b0 p0 p1 p2 h_n h_d
  go_enter Tryz.func196, Tryz.ntmps196
  obtain ⟨W, E⟩ : ∃ W, W = (((w.alloc (.cells #[.bool (decide (n < 0)), .slice A (natL n.natAbs).length c] 24)).alloc (.cells #[.bool (decide (d < 0)), .slice B (natL d.natAbs).length e0] 24)).alloc (.cells #[.bool false, .slice none 0 0, .bool false, .slice none 0 0] 56)) := ⟨_, rfl⟩
  go_upto_region 1 with fail
  rw [← E] at V_n V_d P_r0 HBW ⊢
  clear E
  have hsz := P_r0.out.blk.lt
  have O_n0 := Hd (OW_n.out.below HBW.out)
  have O_d0 := Hd (OW_d.out.below HBW.out)
  clear OW_n OW_d
  obtain ⟨l_n, a_n, b_n, -, -⟩ := V_n.out.pair.facts
  obtain ⟨l_d, a_d, b_d, -, -⟩ := V_d.out.pair.facts
  go_wp2_with fail
  refine (ecommon n d g A B c e0 W V_n.out.raw V_d.out.raw (by omega) (by omega) HG.out).mono ?_
  rintro e x1 ⟨v, rfl, hI, hb⟩
  obtain ⟨A1, c1, rfl, r1⟩ := hI.raw
  have hIg := hI.base (Nat.zero_le _)
  have hszg := hb.size
  clear l_n a_n b_n l_d a_d b_d
  have V_n := Hd (V_n.out.below hb)
  have V_d := Hd (V_d.out.below hb)
  have P_r0 := Hd (P_r0.out.below hb)
  have O_n0 := Hd (O_n0.out.below hb)
  have O_d0 := Hd (O_d0.out.below hb)
  have HBW := Hd (belowTo HBW.out hb)
  have R_g := Hd r1
  clear hb r1
  have O_g := Hd hIg
  clear hI hIg
  go_upto_region 2 with fail
  have ha := ((Below.refl x1.heap.size x1).alloc (Nat.le_refl _) (.cells #[.bool (decide (g < 0)), .slice A1 (natL g.natAbs).length c1] 24))
  have p_g := (Pair.new x1 24 (.bool (decide (g < 0))) (.slice A1 (natL g.natAbs).length c1))
  obtain ⟨y2, E⟩ : ∃ W, W = (x1.alloc (.cells #[.bool (decide (g < 0)), .slice A1 (natL g.natAbs).length c1] 24)) := ⟨_, rfl⟩
  rw [← E] at ha p_g ⊢
  have V_g := Hd (NV.of R_g.out ha p_g)
  have V_n := Hd (V_n.out.below ha)
  have V_d := Hd (V_d.out.below ha)
  have P_r0 := Hd (P_r0.out.below ha)
  have O_n0 := Hd (O_n0.out.below ha)
  have O_d0 := Hd (O_d0.out.below ha)
  have O_g := Hd (O_g.out.below ha)
  have HBW := Hd (belowTo HBW.out ha)
  obtain ⟨g2, hg⟩ : ∃ g, g = x1.heap.size := ⟨_, rfl⟩
  rw [← hg] at V_g ⊢
  have hge2 : x1.heap.size ≤ g2 := by omega
  clear E ha hg p_g
  go_wp2_with fail
  obtain ⟨W0, hW⟩ : ∃ W0, W0 = y2 := ⟨_, rfl⟩
  rw [← hW] at HBW P_r0 O_n0 O_d0 O_g V_n V_d V_g  ⊢
  clear hW
  refine wp_region_free [.val (.agg #[.bool (decide (g < 0)), .slice A1 (natL g.natAbs).length c1]) [], .any false (fun u0 V => IntAt V u0 one) [], .val (.int .i64 1) [1], .val (.bool true) []] W0.heap.size W0 [] (fun _ _ => False) _ mixedOrders2 (Nat.le_refl _) (Below.refl _ _) (KeptV.refl _ _ _) rfl (by kernel_rfl) (by kernel_rfl) (by kernel_rfl) (by kernel_rfl) (by kernel_rfl) (by kernel_rfl) (by kernel_rfl) (by kernel_rfl) rfl (by simp [oldsF]) ?_ ?_ ?_ ?_
  · simp only [StableF, and_true]
    exact fun u0 V V' h k => h.keptNone k
  · simp only [OldsF]
  · simp (maxSteps := 4000000) [StepsF, DepF, freeAct, fill, pairs]
    repeat' (first | apply And.intro | (intro (u0 : Value)))
    all_goals first
    | (intro V hV hK
       obtain ⟨-, a_g, b_g, -, -⟩ := (V_g.out.below hV).pair.facts
       have r_g := Hd (V_g.out.below hV).raw
       clear hV hK
       go_simp
       first
       | exact Below.refl _ _
       | exact ⟨by first | rfl | decide | go_num, Below.refl _ _⟩
       | ((with_reducible refine (eof 1 one H1.out (by decide) (by decide) V).mono ?_); rintro e w' ⟨v, rfl, hv, hb⟩; exact ⟨hv.at_, hb⟩))
    | (intro V hV hK hu
       obtain ⟨A', c', rfl, hr⟩ := hu.form
       have r_g := Hd (V_g.out.below hV).raw
       have r' := Hd hr
       clear hV hK hu hr
       go_simp
       (with_reducible refine (ecmp g one 1 A1 A' c1 c' V r_g.out r'.out (by omega) (by omega) HK.out).mono ?_)
       rintro e w' ⟨rfl, hb⟩
       exact ⟨rfl, hb⟩)
  · simp [EndF, FactsF, freeAct, fill, pairs]
    intro u1 V hV hK _ _ _ _
    have V_n := Hd (V_n.out.below hV)
    have V_d := Hd (V_d.out.below hV)
    have V_g := Hd (V_g.out.below hV)
    have P_r0 := Hd (P_r0.out.below hV)
    have O_n0 := Hd (O_n0.out.below hV)
    have O_d0 := Hd (O_d0.out.below hV)
    have O_g := Hd (O_g.out.below hV)
    have HBW := Hd (belowTo HBW.out hV)
    clear hV hK
    obtain ⟨v3, hV0⟩ : ∃ Y, Y = V := ⟨_, rfl⟩
    rw [← hV0] at HBW P_r0 O_n0 O_d0 O_g V_n V_d V_g  ⊢
    clear hV0
    obtain ⟨l_n, a_n, b_n, -, -⟩ := V_n.out.pair.facts
    obtain ⟨l_g, a_g, b_g, -, -⟩ := V_g.out.pair.facts
    go_wp2_with fail
    refine (edivide n g q r A A1 c c1 v3 V_n.out.raw V_g.out.raw (by omega) (by omega) HG0.out HQ.out.1 HQ.out.2).mono ?_
    rintro e x4 ⟨v1, v2, rfl, hI, hb⟩
    obtain ⟨A2, c2, rfl, -⟩ := hI.one.raw
    obtain ⟨A3, c3, rfl, -⟩ := hI.two.raw
    clear l_n a_n b_n l_g a_g b_g
    have V_n := Hd (V_n.out.below hb)
    have V_d := Hd (V_d.out.below hb)
    have V_g := Hd (V_g.out.below hb)
    have P_r0 := Hd (P_r0.out.below hb)
    have O_n0 := Hd (O_n0.out.below hb)
    have O_d0 := Hd (O_d0.out.below hb)
    have O_g := Hd (O_g.out.below hb)
    have HBW := Hd (belowTo HBW.out hb)
    have O_n := Hd (hI.one.base (Nat.zero_le _))
    clear hb hI
    obtain ⟨l_s, a_s, b_s, f_s, g_s⟩ := V_n.out.pair.facts
    have M_n := V_n.out.pair.store (.bool (decide (q < 0))) (.slice A2 (natL q.natAbs).length c2)
    have M_d := V_d.out.pair.far (show w.heap.size + 1 ≠ w.heap.size by omega) (.bool (decide (q < 0))) (.slice A2 (natL q.natAbs).length c2)
    have M_g := V_g.out.pair.far (show g2 ≠ w.heap.size by omega) (.bool (decide (q < 0))) (.slice A2 (natL q.natAbs).length c2)
    have Q_O_d0 := O_d0.out.pairT V_n.out.pair (.bool (decide (q < 0))) (.slice A2 (natL q.natAbs).length c2)
    have Q_O_g := O_g.out.pairT V_n.out.pair (.bool (decide (q < 0))) (.slice A2 (natL q.natAbs).length c2)
    have Q_O_n := O_n.out.pairT V_n.out.pair (.bool (decide (q < 0))) (.slice A2 (natL q.natAbs).length c2)
    have F_P_r0 : Quad _ _ _ _ _ _ := ⟨P_r0.out.blk.far2 (show w.heap.size + 1 + 1 ≠ w.heap.size by omega) (.bool (decide (q < 0))) (.slice A2 (natL q.natAbs).length c2)⟩
    have HB9 := below2 HBW.out (show w.heap.size ≤ w.heap.size by omega) (.bool (decide (q < 0))) (.slice A2 (natL q.natAbs).length c2)
    have hgrow : x4.heap.size ≤ (((x4).setCell ⟨w.heap.size, 0, none⟩ (.bool (decide (q < 0)))).setCell ⟨w.heap.size, 1, none⟩ (.slice A2 (natL q.natAbs).length c2)).heap.size := by simp
    go_upto_region 4 with fail
    obtain ⟨y5, E⟩ : ∃ W, W = (((x4).setCell ⟨w.heap.size, 0, none⟩ (.bool (decide (q < 0)))).setCell ⟨w.heap.size, 1, none⟩ (.slice A2 (natL q.natAbs).length c2)) := ⟨_, rfl⟩
    rw [← E] at M_n M_d M_g Q_O_d0 Q_O_g Q_O_n F_P_r0 HB9 hgrow ⊢
    clear E l_s a_s b_s f_s g_s
    have HBW := Hd HB9
    have O_d0 := Hd Q_O_d0
    have O_g := Hd Q_O_g
    have O_n := Hd Q_O_n
    have V_n := Hd (show NV y5 (w.heap.size) q A2 c2 from ⟨M_n, O_n.out.rawAt⟩)
    have V_d := Hd (show NV y5 (w.heap.size + 1) d B e0 from ⟨M_d, O_d0.out.rawAt⟩)
    have V_g := Hd (show NV y5 (g2) g A1 c1 from ⟨M_g, O_g.out.rawAt⟩)
    have P_r0 := Hd F_P_r0
    clear HB9 M_n M_d M_g Q_O_d0 Q_O_g Q_O_n F_P_r0
    obtain ⟨l_d, a_d, b_d, -, -⟩ := V_d.out.pair.facts
    obtain ⟨l_g, a_g, b_g, -, -⟩ := V_g.out.pair.facts
    go_wp2_with fail
    refine (edivide d g p s B A1 e0 c1 y5 V_d.out.raw V_g.out.raw (by omega) (by omega) HG0.out HP.out.1 HP.out.2).mono ?_
    rintro e x6 ⟨v1, v2, rfl, hI, hb⟩
    obtain ⟨A4, c4, rfl, -⟩ := hI.one.raw
    obtain ⟨A5, c5, rfl, -⟩ := hI.two.raw
    clear l_d a_d b_d l_g a_g b_g
    have V_n := Hd (V_n.out.below hb)
    have V_d := Hd (V_d.out.below hb)
    have V_g := Hd (V_g.out.below hb)
    have P_r0 := Hd (P_r0.out.below hb)
    have O_d0 := Hd (O_d0.out.below hb)
    have O_g := Hd (O_g.out.below hb)
    have O_n := Hd (O_n.out.below hb)
    have HBW := Hd (belowTo HBW.out hb)
    have O_d := Hd (hI.one.base (Nat.zero_le _))
    clear hb hI
    obtain ⟨l_s, a_s, b_s, f_s, g_s⟩ := V_d.out.pair.facts
    have M_d := V_d.out.pair.store (.bool (decide (p < 0))) (.slice A4 (natL p.natAbs).length c4)
    have M_n := V_n.out.pair.far (show w.heap.size ≠ w.heap.size + 1 by omega) (.bool (decide (p < 0))) (.slice A4 (natL p.natAbs).length c4)
    have Q_O_d := O_d.out.pairT V_d.out.pair (.bool (decide (p < 0))) (.slice A4 (natL p.natAbs).length c4)
    have Q_O_n := O_n.out.pairT V_d.out.pair (.bool (decide (p < 0))) (.slice A4 (natL p.natAbs).length c4)
    have F_P_r0 : Quad _ _ _ _ _ _ := ⟨P_r0.out.blk.far2 (show w.heap.size + 1 + 1 ≠ w.heap.size + 1 by omega) (.bool (decide (p < 0))) (.slice A4 (natL p.natAbs).length c4)⟩
    have HB9 := below2 HBW.out (show w.heap.size ≤ w.heap.size + 1 by omega) (.bool (decide (p < 0))) (.slice A4 (natL p.natAbs).length c4)
    have hgrow : x6.heap.size ≤ (((x6).setCell ⟨w.heap.size + 1, 0, none⟩ (.bool (decide (p < 0)))).setCell ⟨w.heap.size + 1, 1, none⟩ (.slice A4 (natL p.natAbs).length c4)).heap.size := by simp
    go_upto_region 5 with fail
    obtain ⟨y7, E⟩ : ∃ W, W = (((x6).setCell ⟨w.heap.size + 1, 0, none⟩ (.bool (decide (p < 0)))).setCell ⟨w.heap.size + 1, 1, none⟩ (.slice A4 (natL p.natAbs).length c4)) := ⟨_, rfl⟩
    rw [← E] at M_d M_n Q_O_d Q_O_n F_P_r0 HB9 hgrow ⊢
    clear E l_s a_s b_s f_s g_s
    have HBW := Hd HB9
    have O_d := Hd Q_O_d
    have O_n := Hd Q_O_n
    have V_d := Hd (show NV y7 (w.heap.size + 1) p A4 c4 from ⟨M_d, O_d.out.rawAt⟩)
    have V_n := Hd (show NV y7 (w.heap.size) q A2 c2 from ⟨M_n, O_n.out.rawAt⟩)
    have P_r0 := Hd F_P_r0
    clear HB9 M_d M_n Q_O_d Q_O_n F_P_r0
    clear V_g
    have hsn := HSN.out
    obtain ⟨l_d, a_d, b_d, -, -⟩ := V_d.out.pair.facts
    go_wp2_with fail
    refine (esign p sg A4 c4 y7 V_d.out.raw HSG.out).mono ?_
    rintro e x8 ⟨rfl, hb⟩
    clear l_d a_d b_d
    have V_n := Hd (V_n.out.below hb)
    have V_d := Hd (V_d.out.below hb)
    have P_r0 := Hd (P_r0.out.below hb)
    have O_n := Hd (O_n.out.below hb)
    have O_d := Hd (O_d.out.below hb)
    have HBW := Hd (belowTo HBW.out hb)
    clear hb
    go_upto_region 6 with fail
    clear hsn
    go_wp2_with fail
    have hszz := P_r0.out.blk.lt
    refine wp_region_free [.val (.agg #[.bool (decide (q < 0)), .slice A2 (natL q.natAbs).length c2]) [1004], .any false (fun u V => IntOwn V 0 u q') [], .val (.agg #[.bool (decide (p < 0)), .slice A4 (natL p.natAbs).length c4]) [1005], .any false (fun u V => IntOwn V 0 u p') [], .old (w.heap.size) 24 #[.bool (decide (q < 0)), .slice A2 (natL q.natAbs).length c2] 0 2 1 [], .old (w.heap.size + 1) 24 #[.bool (decide (p < 0)), .slice A4 (natL p.natAbs).length c4] 0 2 3 []] w.heap.size x8 [24] (fun _ _ => False) _ mixedOrders2 (by omega) (Below.refl _ _) (KeptV.refl _ _ _) rfl (by kernel_rfl) (by kernel_rfl) (by kernel_rfl) (by kernel_rfl) (by kernel_rfl) (by kernel_rfl) (by kernel_rfl) (by kernel_rfl) rfl (by simp [oldsF]) ?_ ?_ ?_ ?_
    · simp only [StableF, and_true]
      exact ⟨fun u V V' h k => h.kept k (by decide), fun u V V' h k => h.kept k (by decide)⟩
    · simp only [OldsF, and_true]
      exact ⟨⟨by omega, by omega, V_n.out.pair.blk, by simp⟩, by omega, by omega, V_d.out.pair.blk, by simp⟩
    · simp (maxSteps := 4000000) [StepsF, DepF, freeAct, fill, pairs]
      repeat' (first | apply And.intro | (intro (u : Value)) | (intro (u : Nat)))
      all_goals try exact ⟨_, _, _, rfl, rfl, rfl, rfl, intInfo⟩
      all_goals first
      | (intro V hV hK hp
         obtain ⟨-, a_p, b_p, -, -⟩ := (Pair.mk hp).facts
         clear hV hK hp
         go_simp
         exact Below.refl _ _)
      | (intro V hV hK
         have rn := Hd ((O_n.out.kept hK (by decide)).rawAt)
         have rd := Hd ((O_d.out.kept hK (by decide)).rawAt)
         clear hV hK
         go_simp
         first
         | ((with_reducible refine (eturned q q' A2 c2 V rn.out (by omega) HN1.out).mono ?_); rintro e w' ⟨v, rfl, hv, hb⟩; exact ⟨hv.base (Nat.zero_le _), hb⟩)
         | ((with_reducible refine (eturned p p' A4 c4 V rd.out (by omega) HN2.out).mono ?_); rintro e w' ⟨v, rfl, hv, hb⟩; exact ⟨hv.base (Nat.zero_le _), hb⟩))
      | exact fun _ _ _ (h : IntOwn _ _ _ _) => h.cells
    · simp [EndF, FactsF, freeAct, fill, pairs]
      intro u1 u2 V hV hK h1 h2 p1 p2 _ _ _
      obtain ⟨A6, c6, rfl, r6⟩ := h1.raw
      obtain ⟨A7, c7, rfl, r7⟩ := h2.raw
      simp [setAll, Value.cells] at p1 p2
      have V_n := Hd (show NV V (w.heap.size) q' A6 c6 from ⟨⟨p1⟩, r6⟩)
      have V_d := Hd (show NV V (w.heap.size + 1) p' A7 c7 from ⟨⟨p2⟩, r7⟩)
      have HBW := Hd (HBW.out.trans hV)
      have P_r0 := Hd (show Quad V _ _ _ _ _ from ⟨hK.blk P_r0.out.blk (by decide)⟩)
      have O_n9 := Hd h1
      have O_d9 := Hd h2
      clear hV hK h1 h2 p1 p2 r6 r7
      obtain ⟨l_n, a_n, b_n, -, -⟩ := V_n.out.pair.facts
      obtain ⟨l_d, a_d, b_d, -, -⟩ := V_d.out.pair.facts
      obtain ⟨l_r, c_r0, c_r1, c_r2, c_r3, f_r0, f_r1, f_r2, f_r3⟩ := P_r0.out.facts
      have HQ9 := Hd (P_r0.out.store (.bool (decide (q' < 0))) (.slice A6 (natL q'.natAbs).length c6) (.bool (decide (p' < 0))) (.slice A7 (natL p'.natAbs).length c7))
      have HB9 := Hd (below4 HBW.out (show w.heap.size ≤ w.heap.size + 1 + 1 by omega) (.bool (decide (q' < 0))) (.slice A6 (natL q'.natAbs).length c6) (.bool (decide (p' < 0))) (.slice A7 (natL p'.natAbs).length c7))
      have HF := Hd (show FracIn ((((V.setCell ⟨w.heap.size + 1 + 1, 0, none⟩ (.bool (decide (q' < 0)))).setCell ⟨w.heap.size + 1 + 1, 1, none⟩ (.slice A6 (natL q'.natAbs).length c6)).setCell ⟨w.heap.size + 1 + 1, 2, none⟩ (.bool (decide (p' < 0)))).setCell ⟨w.heap.size + 1 + 1, 3, none⟩ (.slice A7 (natL p'.natAbs).length c7)) 0 (.agg #[.bool (decide (q' < 0)), .slice A6 (natL q'.natAbs).length c6, .bool (decide (p' < 0)), .slice A7 (natL p'.natAbs).length c7]) q' p' from ⟨_, _, _, _, rfl, O_n9.out.quad P_r0.out _ _ _ _, O_d9.out.quad P_r0.out _ _ _ _⟩)
      go_wp2_with fail
      obtain ⟨_, k0, k1, k2, k3, _⟩ := HQ9.out.facts
      exact bodyPost_ret (by simp [results, Tryz.results196, go_sem, k0, k1, k2, k3]) rfl ⟨.agg #[.bool (decide (q' < 0)), .slice A6 (natL q'.natAbs).length c6, .bool (decide (p' < 0)), .slice A7 (natL p'.natAbs).length c7], rfl, by rw [HLN.out.1, HLN.out.2]; exact HF.out, HB9.out⟩

theorem elow_more_pos (n d : Int) (A B : Option Addr) (c e0 : Nat) (w : World) (h_n : Raw w A c (natL n.natAbs)) (h_d : Raw w B e0 (natL d.natAbs)) (o_n : IntOwn w 0 (.agg #[.bool (decide (n < 0)), .slice A (natL n.natAbs).length c]) n) (o_d : IntOwn w 0 (.agg #[.bool (decide (d < 0)), .slice B (natL d.natAbs).length e0]) d) (hn : lz n ≤ 400000000) (hd : lz d ≤ 400000000) (hd0 : d ≠ 0) (hs0 : ¬ d < 0) (hgc : 1 < gcdZ n d) :
    Calls Tryz.prog 196 #[.agg #[.bool (decide (n < 0)), .slice A (natL n.natAbs).length c], .agg #[.bool (decide (d < 0)), .slice B (natL d.natAbs).length e0]] w (RetFracIn w (lowN n d) (lowD n d)) := by
  obtain ⟨g, hg⟩ : ∃ k : Int, k = gcdZ n d := ⟨_, rfl⟩
  obtain ⟨one, hone⟩ : ∃ k : Int, k = 1 := ⟨_, rfl⟩
  obtain ⟨q, hq⟩ : ∃ k : Int, k = n.tdiv g := ⟨_, rfl⟩
  obtain ⟨r, hr⟩ : ∃ k : Int, k = n.tmod g := ⟨_, rfl⟩
  obtain ⟨p, hp⟩ : ∃ k : Int, k = d.tdiv g := ⟨_, rfl⟩
  obtain ⟨s, hs⟩ : ∃ k : Int, k = d.tmod g := ⟨_, rfl⟩
  obtain ⟨q', hq'⟩ : ∃ k : Int, k = -q := ⟨_, rfl⟩
  obtain ⟨p', hp'⟩ : ∃ k : Int, k = -p := ⟨_, rfl⟩
  have hgp := gcdZ_pos (n := n) hd0
  have hgl := gcdZ_lz (n := n) hd0
  rw [← hg] at hgp hgl hgc
  have hql : lz q ≤ lz n := by rw [hq]; exact tdiv_lz n g
  have hpl : lz p ≤ lz d := by rw [hp]; exact tdiv_lz d g
  have hps : p.sign = d.sign := by rw [hp, hg]; exact tdiv_sign hd0
  have hol : lz one ≤ 2 := by rw [hone]; decide
  obtain ⟨sg, hsg⟩ : ∃ k : Int, k = p.sign := ⟨_, rfl⟩
  have HSG := Hd hsg
  have HSN := Hd (show decide (sg < 0) = false from by
    rw [hsg, hps]
    exact decide_eq_false (by have := sign_cases d; omega))
  have HG := Hd (show g = ((Nat.gcd n.natAbs d.natAbs : Nat) : Int) from hg)
  have H1 := Hd hone
  have HG0 := Hd (show g ≠ 0 from by omega)
  have HQ := Hd (And.intro hq hr)
  have HP := Hd (And.intro hp hs)
  have HN1 := Hd hq'
  have HN2 := Hd hp'
  have HK := Hd (show (1 : Int) = cmpz g one from by rw [hone]; exact (cmpz_gt (by omega)).symm)
  have HLN := Hd (show lowN n d = q ∧ lowD n d = p from by
    unfold lowN lowD
    rw [if_neg hs0, if_neg hs0, ← hg, ← hq, ← hp]
    exact ⟨rfl, rfl⟩)
  have OW_n := Hd o_n
  have OW_d := Hd o_d
  clear o_n o_d
  clear hgc hg hone hq hr hp hs hq' hp' hs0 hsg hps hd0
  have b0 := ((((Below.refl w.heap.size w).alloc (Nat.le_refl _) (.cells #[.bool (decide (n < 0)), .slice A (natL n.natAbs).length c] 24)).alloc (by simp) (.cells #[.bool (decide (d < 0)), .slice B (natL d.natAbs).length e0] 24)).alloc (by simp; omega) (.cells #[.bool false, .slice none 0 0, .bool false, .slice none 0 0] 56))
  have p0 := ((Pair.new w 24 (.bool (decide (n < 0))) (.slice A (natL n.natAbs).length c)).alloc (.cells #[.bool (decide (d < 0)), .slice B (natL d.natAbs).length e0] 24)).alloc (.cells #[.bool false, .slice none 0 0, .bool false, .slice none 0 0] 56)
  have p1 := (Pair.new (w.alloc (.cells #[.bool (decide (n < 0)), .slice A (natL n.natAbs).length c] 24)) 24 (.bool (decide (d < 0))) (.slice B (natL d.natAbs).length e0)).alloc (.cells #[.bool false, .slice none 0 0, .bool false, .slice none 0 0] 56)
  have p2 := Quad.new ((w.alloc (.cells #[.bool (decide (n < 0)), .slice A (natL n.natAbs).length c] 24)).alloc (.cells #[.bool (decide (d < 0)), .slice B (natL d.natAbs).length e0] 24)) (.bool false) (.slice none 0 0) (.bool false) (.slice none 0 0)
  simp only [World.size_alloc] at p1 p2
  have V_n := Hd (NV.of h_n b0 p0)
  have V_d := Hd (NV.of h_d b0 p1)
  have P_r0 := Hd p2
  have RW_n := Hd h_n
  have RW_d := Hd h_d
  have HBW := Hd b0
  clear b0 p0 p1 p2 h_n h_d
  go_enter Tryz.func196, Tryz.ntmps196
  obtain ⟨W, E⟩ : ∃ W, W = (((w.alloc (.cells #[.bool (decide (n < 0)), .slice A (natL n.natAbs).length c] 24)).alloc (.cells #[.bool (decide (d < 0)), .slice B (natL d.natAbs).length e0] 24)).alloc (.cells #[.bool false, .slice none 0 0, .bool false, .slice none 0 0] 56)) := ⟨_, rfl⟩
  go_upto_region 1 with fail
  rw [← E] at V_n V_d P_r0 HBW ⊢
  clear E
  have hsz := P_r0.out.blk.lt
  have O_n0 := Hd (OW_n.out.below HBW.out)
  have O_d0 := Hd (OW_d.out.below HBW.out)
  clear OW_n OW_d
  obtain ⟨l_n, a_n, b_n, -, -⟩ := V_n.out.pair.facts
  obtain ⟨l_d, a_d, b_d, -, -⟩ := V_d.out.pair.facts
  go_wp2_with fail
  refine (ecommon n d g A B c e0 W V_n.out.raw V_d.out.raw (by omega) (by omega) HG.out).mono ?_
  rintro e x1 ⟨v, rfl, hI, hb⟩
  obtain ⟨A1, c1, rfl, r1⟩ := hI.raw
  have hIg := hI.base (Nat.zero_le _)
  have hszg := hb.size
  clear l_n a_n b_n l_d a_d b_d
  have V_n := Hd (V_n.out.below hb)
  have V_d := Hd (V_d.out.below hb)
  have P_r0 := Hd (P_r0.out.below hb)
  have O_n0 := Hd (O_n0.out.below hb)
  have O_d0 := Hd (O_d0.out.below hb)
  have HBW := Hd (belowTo HBW.out hb)
  have R_g := Hd r1
  clear hb r1
  have O_g := Hd hIg
  clear hI hIg
  go_upto_region 2 with fail
  have ha := ((Below.refl x1.heap.size x1).alloc (Nat.le_refl _) (.cells #[.bool (decide (g < 0)), .slice A1 (natL g.natAbs).length c1] 24))
  have p_g := (Pair.new x1 24 (.bool (decide (g < 0))) (.slice A1 (natL g.natAbs).length c1))
  obtain ⟨y2, E⟩ : ∃ W, W = (x1.alloc (.cells #[.bool (decide (g < 0)), .slice A1 (natL g.natAbs).length c1] 24)) := ⟨_, rfl⟩
  rw [← E] at ha p_g ⊢
  have V_g := Hd (NV.of R_g.out ha p_g)
  have V_n := Hd (V_n.out.below ha)
  have V_d := Hd (V_d.out.below ha)
  have P_r0 := Hd (P_r0.out.below ha)
  have O_n0 := Hd (O_n0.out.below ha)
  have O_d0 := Hd (O_d0.out.below ha)
  have O_g := Hd (O_g.out.below ha)
  have HBW := Hd (belowTo HBW.out ha)
  obtain ⟨g2, hg⟩ : ∃ g, g = x1.heap.size := ⟨_, rfl⟩
  rw [← hg] at V_g ⊢
  have hge2 : x1.heap.size ≤ g2 := by omega
  clear E ha hg p_g
  go_wp2_with fail
  obtain ⟨W0, hW⟩ : ∃ W0, W0 = y2 := ⟨_, rfl⟩
  rw [← hW] at HBW P_r0 O_n0 O_d0 O_g V_n V_d V_g  ⊢
  clear hW
  refine wp_region_free [.val (.agg #[.bool (decide (g < 0)), .slice A1 (natL g.natAbs).length c1]) [], .any false (fun u0 V => IntAt V u0 one) [], .val (.int .i64 1) [1], .val (.bool true) []] W0.heap.size W0 [] (fun _ _ => False) _ mixedOrders2 (Nat.le_refl _) (Below.refl _ _) (KeptV.refl _ _ _) rfl (by kernel_rfl) (by kernel_rfl) (by kernel_rfl) (by kernel_rfl) (by kernel_rfl) (by kernel_rfl) (by kernel_rfl) (by kernel_rfl) rfl (by simp [oldsF]) ?_ ?_ ?_ ?_
  · simp only [StableF, and_true]
    exact fun u0 V V' h k => h.keptNone k
  · simp only [OldsF]
  · simp (maxSteps := 4000000) [StepsF, DepF, freeAct, fill, pairs]
    repeat' (first | apply And.intro | (intro (u0 : Value)))
    all_goals first
    | (intro V hV hK
       obtain ⟨-, a_g, b_g, -, -⟩ := (V_g.out.below hV).pair.facts
       have r_g := Hd (V_g.out.below hV).raw
       clear hV hK
       go_simp
       first
       | exact Below.refl _ _
       | exact ⟨by first | rfl | decide | go_num, Below.refl _ _⟩
       | ((with_reducible refine (eof 1 one H1.out (by decide) (by decide) V).mono ?_); rintro e w' ⟨v, rfl, hv, hb⟩; exact ⟨hv.at_, hb⟩))
    | (intro V hV hK hu
       obtain ⟨A', c', rfl, hr⟩ := hu.form
       have r_g := Hd (V_g.out.below hV).raw
       have r' := Hd hr
       clear hV hK hu hr
       go_simp
       (with_reducible refine (ecmp g one 1 A1 A' c1 c' V r_g.out r'.out (by omega) (by omega) HK.out).mono ?_)
       rintro e w' ⟨rfl, hb⟩
       exact ⟨rfl, hb⟩)
  · simp [EndF, FactsF, freeAct, fill, pairs]
    intro u1 V hV hK _ _ _ _
    have V_n := Hd (V_n.out.below hV)
    have V_d := Hd (V_d.out.below hV)
    have V_g := Hd (V_g.out.below hV)
    have P_r0 := Hd (P_r0.out.below hV)
    have O_n0 := Hd (O_n0.out.below hV)
    have O_d0 := Hd (O_d0.out.below hV)
    have O_g := Hd (O_g.out.below hV)
    have HBW := Hd (belowTo HBW.out hV)
    clear hV hK
    obtain ⟨v3, hV0⟩ : ∃ Y, Y = V := ⟨_, rfl⟩
    rw [← hV0] at HBW P_r0 O_n0 O_d0 O_g V_n V_d V_g  ⊢
    clear hV0
    obtain ⟨l_n, a_n, b_n, -, -⟩ := V_n.out.pair.facts
    obtain ⟨l_g, a_g, b_g, -, -⟩ := V_g.out.pair.facts
    go_wp2_with fail
    refine (edivide n g q r A A1 c c1 v3 V_n.out.raw V_g.out.raw (by omega) (by omega) HG0.out HQ.out.1 HQ.out.2).mono ?_
    rintro e x4 ⟨v1, v2, rfl, hI, hb⟩
    obtain ⟨A2, c2, rfl, -⟩ := hI.one.raw
    obtain ⟨A3, c3, rfl, -⟩ := hI.two.raw
    clear l_n a_n b_n l_g a_g b_g
    have V_n := Hd (V_n.out.below hb)
    have V_d := Hd (V_d.out.below hb)
    have V_g := Hd (V_g.out.below hb)
    have P_r0 := Hd (P_r0.out.below hb)
    have O_n0 := Hd (O_n0.out.below hb)
    have O_d0 := Hd (O_d0.out.below hb)
    have O_g := Hd (O_g.out.below hb)
    have HBW := Hd (belowTo HBW.out hb)
    have O_n := Hd (hI.one.base (Nat.zero_le _))
    clear hb hI
    obtain ⟨l_s, a_s, b_s, f_s, g_s⟩ := V_n.out.pair.facts
    have M_n := V_n.out.pair.store (.bool (decide (q < 0))) (.slice A2 (natL q.natAbs).length c2)
    have M_d := V_d.out.pair.far (show w.heap.size + 1 ≠ w.heap.size by omega) (.bool (decide (q < 0))) (.slice A2 (natL q.natAbs).length c2)
    have M_g := V_g.out.pair.far (show g2 ≠ w.heap.size by omega) (.bool (decide (q < 0))) (.slice A2 (natL q.natAbs).length c2)
    have Q_O_d0 := O_d0.out.pairT V_n.out.pair (.bool (decide (q < 0))) (.slice A2 (natL q.natAbs).length c2)
    have Q_O_g := O_g.out.pairT V_n.out.pair (.bool (decide (q < 0))) (.slice A2 (natL q.natAbs).length c2)
    have Q_O_n := O_n.out.pairT V_n.out.pair (.bool (decide (q < 0))) (.slice A2 (natL q.natAbs).length c2)
    have F_P_r0 : Quad _ _ _ _ _ _ := ⟨P_r0.out.blk.far2 (show w.heap.size + 1 + 1 ≠ w.heap.size by omega) (.bool (decide (q < 0))) (.slice A2 (natL q.natAbs).length c2)⟩
    have HB9 := below2 HBW.out (show w.heap.size ≤ w.heap.size by omega) (.bool (decide (q < 0))) (.slice A2 (natL q.natAbs).length c2)
    have hgrow : x4.heap.size ≤ (((x4).setCell ⟨w.heap.size, 0, none⟩ (.bool (decide (q < 0)))).setCell ⟨w.heap.size, 1, none⟩ (.slice A2 (natL q.natAbs).length c2)).heap.size := by simp
    go_upto_region 4 with fail
    obtain ⟨y5, E⟩ : ∃ W, W = (((x4).setCell ⟨w.heap.size, 0, none⟩ (.bool (decide (q < 0)))).setCell ⟨w.heap.size, 1, none⟩ (.slice A2 (natL q.natAbs).length c2)) := ⟨_, rfl⟩
    rw [← E] at M_n M_d M_g Q_O_d0 Q_O_g Q_O_n F_P_r0 HB9 hgrow ⊢
    clear E l_s a_s b_s f_s g_s
    have HBW := Hd HB9
    have O_d0 := Hd Q_O_d0
    have O_g := Hd Q_O_g
    have O_n := Hd Q_O_n
    have V_n := Hd (show NV y5 (w.heap.size) q A2 c2 from ⟨M_n, O_n.out.rawAt⟩)
    have V_d := Hd (show NV y5 (w.heap.size + 1) d B e0 from ⟨M_d, O_d0.out.rawAt⟩)
    have V_g := Hd (show NV y5 (g2) g A1 c1 from ⟨M_g, O_g.out.rawAt⟩)
    have P_r0 := Hd F_P_r0
    clear HB9 M_n M_d M_g Q_O_d0 Q_O_g Q_O_n F_P_r0
    obtain ⟨l_d, a_d, b_d, -, -⟩ := V_d.out.pair.facts
    obtain ⟨l_g, a_g, b_g, -, -⟩ := V_g.out.pair.facts
    go_wp2_with fail
    refine (edivide d g p s B A1 e0 c1 y5 V_d.out.raw V_g.out.raw (by omega) (by omega) HG0.out HP.out.1 HP.out.2).mono ?_
    rintro e x6 ⟨v1, v2, rfl, hI, hb⟩
    obtain ⟨A4, c4, rfl, -⟩ := hI.one.raw
    obtain ⟨A5, c5, rfl, -⟩ := hI.two.raw
    clear l_d a_d b_d l_g a_g b_g
    have V_n := Hd (V_n.out.below hb)
    have V_d := Hd (V_d.out.below hb)
    have V_g := Hd (V_g.out.below hb)
    have P_r0 := Hd (P_r0.out.below hb)
    have O_d0 := Hd (O_d0.out.below hb)
    have O_g := Hd (O_g.out.below hb)
    have O_n := Hd (O_n.out.below hb)
    have HBW := Hd (belowTo HBW.out hb)
    have O_d := Hd (hI.one.base (Nat.zero_le _))
    clear hb hI
    obtain ⟨l_s, a_s, b_s, f_s, g_s⟩ := V_d.out.pair.facts
    have M_d := V_d.out.pair.store (.bool (decide (p < 0))) (.slice A4 (natL p.natAbs).length c4)
    have M_n := V_n.out.pair.far (show w.heap.size ≠ w.heap.size + 1 by omega) (.bool (decide (p < 0))) (.slice A4 (natL p.natAbs).length c4)
    have Q_O_d := O_d.out.pairT V_d.out.pair (.bool (decide (p < 0))) (.slice A4 (natL p.natAbs).length c4)
    have Q_O_n := O_n.out.pairT V_d.out.pair (.bool (decide (p < 0))) (.slice A4 (natL p.natAbs).length c4)
    have F_P_r0 : Quad _ _ _ _ _ _ := ⟨P_r0.out.blk.far2 (show w.heap.size + 1 + 1 ≠ w.heap.size + 1 by omega) (.bool (decide (p < 0))) (.slice A4 (natL p.natAbs).length c4)⟩
    have HB9 := below2 HBW.out (show w.heap.size ≤ w.heap.size + 1 by omega) (.bool (decide (p < 0))) (.slice A4 (natL p.natAbs).length c4)
    have hgrow : x6.heap.size ≤ (((x6).setCell ⟨w.heap.size + 1, 0, none⟩ (.bool (decide (p < 0)))).setCell ⟨w.heap.size + 1, 1, none⟩ (.slice A4 (natL p.natAbs).length c4)).heap.size := by simp
    go_upto_region 5 with fail
    obtain ⟨y7, E⟩ : ∃ W, W = (((x6).setCell ⟨w.heap.size + 1, 0, none⟩ (.bool (decide (p < 0)))).setCell ⟨w.heap.size + 1, 1, none⟩ (.slice A4 (natL p.natAbs).length c4)) := ⟨_, rfl⟩
    rw [← E] at M_d M_n Q_O_d Q_O_n F_P_r0 HB9 hgrow ⊢
    clear E l_s a_s b_s f_s g_s
    have HBW := Hd HB9
    have O_d := Hd Q_O_d
    have O_n := Hd Q_O_n
    have V_d := Hd (show NV y7 (w.heap.size + 1) p A4 c4 from ⟨M_d, O_d.out.rawAt⟩)
    have V_n := Hd (show NV y7 (w.heap.size) q A2 c2 from ⟨M_n, O_n.out.rawAt⟩)
    have P_r0 := Hd F_P_r0
    clear HB9 M_d M_n Q_O_d Q_O_n F_P_r0
    clear V_g
    have hsn := HSN.out
    obtain ⟨l_d, a_d, b_d, -, -⟩ := V_d.out.pair.facts
    go_wp2_with fail
    refine (esign p sg A4 c4 y7 V_d.out.raw HSG.out).mono ?_
    rintro e x8 ⟨rfl, hb⟩
    clear l_d a_d b_d
    have V_n := Hd (V_n.out.below hb)
    have V_d := Hd (V_d.out.below hb)
    have P_r0 := Hd (P_r0.out.below hb)
    have O_n := Hd (O_n.out.below hb)
    have O_d := Hd (O_d.out.below hb)
    have HBW := Hd (belowTo HBW.out hb)
    clear hb
    go_upto_region 7 with fail
    clear hsn
    obtain ⟨l_n, a_n, b_n, -, -⟩ := V_n.out.pair.facts
    obtain ⟨l_d, a_d, b_d, -, -⟩ := V_d.out.pair.facts
    obtain ⟨l_r, c_r0, c_r1, c_r2, c_r3, f_r0, f_r1, f_r2, f_r3⟩ := P_r0.out.facts
    have HQ9 := Hd (P_r0.out.store (.bool (decide (q < 0))) (.slice A2 (natL q.natAbs).length c2) (.bool (decide (p < 0))) (.slice A4 (natL p.natAbs).length c4))
    have HB9 := Hd (below4 HBW.out (show w.heap.size ≤ w.heap.size + 1 + 1 by omega) (.bool (decide (q < 0))) (.slice A2 (natL q.natAbs).length c2) (.bool (decide (p < 0))) (.slice A4 (natL p.natAbs).length c4))
    have HF := Hd (show FracIn ((((x8.setCell ⟨w.heap.size + 1 + 1, 0, none⟩ (.bool (decide (q < 0)))).setCell ⟨w.heap.size + 1 + 1, 1, none⟩ (.slice A2 (natL q.natAbs).length c2)).setCell ⟨w.heap.size + 1 + 1, 2, none⟩ (.bool (decide (p < 0)))).setCell ⟨w.heap.size + 1 + 1, 3, none⟩ (.slice A4 (natL p.natAbs).length c4)) 0 (.agg #[.bool (decide (q < 0)), .slice A2 (natL q.natAbs).length c2, .bool (decide (p < 0)), .slice A4 (natL p.natAbs).length c4]) q p from ⟨_, _, _, _, rfl, O_n.out.quad P_r0.out _ _ _ _, O_d.out.quad P_r0.out _ _ _ _⟩)
    go_wp2_with fail
    obtain ⟨_, k0, k1, k2, k3, _⟩ := HQ9.out.facts
    exact bodyPost_ret (by simp [results, Tryz.results196, go_sem, k0, k1, k2, k3]) rfl ⟨.agg #[.bool (decide (q < 0)), .slice A2 (natL q.natAbs).length c2, .bool (decide (p < 0)), .slice A4 (natL p.natAbs).length c4], rfl, by rw [HLN.out.1, HLN.out.2]; exact HF.out, HB9.out⟩

theorem elow (n d : Int) (A B : Option Addr) (c e0 : Nat) (w : World) (h : Raw w A c (natL n.natAbs)) (g : Raw w B e0 (natL d.natAbs)) (o_n : IntOwn w 0 (.agg #[.bool (decide (n < 0)), .slice A (natL n.natAbs).length c]) n) (o_d : IntOwn w 0 (.agg #[.bool (decide (d < 0)), .slice B (natL d.natAbs).length e0]) d) (hn : lz n ≤ 400000000) (hd : lz d ≤ 400000000) (hd0 : d ≠ 0) :
    Calls Tryz.prog 196 #[.agg #[.bool (decide (n < 0)), .slice A (natL n.natAbs).length c], .agg #[.bool (decide (d < 0)), .slice B (natL d.natAbs).length e0]] w (RetFracIn w (lowN n d) (lowD n d)) := by
  have hp := gcdZ_pos (n := n) hd0
  rcases (by omega : gcdZ n d = 1 ∨ 1 < gcdZ n d) with h1 | h1 <;> by_cases hs : d < 0
  · exact elow_one_neg n d A B c e0 w h g o_n o_d hn hd hd0 hs h1
  · exact elow_one_pos n d A B c e0 w h g o_n o_d hn hd hd0 hs h1
  · exact elow_more_neg n d A B c e0 w h g o_n o_d hn hd hd0 hs h1
  · exact elow_more_pos n d A B c e0 w h g o_n o_d hn hd hd0 hs h1

theorem rlow_neg (n d : Int) (A B : Option Addr) (c e0 : Nat) (w : World) (h_n : Raw w A c (natL n.natAbs)) (h_d : Raw w B e0 (natL d.natAbs)) (hn : lz n ≤ 30000) (hd : lz d ≤ 30000) (hd0 : d ≠ 0) (hs0 : d < 0) :
    Calls Tryz.prog 175 #[.agg #[.bool (decide (n < 0)), .slice A (natL n.natAbs).length c], .agg #[.bool (decide (d < 0)), .slice B (natL d.natAbs).length e0]] w (RetFracIn w (lowN n d) (lowD n d)) := by
  obtain ⟨g, hg⟩ : ∃ k : Int, k = gcdZ n d := ⟨_, rfl⟩
  obtain ⟨q, hq⟩ : ∃ k : Int, k = n.tdiv g := ⟨_, rfl⟩
  obtain ⟨r, hr⟩ : ∃ k : Int, k = n.tmod g := ⟨_, rfl⟩
  obtain ⟨p, hp⟩ : ∃ k : Int, k = d.tdiv g := ⟨_, rfl⟩
  obtain ⟨s, hs⟩ : ∃ k : Int, k = d.tmod g := ⟨_, rfl⟩
  obtain ⟨q', hq'⟩ : ∃ k : Int, k = -q := ⟨_, rfl⟩
  obtain ⟨p', hp'⟩ : ∃ k : Int, k = -p := ⟨_, rfl⟩
  have hgp := gcdZ_pos (n := n) hd0
  have hgl := gcdZ_lz (n := n) hd0
  rw [← hg] at hgp hgl
  have hql : lz q ≤ lz n := by rw [hq]; exact tdiv_lz n g
  have hpl : lz p ≤ lz d := by rw [hp]; exact tdiv_lz d g
  have hps : p.sign = d.sign := by rw [hp, hg]; exact tdiv_sign hd0
  obtain ⟨sg, hsg⟩ : ∃ k : Int, k = p.sign := ⟨_, rfl⟩
  have HSG := Hd hsg
  have HSN := Hd (show decide (sg < 0) = true from by
    rw [hsg, hps]
    exact decide_eq_true (by rw [Int.sign_eq_neg_one_of_neg hs0]; decide))
  have HG := Hd hg
  have HG0 := Hd (show g ≠ 0 from by omega)
  have HQ := Hd (And.intro hq hr)
  have HP := Hd (And.intro hp hs)
  have HN1 := Hd hq'
  have HN2 := Hd hp'
  have HLN := Hd (show lowN n d = q' ∧ lowD n d = p' from by
    unfold lowN lowD
    rw [if_pos hs0, if_pos hs0, ← hg, ← hq, ← hp, hq', hp']
    exact ⟨rfl, rfl⟩)
  clear hg hq hr hp hs hq' hp' hs0 hsg hps hd0
  have b0 := ((((Below.refl w.heap.size w).alloc (Nat.le_refl _) (.cells #[.bool (decide (n < 0)), .slice A (natL n.natAbs).length c] 24)).alloc (by simp) (.cells #[.bool (decide (d < 0)), .slice B (natL d.natAbs).length e0] 24)).alloc (by simp; omega) (.cells #[.bool false, .slice none 0 0, .bool false, .slice none 0 0] 56))
  have p0 := ((Pair.new w 24 (.bool (decide (n < 0))) (.slice A (natL n.natAbs).length c)).alloc (.cells #[.bool (decide (d < 0)), .slice B (natL d.natAbs).length e0] 24)).alloc (.cells #[.bool false, .slice none 0 0, .bool false, .slice none 0 0] 56)
  have p1 := (Pair.new (w.alloc (.cells #[.bool (decide (n < 0)), .slice A (natL n.natAbs).length c] 24)) 24 (.bool (decide (d < 0))) (.slice B (natL d.natAbs).length e0)).alloc (.cells #[.bool false, .slice none 0 0, .bool false, .slice none 0 0] 56)
  have p2 := Quad.new ((w.alloc (.cells #[.bool (decide (n < 0)), .slice A (natL n.natAbs).length c] 24)).alloc (.cells #[.bool (decide (d < 0)), .slice B (natL d.natAbs).length e0] 24)) (.bool false) (.slice none 0 0) (.bool false) (.slice none 0 0)
  simp only [World.size_alloc] at p1 p2
  have V_n := Hd (NV.of h_n b0 p0)
  have V_d := Hd (NV.of h_d b0 p1)
  have P_r0 := Hd p2
  have RW_n := Hd h_n
  have RW_d := Hd h_d
  have HBW := Hd b0
  clear b0 p0 p1 p2 h_n h_d
  go_enter Tryz.func175, Tryz.ntmps175
  obtain ⟨W, E⟩ : ∃ W, W = (((w.alloc (.cells #[.bool (decide (n < 0)), .slice A (natL n.natAbs).length c] 24)).alloc (.cells #[.bool (decide (d < 0)), .slice B (natL d.natAbs).length e0] 24)).alloc (.cells #[.bool false, .slice none 0 0, .bool false, .slice none 0 0] 56)) := ⟨_, rfl⟩
  go_upto_region 1 with fail
  rw [← E] at V_n V_d P_r0 HBW ⊢
  clear E
  have hsz := P_r0.out.blk.lt
  obtain ⟨l_n, a_n, b_n, -, -⟩ := V_n.out.pair.facts
  obtain ⟨l_d, a_d, b_d, -, -⟩ := V_d.out.pair.facts
  go_wp2_with fail
  refine (common02 n d A B c e0 W V_n.out.raw V_d.out.raw (by omega) (by omega)).mono ?_
  rintro e x1 ⟨v, rfl, hI, hb⟩
  rw [← HG.out] at hI
  obtain ⟨A1, c1, rfl, r1⟩ := hI.form
  clear hI
  clear l_n a_n b_n l_d a_d b_d
  have V_n := Hd (V_n.out.below hb)
  have V_d := Hd (V_d.out.below hb)
  have P_r0 := Hd (P_r0.out.below hb)
  have HBW := Hd (belowTo HBW.out hb)
  have R_g := Hd r1
  clear hb r1
  go_upto_region 2 with fail
  have ha := ((Below.refl x1.heap.size x1).alloc (Nat.le_refl _) (.cells #[.bool (decide (g < 0)), .slice A1 (natL g.natAbs).length c1] 24))
  have p_g := (Pair.new x1 24 (.bool (decide (g < 0))) (.slice A1 (natL g.natAbs).length c1))
  obtain ⟨y2, E⟩ : ∃ W, W = (x1.alloc (.cells #[.bool (decide (g < 0)), .slice A1 (natL g.natAbs).length c1] 24)) := ⟨_, rfl⟩
  rw [← E] at ha p_g ⊢
  have V_g := Hd (NV.of R_g.out ha p_g)
  have V_n := Hd (V_n.out.below ha)
  have V_d := Hd (V_d.out.below ha)
  have P_r0 := Hd (P_r0.out.below ha)
  have HBW := Hd (belowTo HBW.out ha)
  obtain ⟨g2, hg⟩ : ∃ g, g = x1.heap.size := ⟨_, rfl⟩
  rw [← hg] at V_g ⊢
  clear E ha hg p_g
  obtain ⟨l_n, a_n, b_n, -, -⟩ := V_n.out.pair.facts
  obtain ⟨l_g, a_g, b_g, -, -⟩ := V_g.out.pair.facts
  go_wp2_with fail
  refine (rdivide n g q r A A1 c c1 y2 V_n.out.raw V_g.out.raw (by omega) (by omega) HG0.out HQ.out.1 HQ.out.2).mono ?_
  rintro e x3 ⟨v1, v2, rfl, hI1, hI2, hb⟩
  obtain ⟨A2, c2, rfl, r2⟩ := hI1.raw
  obtain ⟨A3, c3, rfl, r3⟩ := hI2.raw
  clear l_n a_n b_n l_g a_g b_g
  have V_n := Hd (V_n.out.below hb)
  have V_d := Hd (V_d.out.below hb)
  have V_g := Hd (V_g.out.below hb)
  have P_r0 := Hd (P_r0.out.below hb)
  have HBW := Hd (belowTo HBW.out hb)
  have R_q := Hd r2
  have R_rm := Hd r3
  have O_q := Hd (hI1.base (Nat.zero_le _))
  clear hb hI1 hI2 r2 r3
  go_upto_region 3 with fail
  have ha := (((Below.refl x3.heap.size x3).alloc (Nat.le_refl _) (.cells #[.bool (decide (q < 0)), .slice A2 (natL q.natAbs).length c2] 24)).alloc (by simp) (.cells #[.bool (decide (r < 0)), .slice A3 (natL r.natAbs).length c3] 24))
  have p_q := ((Pair.new x3 24 (.bool (decide (q < 0))) (.slice A2 (natL q.natAbs).length c2)).alloc (.cells #[.bool (decide (r < 0)), .slice A3 (natL r.natAbs).length c3] 24))
  have p_rm := (Pair.new (x3.alloc (.cells #[.bool (decide (q < 0)), .slice A2 (natL q.natAbs).length c2] 24)) 24 (.bool (decide (r < 0))) (.slice A3 (natL r.natAbs).length c3))
  simp only [World.size_alloc] at p_rm
  obtain ⟨y4, E⟩ : ∃ W, W = ((x3.alloc (.cells #[.bool (decide (q < 0)), .slice A2 (natL q.natAbs).length c2] 24)).alloc (.cells #[.bool (decide (r < 0)), .slice A3 (natL r.natAbs).length c3] 24)) := ⟨_, rfl⟩
  rw [← E] at ha p_q p_rm ⊢
  have V_q := Hd (NV.of R_q.out ha p_q)
  have V_rm := Hd (NV.of R_rm.out ha p_rm)
  have V_n := Hd (V_n.out.below ha)
  have V_d := Hd (V_d.out.below ha)
  have V_g := Hd (V_g.out.below ha)
  have P_r0 := Hd (P_r0.out.below ha)
  have O_q := Hd (O_q.out.below ha)
  have HBW := Hd (belowTo HBW.out ha)
  obtain ⟨g4, hg⟩ : ∃ g, g = x3.heap.size := ⟨_, rfl⟩
  rw [← hg] at V_q V_rm ⊢
  clear E ha hg p_q p_rm
  clear V_rm
  obtain ⟨l_d, a_d, b_d, -, -⟩ := V_d.out.pair.facts
  obtain ⟨l_g, a_g, b_g, -, -⟩ := V_g.out.pair.facts
  go_wp2_with fail
  refine (rdivide d g p s B A1 e0 c1 y4 V_d.out.raw V_g.out.raw (by omega) (by omega) HG0.out HP.out.1 HP.out.2).mono ?_
  rintro e x5 ⟨v1, v2, rfl, hI1, hI2, hb⟩
  obtain ⟨A4, c4, rfl, r2⟩ := hI1.raw
  obtain ⟨A5, c5, rfl, r3⟩ := hI2.raw
  clear l_d a_d b_d l_g a_g b_g
  have V_n := Hd (V_n.out.below hb)
  have V_d := Hd (V_d.out.below hb)
  have V_g := Hd (V_g.out.below hb)
  have V_q := Hd (V_q.out.below hb)
  have P_r0 := Hd (P_r0.out.below hb)
  have O_q := Hd (O_q.out.below hb)
  have HBW := Hd (belowTo HBW.out hb)
  have R_p := Hd r2
  have R_sm := Hd r3
  have O_p := Hd (hI1.base (Nat.zero_le _))
  clear hb hI1 hI2 r2 r3
  go_upto_region 4 with fail
  have ha := (((Below.refl x5.heap.size x5).alloc (Nat.le_refl _) (.cells #[.bool (decide (p < 0)), .slice A4 (natL p.natAbs).length c4] 24)).alloc (by simp) (.cells #[.bool (decide (s < 0)), .slice A5 (natL s.natAbs).length c5] 24))
  have p_p := ((Pair.new x5 24 (.bool (decide (p < 0))) (.slice A4 (natL p.natAbs).length c4)).alloc (.cells #[.bool (decide (s < 0)), .slice A5 (natL s.natAbs).length c5] 24))
  have p_sm := (Pair.new (x5.alloc (.cells #[.bool (decide (p < 0)), .slice A4 (natL p.natAbs).length c4] 24)) 24 (.bool (decide (s < 0))) (.slice A5 (natL s.natAbs).length c5))
  simp only [World.size_alloc] at p_sm
  obtain ⟨y6, E⟩ : ∃ W, W = ((x5.alloc (.cells #[.bool (decide (p < 0)), .slice A4 (natL p.natAbs).length c4] 24)).alloc (.cells #[.bool (decide (s < 0)), .slice A5 (natL s.natAbs).length c5] 24)) := ⟨_, rfl⟩
  rw [← E] at ha p_p p_sm ⊢
  have V_p := Hd (NV.of R_p.out ha p_p)
  have V_sm := Hd (NV.of R_sm.out ha p_sm)
  have V_n := Hd (V_n.out.below ha)
  have V_d := Hd (V_d.out.below ha)
  have V_g := Hd (V_g.out.below ha)
  have V_q := Hd (V_q.out.below ha)
  have P_r0 := Hd (P_r0.out.below ha)
  have O_q := Hd (O_q.out.below ha)
  have O_p := Hd (O_p.out.below ha)
  have HBW := Hd (belowTo HBW.out ha)
  obtain ⟨g6, hg⟩ : ∃ g, g = x5.heap.size := ⟨_, rfl⟩
  rw [← hg] at V_p V_sm ⊢
  clear E ha hg p_p p_sm
  clear V_sm
  have hsn := HSN.out
  obtain ⟨l_p, a_p, b_p, -, -⟩ := V_p.out.pair.facts
  go_wp2_with fail
  refine (rsign p sg A4 c4 y6 V_p.out.raw HSG.out).mono ?_
  rintro e x7 ⟨rfl, hb⟩
  clear l_p a_p b_p
  have V_n := Hd (V_n.out.below hb)
  have V_d := Hd (V_d.out.below hb)
  have V_g := Hd (V_g.out.below hb)
  have V_q := Hd (V_q.out.below hb)
  have V_p := Hd (V_p.out.below hb)
  have P_r0 := Hd (P_r0.out.below hb)
  have O_q := Hd (O_q.out.below hb)
  have O_p := Hd (O_p.out.below hb)
  have HBW := Hd (belowTo HBW.out hb)
  clear hb
  go_upto_region 5 with fail
  clear hsn
  go_wp2_with fail
  refine wp_region_free [.val (.agg #[.bool (decide (q < 0)), .slice A2 (natL q.natAbs).length c2]) [], .any false (fun u V => IntOwn V 0 u q') [], .val (.agg #[.bool (decide (p < 0)), .slice A4 (natL p.natAbs).length c4]) [], .any false (fun u V => IntOwn V 0 u p') [], .any false (fun u V => FracIn V 0 u q' p') [1, 3], .old (w.heap.size + 1 + 1) 56 #[.bool false, .slice none 0 0, .bool false, .slice none 0 0] 0 4 4 []] (w.heap.size + 1 + 1) x7 [56] (fun _ _ => False) _ mixedOrders2 (by have := P_r0.out.blk.lt; omega) (Below.refl _ _) (KeptV.refl _ _ _) rfl (by kernel_rfl) (by kernel_rfl) (by kernel_rfl) (by kernel_rfl) (by kernel_rfl) (by kernel_rfl) (by kernel_rfl) (by kernel_rfl) rfl (by simp [oldsF]) ?_ ?_ ?_ ?_
  · simp only [StableF, and_true]
    exact ⟨fun u V V' h k => h.kept k (by decide), fun u V V' h k => h.kept k (by decide), fun u V V' h k => h.kept k (by decide)⟩
  · simp only [OldsF, and_true]
    exact ⟨Nat.le_refl _, P_r0.out.blk.lt, P_r0.out.blk, by simp⟩
  · simp (maxSteps := 4000000) [StepsF, DepF, freeAct, fill, pairs]
    repeat' (first | apply And.intro | (intro (u : Value)) | (intro (u : Nat)))
    all_goals try exact ⟨_, _, _, rfl, rfl, rfl, rfl, fracInfo⟩
    all_goals first
    | (intro V hV hK
       obtain ⟨-, a_q, b_q, -, -⟩ := (Pair.mk (hK.blk V_q.out.pair.blk (by decide))).facts
       obtain ⟨-, a_p, b_p, -, -⟩ := (Pair.mk (hK.blk V_p.out.pair.blk (by decide))).facts
       have rq := Hd (O_q.out.kept hK (by decide)).rawAt
       have rp := Hd (O_p.out.kept hK (by decide)).rawAt
       clear hV hK
       go_simp
       first
       | exact Below.refl _ _
       | ((with_reducible refine (rturned q q' A2 c2 V rq.out (by omega) HN1.out).mono ?_); rintro e w' ⟨v, rfl, hv, hb⟩; exact ⟨hv.base (Nat.zero_le _), hb⟩)
       | ((with_reducible refine (rturned p p' A4 c4 V rp.out (by omega) HN2.out).mono ?_); rintro e w' ⟨v, rfl, hv, hb⟩; exact ⟨hv.base (Nat.zero_le _), hb⟩))
    | (intro V hV hK h1 h2
       obtain ⟨A6, c6, rfl, -⟩ := h1.raw
       obtain ⟨A7, c7, rfl, -⟩ := h2.raw
       clear hV hK
       go_simp
       exact ⟨⟨_, _, _, _, rfl, h1, h2⟩, Below.refl _ _⟩)
    | exact fun _ _ _ (h : FracIn _ _ _ _ _) => h.cells
  · simp [EndF, FactsF, freeAct, fill, pairs]
    intro u1 u2 u3 V hV hK h1 h2 h3 bq _ _ _
    have HF := Hd h3
    obtain ⟨A6, c6, A7, c7, rfl, -⟩ := h3.form
    simp [setAll, Value.cells] at bq
    have k0 := bq.cell 0
    have k1 := bq.cell 1
    have k2 := bq.cell 2
    have k3 := bq.cell 3
    simp at k0 k1 k2 k3
    have HB9 := Hd (HBW.out.trans (hV.mono (by omega)))
    clear h1 h2 h3 hV hK bq
    go_wp2_with fail
    exact bodyPost_ret (by simp [results, Tryz.results175, go_sem, k0, k1, k2, k3]) rfl ⟨.agg #[.bool (decide (q' < 0)), .slice A6 (natL q'.natAbs).length c6, .bool (decide (p' < 0)), .slice A7 (natL p'.natAbs).length c7], rfl, by rw [HLN.out.1, HLN.out.2]; exact HF.out, HB9.out⟩

theorem rlow_pos (n d : Int) (A B : Option Addr) (c e0 : Nat) (w : World) (h_n : Raw w A c (natL n.natAbs)) (h_d : Raw w B e0 (natL d.natAbs)) (hn : lz n ≤ 30000) (hd : lz d ≤ 30000) (hd0 : d ≠ 0) (hs0 : ¬ d < 0) :
    Calls Tryz.prog 175 #[.agg #[.bool (decide (n < 0)), .slice A (natL n.natAbs).length c], .agg #[.bool (decide (d < 0)), .slice B (natL d.natAbs).length e0]] w (RetFracIn w (lowN n d) (lowD n d)) := by
  obtain ⟨g, hg⟩ : ∃ k : Int, k = gcdZ n d := ⟨_, rfl⟩
  obtain ⟨q, hq⟩ : ∃ k : Int, k = n.tdiv g := ⟨_, rfl⟩
  obtain ⟨r, hr⟩ : ∃ k : Int, k = n.tmod g := ⟨_, rfl⟩
  obtain ⟨p, hp⟩ : ∃ k : Int, k = d.tdiv g := ⟨_, rfl⟩
  obtain ⟨s, hs⟩ : ∃ k : Int, k = d.tmod g := ⟨_, rfl⟩
  obtain ⟨q', hq'⟩ : ∃ k : Int, k = -q := ⟨_, rfl⟩
  obtain ⟨p', hp'⟩ : ∃ k : Int, k = -p := ⟨_, rfl⟩
  have hgp := gcdZ_pos (n := n) hd0
  have hgl := gcdZ_lz (n := n) hd0
  rw [← hg] at hgp hgl
  have hql : lz q ≤ lz n := by rw [hq]; exact tdiv_lz n g
  have hpl : lz p ≤ lz d := by rw [hp]; exact tdiv_lz d g
  have hps : p.sign = d.sign := by rw [hp, hg]; exact tdiv_sign hd0
  obtain ⟨sg, hsg⟩ : ∃ k : Int, k = p.sign := ⟨_, rfl⟩
  have HSG := Hd hsg
  have HSN := Hd (show decide (sg < 0) = false from by
    rw [hsg, hps]
    exact decide_eq_false (by have := sign_cases d; omega))
  have HG := Hd hg
  have HG0 := Hd (show g ≠ 0 from by omega)
  have HQ := Hd (And.intro hq hr)
  have HP := Hd (And.intro hp hs)
  have HN1 := Hd hq'
  have HN2 := Hd hp'
  have HLN := Hd (show lowN n d = q ∧ lowD n d = p from by
    unfold lowN lowD
    rw [if_neg hs0, if_neg hs0, ← hg, ← hq, ← hp]
    exact ⟨rfl, rfl⟩)
  clear hg hq hr hp hs hq' hp' hs0 hsg hps hd0
  have b0 := ((((Below.refl w.heap.size w).alloc (Nat.le_refl _) (.cells #[.bool (decide (n < 0)), .slice A (natL n.natAbs).length c] 24)).alloc (by simp) (.cells #[.bool (decide (d < 0)), .slice B (natL d.natAbs).length e0] 24)).alloc (by simp; omega) (.cells #[.bool false, .slice none 0 0, .bool false, .slice none 0 0] 56))
  have p0 := ((Pair.new w 24 (.bool (decide (n < 0))) (.slice A (natL n.natAbs).length c)).alloc (.cells #[.bool (decide (d < 0)), .slice B (natL d.natAbs).length e0] 24)).alloc (.cells #[.bool false, .slice none 0 0, .bool false, .slice none 0 0] 56)
  have p1 := (Pair.new (w.alloc (.cells #[.bool (decide (n < 0)), .slice A (natL n.natAbs).length c] 24)) 24 (.bool (decide (d < 0))) (.slice B (natL d.natAbs).length e0)).alloc (.cells #[.bool false, .slice none 0 0, .bool false, .slice none 0 0] 56)
  have p2 := Quad.new ((w.alloc (.cells #[.bool (decide (n < 0)), .slice A (natL n.natAbs).length c] 24)).alloc (.cells #[.bool (decide (d < 0)), .slice B (natL d.natAbs).length e0] 24)) (.bool false) (.slice none 0 0) (.bool false) (.slice none 0 0)
  simp only [World.size_alloc] at p1 p2
  have V_n := Hd (NV.of h_n b0 p0)
  have V_d := Hd (NV.of h_d b0 p1)
  have P_r0 := Hd p2
  have RW_n := Hd h_n
  have RW_d := Hd h_d
  have HBW := Hd b0
  clear b0 p0 p1 p2 h_n h_d
  go_enter Tryz.func175, Tryz.ntmps175
  obtain ⟨W, E⟩ : ∃ W, W = (((w.alloc (.cells #[.bool (decide (n < 0)), .slice A (natL n.natAbs).length c] 24)).alloc (.cells #[.bool (decide (d < 0)), .slice B (natL d.natAbs).length e0] 24)).alloc (.cells #[.bool false, .slice none 0 0, .bool false, .slice none 0 0] 56)) := ⟨_, rfl⟩
  go_upto_region 1 with fail
  rw [← E] at V_n V_d P_r0 HBW ⊢
  clear E
  have hsz := P_r0.out.blk.lt
  obtain ⟨l_n, a_n, b_n, -, -⟩ := V_n.out.pair.facts
  obtain ⟨l_d, a_d, b_d, -, -⟩ := V_d.out.pair.facts
  go_wp2_with fail
  refine (common02 n d A B c e0 W V_n.out.raw V_d.out.raw (by omega) (by omega)).mono ?_
  rintro e x1 ⟨v, rfl, hI, hb⟩
  rw [← HG.out] at hI
  obtain ⟨A1, c1, rfl, r1⟩ := hI.form
  clear hI
  clear l_n a_n b_n l_d a_d b_d
  have V_n := Hd (V_n.out.below hb)
  have V_d := Hd (V_d.out.below hb)
  have P_r0 := Hd (P_r0.out.below hb)
  have HBW := Hd (belowTo HBW.out hb)
  have R_g := Hd r1
  clear hb r1
  go_upto_region 2 with fail
  have ha := ((Below.refl x1.heap.size x1).alloc (Nat.le_refl _) (.cells #[.bool (decide (g < 0)), .slice A1 (natL g.natAbs).length c1] 24))
  have p_g := (Pair.new x1 24 (.bool (decide (g < 0))) (.slice A1 (natL g.natAbs).length c1))
  obtain ⟨y2, E⟩ : ∃ W, W = (x1.alloc (.cells #[.bool (decide (g < 0)), .slice A1 (natL g.natAbs).length c1] 24)) := ⟨_, rfl⟩
  rw [← E] at ha p_g ⊢
  have V_g := Hd (NV.of R_g.out ha p_g)
  have V_n := Hd (V_n.out.below ha)
  have V_d := Hd (V_d.out.below ha)
  have P_r0 := Hd (P_r0.out.below ha)
  have HBW := Hd (belowTo HBW.out ha)
  obtain ⟨g2, hg⟩ : ∃ g, g = x1.heap.size := ⟨_, rfl⟩
  rw [← hg] at V_g ⊢
  clear E ha hg p_g
  obtain ⟨l_n, a_n, b_n, -, -⟩ := V_n.out.pair.facts
  obtain ⟨l_g, a_g, b_g, -, -⟩ := V_g.out.pair.facts
  go_wp2_with fail
  refine (rdivide n g q r A A1 c c1 y2 V_n.out.raw V_g.out.raw (by omega) (by omega) HG0.out HQ.out.1 HQ.out.2).mono ?_
  rintro e x3 ⟨v1, v2, rfl, hI1, hI2, hb⟩
  obtain ⟨A2, c2, rfl, r2⟩ := hI1.raw
  obtain ⟨A3, c3, rfl, r3⟩ := hI2.raw
  clear l_n a_n b_n l_g a_g b_g
  have V_n := Hd (V_n.out.below hb)
  have V_d := Hd (V_d.out.below hb)
  have V_g := Hd (V_g.out.below hb)
  have P_r0 := Hd (P_r0.out.below hb)
  have HBW := Hd (belowTo HBW.out hb)
  have R_q := Hd r2
  have R_rm := Hd r3
  have O_q := Hd (hI1.base (Nat.zero_le _))
  clear hb hI1 hI2 r2 r3
  go_upto_region 3 with fail
  have ha := (((Below.refl x3.heap.size x3).alloc (Nat.le_refl _) (.cells #[.bool (decide (q < 0)), .slice A2 (natL q.natAbs).length c2] 24)).alloc (by simp) (.cells #[.bool (decide (r < 0)), .slice A3 (natL r.natAbs).length c3] 24))
  have p_q := ((Pair.new x3 24 (.bool (decide (q < 0))) (.slice A2 (natL q.natAbs).length c2)).alloc (.cells #[.bool (decide (r < 0)), .slice A3 (natL r.natAbs).length c3] 24))
  have p_rm := (Pair.new (x3.alloc (.cells #[.bool (decide (q < 0)), .slice A2 (natL q.natAbs).length c2] 24)) 24 (.bool (decide (r < 0))) (.slice A3 (natL r.natAbs).length c3))
  simp only [World.size_alloc] at p_rm
  obtain ⟨y4, E⟩ : ∃ W, W = ((x3.alloc (.cells #[.bool (decide (q < 0)), .slice A2 (natL q.natAbs).length c2] 24)).alloc (.cells #[.bool (decide (r < 0)), .slice A3 (natL r.natAbs).length c3] 24)) := ⟨_, rfl⟩
  rw [← E] at ha p_q p_rm ⊢
  have V_q := Hd (NV.of R_q.out ha p_q)
  have V_rm := Hd (NV.of R_rm.out ha p_rm)
  have V_n := Hd (V_n.out.below ha)
  have V_d := Hd (V_d.out.below ha)
  have V_g := Hd (V_g.out.below ha)
  have P_r0 := Hd (P_r0.out.below ha)
  have O_q := Hd (O_q.out.below ha)
  have HBW := Hd (belowTo HBW.out ha)
  obtain ⟨g4, hg⟩ : ∃ g, g = x3.heap.size := ⟨_, rfl⟩
  rw [← hg] at V_q V_rm ⊢
  clear E ha hg p_q p_rm
  clear V_rm
  obtain ⟨l_d, a_d, b_d, -, -⟩ := V_d.out.pair.facts
  obtain ⟨l_g, a_g, b_g, -, -⟩ := V_g.out.pair.facts
  go_wp2_with fail
  refine (rdivide d g p s B A1 e0 c1 y4 V_d.out.raw V_g.out.raw (by omega) (by omega) HG0.out HP.out.1 HP.out.2).mono ?_
  rintro e x5 ⟨v1, v2, rfl, hI1, hI2, hb⟩
  obtain ⟨A4, c4, rfl, r2⟩ := hI1.raw
  obtain ⟨A5, c5, rfl, r3⟩ := hI2.raw
  clear l_d a_d b_d l_g a_g b_g
  have V_n := Hd (V_n.out.below hb)
  have V_d := Hd (V_d.out.below hb)
  have V_g := Hd (V_g.out.below hb)
  have V_q := Hd (V_q.out.below hb)
  have P_r0 := Hd (P_r0.out.below hb)
  have O_q := Hd (O_q.out.below hb)
  have HBW := Hd (belowTo HBW.out hb)
  have R_p := Hd r2
  have R_sm := Hd r3
  have O_p := Hd (hI1.base (Nat.zero_le _))
  clear hb hI1 hI2 r2 r3
  go_upto_region 4 with fail
  have ha := (((Below.refl x5.heap.size x5).alloc (Nat.le_refl _) (.cells #[.bool (decide (p < 0)), .slice A4 (natL p.natAbs).length c4] 24)).alloc (by simp) (.cells #[.bool (decide (s < 0)), .slice A5 (natL s.natAbs).length c5] 24))
  have p_p := ((Pair.new x5 24 (.bool (decide (p < 0))) (.slice A4 (natL p.natAbs).length c4)).alloc (.cells #[.bool (decide (s < 0)), .slice A5 (natL s.natAbs).length c5] 24))
  have p_sm := (Pair.new (x5.alloc (.cells #[.bool (decide (p < 0)), .slice A4 (natL p.natAbs).length c4] 24)) 24 (.bool (decide (s < 0))) (.slice A5 (natL s.natAbs).length c5))
  simp only [World.size_alloc] at p_sm
  obtain ⟨y6, E⟩ : ∃ W, W = ((x5.alloc (.cells #[.bool (decide (p < 0)), .slice A4 (natL p.natAbs).length c4] 24)).alloc (.cells #[.bool (decide (s < 0)), .slice A5 (natL s.natAbs).length c5] 24)) := ⟨_, rfl⟩
  rw [← E] at ha p_p p_sm ⊢
  have V_p := Hd (NV.of R_p.out ha p_p)
  have V_sm := Hd (NV.of R_sm.out ha p_sm)
  have V_n := Hd (V_n.out.below ha)
  have V_d := Hd (V_d.out.below ha)
  have V_g := Hd (V_g.out.below ha)
  have V_q := Hd (V_q.out.below ha)
  have P_r0 := Hd (P_r0.out.below ha)
  have O_q := Hd (O_q.out.below ha)
  have O_p := Hd (O_p.out.below ha)
  have HBW := Hd (belowTo HBW.out ha)
  obtain ⟨g6, hg⟩ : ∃ g, g = x5.heap.size := ⟨_, rfl⟩
  rw [← hg] at V_p V_sm ⊢
  clear E ha hg p_p p_sm
  clear V_sm
  have hsn := HSN.out
  obtain ⟨l_p, a_p, b_p, -, -⟩ := V_p.out.pair.facts
  go_wp2_with fail
  refine (rsign p sg A4 c4 y6 V_p.out.raw HSG.out).mono ?_
  rintro e x7 ⟨rfl, hb⟩
  clear l_p a_p b_p
  have V_n := Hd (V_n.out.below hb)
  have V_d := Hd (V_d.out.below hb)
  have V_g := Hd (V_g.out.below hb)
  have V_q := Hd (V_q.out.below hb)
  have V_p := Hd (V_p.out.below hb)
  have P_r0 := Hd (P_r0.out.below hb)
  have O_q := Hd (O_q.out.below hb)
  have O_p := Hd (O_p.out.below hb)
  have HBW := Hd (belowTo HBW.out hb)
  clear hb
  go_upto_region 6 with fail
  clear hsn
  obtain ⟨l_q, a_q, b_q, -, -⟩ := V_q.out.pair.facts
  obtain ⟨l_p, a_p, b_p, -, -⟩ := V_p.out.pair.facts
  obtain ⟨l_r, c_r0, c_r1, c_r2, c_r3, f_r0, f_r1, f_r2, f_r3⟩ := P_r0.out.facts
  have HQ9 := Hd (P_r0.out.store (.bool (decide (q < 0))) (.slice A2 (natL q.natAbs).length c2) (.bool (decide (p < 0))) (.slice A4 (natL p.natAbs).length c4))
  have HB9 := Hd (below4 HBW.out (show w.heap.size ≤ w.heap.size + 1 + 1 by omega) (.bool (decide (q < 0))) (.slice A2 (natL q.natAbs).length c2) (.bool (decide (p < 0))) (.slice A4 (natL p.natAbs).length c4))
  have HF := Hd (show FracIn ((((x7.setCell ⟨w.heap.size + 1 + 1, 0, none⟩ (.bool (decide (q < 0)))).setCell ⟨w.heap.size + 1 + 1, 1, none⟩ (.slice A2 (natL q.natAbs).length c2)).setCell ⟨w.heap.size + 1 + 1, 2, none⟩ (.bool (decide (p < 0)))).setCell ⟨w.heap.size + 1 + 1, 3, none⟩ (.slice A4 (natL p.natAbs).length c4)) 0 (.agg #[.bool (decide (q < 0)), .slice A2 (natL q.natAbs).length c2, .bool (decide (p < 0)), .slice A4 (natL p.natAbs).length c4]) q p from ⟨_, _, _, _, rfl, O_q.out.quad P_r0.out _ _ _ _, O_p.out.quad P_r0.out _ _ _ _⟩)
  go_wp2_with fail
  obtain ⟨_, k0, k1, k2, k3, _⟩ := HQ9.out.facts
  exact bodyPost_ret (by simp [results, Tryz.results175, go_sem, k0, k1, k2, k3]) rfl ⟨.agg #[.bool (decide (q < 0)), .slice A2 (natL q.natAbs).length c2, .bool (decide (p < 0)), .slice A4 (natL p.natAbs).length c4], rfl, by rw [HLN.out.1, HLN.out.2]; exact HF.out, HB9.out⟩

theorem rlow (n d : Int) (A B : Option Addr) (c e0 : Nat) (w : World) (h : Raw w A c (natL n.natAbs)) (g : Raw w B e0 (natL d.natAbs)) (hn : lz n ≤ 30000) (hd : lz d ≤ 30000) (hd0 : d ≠ 0) :
    Calls Tryz.prog 175 #[.agg #[.bool (decide (n < 0)), .slice A (natL n.natAbs).length c], .agg #[.bool (decide (d < 0)), .slice B (natL d.natAbs).length e0]] w (RetFracIn w (lowN n d) (lowD n d)) := by
  by_cases hs : d < 0
  · exact rlow_neg n d A B c e0 w h g hn hd hd0 hs
  · exact rlow_pos n d A B c e0 w h g hn hd hd0 hs
end Go.Proofs.YtkncbenhfcpgkaaGreatDoor
