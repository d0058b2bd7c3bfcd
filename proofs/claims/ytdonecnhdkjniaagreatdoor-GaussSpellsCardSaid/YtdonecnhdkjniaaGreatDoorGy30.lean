/- Several texts in one: RefDecLaw, ReadLaw, ReadZ, ReadBack, ReadF. -/
import Derived.Lib.Atoi
import Derived.Lib.RabinKarpLaws
import Derived.Lib.Itoa
import Derived.Lib.ItoaMem
import Derived.Test.YtdonecnhdkjniaaGreatDoorGy22
set_option maxRecDepth 100000
set_option maxHeartbeats 8000000
namespace Go.Proofs.YtdonecnhdkjniaaGreatDoor

def ldig : Nat -> Nat -> List UInt8
 | 0, _ => []
 | k + 1, c => UInt8.ofNat (48 + c % 10) :: ldig k (c / 10)
def lchunks (cs : List Nat) : List UInt8 := cs.flatMap fun c => ldig 9 c
theorem dec_head : ∀ (v : Nat), v ≠ 0 -> ∃ d r, Lib.decDigits v = d :: r /\ d ≠ 48 := by
 intro v
 induction v using Nat.strongRecOn with
 | ind v ih =>
  intro h
  rcases Nat.lt_or_ge v 10 with h1 | h1
  . refine ⟨UInt8.ofNat (48 + v), [], Lib.decDigits_one h1, fun e => ?_⟩
    have := congrArg UInt8.toNat e
    simp at this
    omega
  . obtain ⟨d, r, e, hd⟩ := ih (v / 10) (by omega) (by omega)
    exact ⟨d, r ++ [UInt8.ofNat (48 + v % 10)], by rw [Jq h1, e]; rfl, hd⟩
def turned8 (xs : List UInt8) (i : Nat) : List UInt8 := (xs.reverse.take i) ++ ((xs.drop i).take (xs.length - 2 * i)) ++ (xs.reverse.drop (xs.length - i))

theorem YM : ∀ (a b : List UInt8) (acc : Nat), Lib.decFrom acc (a ++ b) = (Lib.decFrom acc a).bind fun n => Lib.decFrom n b
 | [], b, acc => rfl
 | c :: a, b, acc => by
  simp only [List.cons_append, Lib.decFrom]
  cases h : Lib.digitVal c with
  | none => simp
  | some d => simpa using YM a b (acc * 10 + d)
theorem Jf : ∀ (l : List UInt8) (acc : Nat), Lib.decFrom acc l = (Lib.decFrom 0 l).map fun v => acc * 10 ^ l.length + v
 | [], acc => by simp [Lib.decFrom]
 | c :: l, acc => by
  simp only [Lib.decFrom]
  cases h : Lib.digitVal c with
  | none => simp
  | some d =>
   show Lib.decFrom (acc * 10 + d) l = Option.map _ (Lib.decFrom (0 * 10 + d) l)
   rw [Jf l (acc * 10 + d), Jf l (0 * 10 + d)]
   cases Lib.decFrom 0 l with
   | none => rfl
   | some v =>
    simp [List.length_cons, Nat.pow_succ]
    rw [Nat.add_mul, Nat.mul_assoc, Nat.mul_comm 10 (10 ^ l.length)]
    omega
theorem digitVal_digit {d : Nat} (h : d < 10) : Lib.digitVal (UInt8.ofNat (48 + d)) = some d := by
 have e : (UInt8.ofNat (48 + d)).toNat = 48 + d := by simp; omega
 unfold Lib.digitVal
 rw [e, if_pos (by omega)]
 congr 1
 omega
theorem X2 : ∀ (v : Nat), Lib.decFrom 0 (Lib.decDigits v) = some v := by
 intro v
 induction v using Nat.strongRecOn with
 | ind v ih =>
  rcases Nat.lt_or_ge v 10 with h | h
  . rw [Lib.decDigits_one h]
    simp only [Lib.decFrom]
    rw [digitVal_digit h]
    simp
  . rw [Jq h, YM, ih (v / 10) (by omega)]
    simp only [Option.bind_some, Lib.decFrom]
    rw [digitVal_digit (show v % 10 < 10 by omega)]
    simp
    omega
theorem digits_read : ∀ (n : Nat) (l : List UInt8), l.length = n -> ∀ v, Lib.decFrom 0 l = some v -> l ≠ [] -> (l.head? ≠ some 48 ∨ l = [48]) -> Lib.decDigits v = l := by
 intro n
 induction n with
 | zero => intro l hl v _ hne; exact absurd (List.eq_nil_of_length_eq_zero hl) hne
 | succ n ih =>
  intro l hl v hv hne hh
  obtain ⟨a, c, rfl⟩ : ∃ a c, l = a ++ [c] := ⟨l.dropLast, l.getLast hne, (List.dropLast_concat_getLast hne).symm⟩
  rw [YM] at hv
  cases ha : Lib.decFrom 0 a with
  | none => rw [ha] at hv; simp at hv
  | some u =>
   rw [ha] at hv
   simp only [Option.bind_some, Lib.decFrom] at hv
   cases hd : Lib.digitVal c with
   | none => rw [hd] at hv; simp at hv
   | some d =>
    rw [hd] at hv
    simp at hv
    obtain ⟨d1, d2, d3⟩ := Lib.digitVal_eq hd
    have ec : c = UInt8.ofNat (48 + d) := by
      apply UInt8.toNat_inj.1
      simp
      omega
    by_cases hae : a = []
    . subst hae
      simp [Lib.decFrom] at ha
      subst ha
      rw [show v = d by omega, Lib.decDigits_one (by omega), ec]
      rfl
    . have hu : u ≠ 0 := by
       intro e
       have := ih a (by simpa using hl) u ha hae (.inl (by
         intro e2
         rcases hh with h | h
         . apply h
           cases a with
           | nil => exact absurd rfl hae
           | cons x a => simpa using e2
         . have := congrArg List.length h
           simp at this
           exact hae this))
       rw [e, Lib.decDigits_one (by omega)] at this
       rcases hh with h | h
       . apply h
         rw [<- this]
         rfl
       . have := congrArg List.length h
         simp at this
         exact hae this
      have hda := ih a (by simpa using hl) u ha hae (.inl (by
         intro e2
         rcases hh with h | h
         . apply h
           cases a with
           | nil => exact absurd rfl hae
           | cons x a => simpa using e2
         . have := congrArg List.length h
           simp at this
           exact hae this))
      rw [<- hv, Jq (by omega), show (u * 10 + d) / 10 = u by omega, show (u * 10 + d) % 10 = d by omega, hda, ec]

def badD (D : List UInt8) (neg : Bool) : Bool := D.isEmpty || (D.head? == some 48 && (decide (1 < D.length) || neg))
def XQ (D : List UInt8) (neg : Bool) : Option Nat := if badD D neg then none else Lib.decFrom 0 D
def Xo (s : List UInt8) : Bool := s.head? == some 45
def Yq (s : List UInt8) : List UInt8 := if Xo s then s.tail else s
def Xm (s : List UInt8) : Option Int := (XQ (Yq s) (Xo s)).map fun n => if Xo s then -(n : Int) else n
theorem decFrom_none {l : List UInt8} {i : Nat} {b : UInt8} (h : l[i]? = some b) (hd : Lib.digitVal b = none) (acc : Nat) : Lib.decFrom acc l = none := by
 cases h2 : Lib.decFrom acc l with
 | none => rfl
 | some n =>
  obtain ⟨m, hm⟩ := Lib.decFrom_prefix l acc n h2 (i + 1)
  rw [List.take_add_one, h, Option.toList_some, YM] at hm
  cases h3 : Lib.decFrom acc (l.take i) with
  | none => rw [h3] at hm; cases hm
  | some k => rw [h3] at hm; simp [Lib.decFrom, hd] at hm
theorem Je {b : UInt8} (h : b.toNat < 48 ∨ 57 < b.toNat) : Lib.digitVal b = none := by
 unfold Lib.digitVal
 rw [if_neg (by omega)]
theorem digitVal_some {b : UInt8} (h1 : 48 <= b.toNat) (h2 : b.toNat <= 57) : Lib.digitVal b = some (b.toNat - 48) := by
 unfold Lib.digitVal
 rw [if_pos ⟨h1, h2⟩]
theorem decFrom_join {a b : List UInt8} {v p : Nat} (ha : Lib.decFrom 0 a = some v) (hb : Lib.decFrom 0 b = some p) : Lib.decFrom 0 (a ++ b) = some (v * 10 ^ b.length + p) := by
 rw [YM, ha]
 show Lib.decFrom v b = _
 rw [Jf, hb]
 rfl

theorem dec_ne (n : Nat) : Lib.decDigits n ≠ [] := fun e => by
 have h := X2 n
 rcases Nat.eq_zero_or_pos n with h0 | h0
 . subst h0; rw [Lib.decDigits_one (by omega)] at e; cases e
 . obtain ⟨d, r, h1, -⟩ := dec_head n (by omega)
   rw [h1] at e; cases e
theorem dec_first (n : Nat) : (Lib.decDigits n).head? ≠ some 48 ∨ Lib.decDigits n = [48] := by
 rcases Nat.eq_zero_or_pos n with h0 | h0
 . subst h0; exact .inr (Lib.decDigits_one (by omega))
 . obtain ⟨d, r, h1, h2⟩ := dec_head n (by omega)
   rw [h1]
   exact .inl (by simpa using h2)
theorem X8 (n : Nat) {b : UInt8} (h : b ∈ Lib.decDigits n) : 48 <= b.toNat /\ b.toNat <= 57 := by
 obtain ⟨i, hi, e⟩ := List.mem_iff_getElem.1 h
 refine Decidable.byContradiction fun hn => ?_
 have h2 := X2 n
 rw [decFrom_none (i := i) (b := b) (by rw [List.getElem?_eq_getElem hi, e]) (Je (by omega))] at h2
 cases h2
theorem readN_dec (n : Nat) (neg : Bool) (h : neg = true -> n ≠ 0) : XQ (Lib.decDigits n) neg = some n := by
 unfold XQ
 have hb : badD (Lib.decDigits n) neg = false := by
  unfold badD
  have h1 : (Lib.decDigits n).isEmpty = false := by
    cases hd : Lib.decDigits n with
    | nil => exact absurd hd (dec_ne n)
    | cons _ _ => rfl
  rw [h1, Bool.false_or]
  rcases dec_first n with h2 | h2
  . rw [beq_eq_false_iff_ne.2 h2]; rfl
  . rw [h2]
    cases neg with
    | false => rfl
    | true =>
     exfalso
     have h3 := X2 n
     rw [h2] at h3
     have h4 : Lib.decFrom 0 [48] = some 0 := by decide
     rw [h4] at h3
     exact h rfl (Option.some.inj h3).symm
 rw [hb, if_neg Bool.false_ne_true, X2]
theorem readZ_itoa (x : Int) : Xm (Lib.itoa x) = some x := by
 unfold Xm
 by_cases hx : x < 0
 . have e : Lib.itoa x = 45 :: Lib.decDigits x.natAbs := by unfold Lib.itoa; rw [if_pos hx]
   have h1 : Xo (Lib.itoa x) = true := by rw [e]; rfl
   have h2 : Yq (Lib.itoa x) = Lib.decDigits x.natAbs := by unfold Yq; rw [h1, e]; rfl
   rw [h1, h2, readN_dec _ _ (by intro _; omega)]
   show some (if true = true then -((x.natAbs : Nat) : Int) else ((x.natAbs : Nat) : Int)) = some x
   rw [if_pos rfl, show -((x.natAbs : Nat) : Int) = x by omega]
 . have e : Lib.itoa x = Lib.decDigits x.toNat := by unfold Lib.itoa; rw [if_neg hx]
   have h1 : Xo (Lib.itoa x) = false := by
    rw [e]
    unfold Xo
    cases hd : Lib.decDigits x.toNat with
    | nil => rfl
    | cons b r =>
     have := X8 x.toNat (b := b) (by rw [hd]; simp)
     show (some b == some (45 : UInt8)) = false
     rw [beq_eq_false_iff_ne]
     intro h3
     injection h3 with h3
     rw [h3] at this
     exact absurd this.1 (by decide)
   have h2 : Yq (Lib.itoa x) = Lib.decDigits x.toNat := by unfold Yq; rw [h1, e]; rfl
   rw [h1, h2, readN_dec _ _ (by intro h; cases h)]
   show some (if false = true then -((x.toNat : Nat) : Int) else ((x.toNat : Nat) : Int)) = some x
   rw [if_neg Bool.false_ne_true, show ((x.toNat : Nat) : Int) = x by omega]
theorem itoa_readZ {s : List UInt8} {z : Int} (h : Xm s = some z) : Lib.itoa z = s := by
 unfold Xm at h
 cases hn : XQ (Yq s) (Xo s) with
 | none => rw [hn] at h; cases h
 | some n =>
  rw [hn] at h
  have hz : (if Xo s then -(n : Int) else n) = z := Option.some.inj h
  unfold XQ at hn
  cases hb : badD (Yq s) (Xo s) with
  | true => rw [hb] at hn; cases hn
  | false =>
   rw [hb, if_neg Bool.false_ne_true] at hn
   have hne : Yq s ≠ [] := fun e => by rw [e] at hb; cases hb
   have hb2 : ((Yq s).head? == some 48 && (decide (1 < (Yq s).length) || Xo s)) = false := by
    unfold badD at hb
    exact (Bool.or_eq_false_iff.1 hb).2
   have hfirst : (Yq s).head? ≠ some 48 ∨ Yq s = [48] := by
    by_cases h1 : (Yq s).head? = some 48
    . right
      rw [h1] at hb2
      have h2 : (decide (1 < (Yq s).length) || Xo s) = false := hb2
      have h3 := of_decide_eq_false (Bool.or_eq_false_iff.1 h2).1
      cases ht : Yq s with
      | nil => exact absurd ht hne
      | cons b r =>
        rw [ht] at h1 h3
        cases r with
        | nil => simp at h1; rw [h1]
        | cons _ _ => simp at h3
    . exact .inl h1
   have hd := digits_read _ _ rfl n hn hne hfirst
   cases hg : Xo s with
   | false =>
    have hs : Yq s = s := by unfold Yq; rw [hg]; rfl
    rw [hg, if_neg Bool.false_ne_true] at hz
    rw [<- hz, Lib.itoa_nonneg, hd, hs]
   | true =>
    have hs : 45 :: Yq s = s := by
      unfold Yq
      rw [hg]
      unfold Xo at hg
      cases s with
      | nil => cases hg
      | cons b r =>
        simp at hg
        rw [hg]; rfl
    rw [hg] at hz
    simp only [if_true] at hz
    have hn0 : 0 < n := by
      rcases Nat.eq_zero_or_pos n with h0 | h0
      . exfalso
        rw [h0, Lib.decDigits_one (by omega)] at hd
        rw [<- hd, hg] at hb2
        exact absurd hb2 (by decide)
      . exact h0
    rw [<- hz, Lib.itoa_neg _ hn0, hd, hs]

def Z5 (s : List UInt8) : List UInt8 := s.takeWhile (· ≠ 47)
def Y4 (s : List UInt8) : List UInt8 := s.drop ((Z5 s).length + 1)
def ZT (s : List UInt8) : Option (Int × Int) := match Xm (Z5 s) with
 | none => none
 | some n => if 47 ∈ s then (match Xm (Y4 s) with
   | none => none
   | some d => if 0 < d /\ d ≠ 1 /\ ZK n d = 1 then some (n, d) else none)
  else some (n, 1)
theorem front_all : ∀ {s : List UInt8}, (47 : UInt8) ∉ s -> Z5 s = s
 | [], _ => rfl
 | x :: r, h => by
  have hx : x ≠ 47 := fun e => h (by rw [e]; exact List.mem_cons_self ..)
  unfold Z5
  rw [List.takeWhile_cons, if_pos (by simpa using hx)]
  exact congrArg (x :: ·) (front_all fun k => h (List.mem_cons_of_mem _ k))
theorem front_app {a b : List UInt8} (h : (47 : UInt8) ∉ a) : Z5 (a ++ 47 :: b) = a := by
 unfold Z5
 induction a with
 | nil => rfl
 | cons x r ih =>
  have hx : x ≠ 47 := fun e => h (by rw [e]; exact List.mem_cons_self ..)
  rw [List.cons_append, List.takeWhile_cons, if_pos (by simpa using hx), ih fun k => h (List.mem_cons_of_mem _ k)]
theorem back_app {a b : List UInt8} (h : (47 : UInt8) ∉ a) : Y4 (a ++ 47 :: b) = b := by
 unfold Y4
 rw [front_app h]
 simp
theorem XE : ∀ {s : List UInt8}, (47 : UInt8) ∈ s -> s = Z5 s ++ 47 :: Y4 s
 | [], h => by cases h
 | x :: r, h => by
  by_cases hx : x = 47
  . subst hx; simp [Z5, Y4]
  . have hr : (47 : UInt8) ∈ r := (List.mem_cons.1 h).resolve_left fun e => hx e.symm
    have ih := XE hr
    have e1 : Z5 (x :: r) = x :: Z5 r := by unfold Z5; rw [List.takeWhile_cons, if_pos (by simpa using hx)]
    have e2 : Y4 (x :: r) = Y4 r := by unfold Y4; rw [e1]; simp
    rw [e1, e2, List.cons_append, <- ih]
theorem itoa_no (x : Int) : (47 : UInt8) ∉ Lib.itoa x := fun h => by
 unfold Lib.itoa at h
 split at h
 . rcases List.mem_cons.1 h with e | e
   . exact absurd e (by decide)
   . have := (X8 _ e).1; exact absurd this (by decide)
 . have := (X8 _ h).1; exact absurd this (by decide)
theorem YK {n d : Int} (hd : 0 < d) (hg : ZK n d = 1) : ZT (Zm n d) = some (n, d) := by
 unfold Zm ZT
 by_cases h1 : d = 1
 . rw [if_pos h1, front_all (itoa_no n), readZ_itoa]
   simp only
   rw [if_neg (itoa_no n), h1]
 . rw [if_neg h1, front_app (itoa_no n), readZ_itoa]
   simp only
   rw [if_pos (by simp), back_app (itoa_no n), readZ_itoa]
   simp only
   rw [if_pos ⟨hd, h1, hg⟩]
theorem XP {s : List UInt8} {n d : Int} (h : ZT s = some (n, d)) : Zm n d = s /\ 0 < d /\ ZK n d = 1 := by
 unfold ZT at h
 cases hz : Xm (Z5 s) with
 | none => rw [hz] at h; cases h
 | some m =>
   rw [hz] at h
   simp only at h
   by_cases hb : (47 : UInt8) ∈ s
   . rw [if_pos hb] at h
     cases hy : Xm (Y4 s) with
     | none => rw [hy] at h; cases h
     | some k =>
       rw [hy] at h
       simp only at h
       split at h
       . rename_i hk
         injection h with e
         injection e with e1 e2
         subst e1 e2
         refine ⟨?_, hk.1, hk.2.2⟩
         unfold Zm
         rw [if_neg hk.2.1, itoa_readZ hz, itoa_readZ hy, <- XE hb]
       . cases h
   . rw [if_neg hb] at h
     injection h with e
     injection e with e1 e2
     subst e1 e2
     refine ⟨?_, by omega, by unfold ZK; simp⟩
     unfold Zm
     rw [if_pos rfl, itoa_readZ hz, front_all hb]
end Go.Proofs.YtdonecnhdkjniaaGreatDoor
