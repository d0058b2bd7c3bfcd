/- Several texts in one: GOfs, RefDecLaw, ReadLaw, ReadZ, ReadBack. -/
import Derived.Test.YtdonecnhdkjniaaGreatDoorGx27
import Derived.Lib.Atoi
import Derived.Lib.RabinKarpLaws
import Derived.Lib.Itoa
import Derived.Lib.ItoaMem
set_option maxRecDepth 100000
set_option maxHeartbeats 8000000
namespace Go.Proofs.YtdonecnhdkjniaaGreatDoor
open Go.RowKit

theorem J1 (z : Int) : YX z 1 = z /\ YP z 1 = 1 := by
 have h1 := is_low z (d := 1) (by decide)
 have h2 := is_of (n := z) (d := 1) (by decide) (by unfold ZL; simp)
 exact h1.uniq h2
abbrev Of2 (F : FuncId) (z0 z1 o : Int) : Prop := ∀ V : World, Calls Tryz.prog F #[.int .i64 z0, .int .i64 z1] V (ZQ V.heap.size V z0 o z1 o)
abbrev Of2I (F : FuncId) (z0 z1 o : Int) : Prop := ∀ V : World, Calls Tryz.prog F #[.int .i64 z0, .int .i64 z1] V (RetGaussIn V z0 o z1 o)
abbrev OfR (F : FuncId) (z o : Int) : Prop := ∀ V : World, Calls Tryz.prog F #[.int .i64 z, .int .i64 1] V (Z3 V.heap.size V z o)
abbrev OfI (F : FuncId) (z o : Int) : Prop := ∀ V : World, Calls Tryz.prog F #[.int .i64 z, .int .i64 1] V (Ya V z o)

theorem argand_Small {z0 z1 o : Int} (C1 : OfR 97 z0 o) (C2 : OfR 97 z1 o) (w : World)   :
  Calls Tryz.prog 24 #[.int .i64 z0, .int .i64 z1] w (ZQ w.heap.size w z0 o z1 o) := by
 have H1 := Hd C1
 have H2 := Hd C2
 clear C1 C2
 go_enter Tryz.func24, Tryz.ntmps24
 go_upto_region 1 with fail
 refine Zp (P := fun W => Code.wp _ _ _ _ W) fun W p0 b0 => ?_
 have PR := Hd (Yl.mk p0)
 have HB := Hd b0
 clear b0 p0
 go_wp2_with fail
 refine (H1.out W).mono ?_
 rintro e wx1 ⟨v, rfl, hI, hb⟩
 obtain ⟨A6, c6, A7, c7, rfl, -⟩ := hI.form
 have I1 := Hd (hI.base HB.out.size)
 have M1 := Hd (show ∀ g, Yj (.agg #[.bool (decide (z0 < 0)), .slice A6 (Za z0.natAbs).length c6, .bool (decide (o < 0)), .slice A7 (Za o.natAbs).length c7]) g -> g < wx1.heap.size from fun g hg => (hI.mine g hg).2)
 clear hI
 have PR := Hd (PR.out.below hb)
 have HB := Hd (Zb HB.out hb)
 clear hb
 go_wp2_with fail
 refine (H2.out wx1).mono ?_
 rintro e wx2 ⟨v, rfl, hI, hb⟩
 obtain ⟨A8, c8, A9, c9, rfl, -⟩ := hI.form
 have I2 := Hd (hI.base HB.out.size)
 have AP := Hd (show ∀ g, Yj (.agg #[.bool (decide (z0 < 0)), .slice A6 (Za z0.natAbs).length c6, .bool (decide (o < 0)), .slice A7 (Za o.natAbs).length c7]) g -> ¬ Yj (.agg #[.bool (decide (z1 < 0)), .slice A8 (Za z1.natAbs).length c8, .bool (decide (o < 0)), .slice A9 (Za o.natAbs).length c9]) g from fun g hg hg2 => by have a := M1.out g hg; have b := (hI.mine g hg2).1; omega)
 clear hI
 have PR := Hd (PR.out.below hb)
 have I1 := Hd (I1.out.below hb)
 have HB := Hd (Zb HB.out hb)
 clear hb
 obtain ⟨l_r, r0, r1, r2, r3, r4, r5, r6, r7⟩ := PR.out.facts
 obtain ⟨f0, f1, f2, f3, f4, f5, f6, f7⟩ := PR.out.free
 have HQ := Hd (PR.out.store (.bool (decide (z0 < 0))) (.slice A6 (Za z0.natAbs).length c6) (.bool (decide (o < 0))) (.slice A7 (Za o.natAbs).length c7) (.bool (decide (z1 < 0))) (.slice A8 (Za z1.natAbs).length c8) (.bool (decide (o < 0))) (.slice A9 (Za o.natAbs).length c9))
 have HB9 := Hd (below8 HB.out (show w.heap.size <= w.heap.size by omega) (.bool (decide (z0 < 0))) (.slice A6 (Za z0.natAbs).length c6) (.bool (decide (o < 0))) (.slice A7 (Za o.natAbs).length c7) (.bool (decide (z1 < 0))) (.slice A8 (Za z1.natAbs).length c8) (.bool (decide (o < 0))) (.slice A9 (Za o.natAbs).length c9))
 have HF := Hd ((show Zo wx2 w.heap.size (.agg #[.bool (decide (z0 < 0)), .slice A6 (Za z0.natAbs).length c6, .bool (decide (o < 0)), .slice A7 (Za o.natAbs).length c7, .bool (decide (z1 < 0)), .slice A8 (Za z1.natAbs).length c8, .bool (decide (o < 0)), .slice A9 (Za o.natAbs).length c9]) z0 o z1 o from ⟨_, _, _, _, _, _, _, _, rfl, I1.out, I2.out, AP.out⟩).oct PR.out (by decide) (.bool (decide (z0 < 0))) (.slice A6 (Za z0.natAbs).length c6) (.bool (decide (o < 0))) (.slice A7 (Za o.natAbs).length c7) (.bool (decide (z1 < 0))) (.slice A8 (Za z1.natAbs).length c8) (.bool (decide (o < 0))) (.slice A9 (Za o.natAbs).length c9))
 go_wp2_with fail
 obtain ⟨_, k0, k1, k2, k3, k4, k5, k6, k7⟩ := HQ.out.facts
 exact bodyPost_ret (by simp [results, Tryz.results24, go_sem, k0, k1, k2, k3, k4, k5, k6, k7]) rfl ⟨_, rfl, HF.out, HB9.out⟩

theorem gauss_Of {N D M E z0 z1 : Int} (C1 : ∀ V : World, Calls Tryz.prog 24 #[.int .i64 z0, .int .i64 z1] V (ZQ V.heap.size V N D M E)) (w : World)   :
  Calls Tryz.prog 87 #[.int .i64 z0, .int .i64 z1] w (ZQ w.heap.size w N D M E) := by
 have H1 := Hd C1
 clear C1
 go_enter Tryz.func87, Tryz.ntmps87
 go_upto_region 1 with fail
 refine Zp (P := fun W => Code.wp _ _ _ _ W) fun W p0 b0 => ?_
 have PR := Hd (Yl.mk p0)
 have HB := Hd b0
 clear b0 p0
 go_wp2_with fail
 refine (H1.out W).mono ?_
 rintro e w9 ⟨v, rfl, hI, hb⟩
 obtain ⟨A6, c6, A7, c7, A8, c8, A9, c9, rfl, -⟩ := hI.form
 have pr := PR.out.below hb
 have hb9 := Zb HB.out hb
 obtain ⟨l_r, r0, r1, r2, r3, r4, r5, r6, r7⟩ := pr.facts
 obtain ⟨f0, f1, f2, f3, f4, f5, f6, f7⟩ := pr.free
 have H9 := Hd (gstore hI pr hb9 (show w.heap.size <= w.heap.size by omega) (by decide))
 clear hb hb9 pr hI
 go_wp2_with fail
 obtain ⟨_, k0, k1, k2, k3, k4, k5, k6, k7⟩ := H9.out.1.facts
 exact bodyPost_ret (by simp [results, Tryz.results87, go_sem, k0, k1, k2, k3, k4, k5, k6, k7]) rfl ⟨_, rfl, H9.out.2.2.base HB.out.size, H9.out.2.1⟩

section
variable {z0 z1 : Int} (o : Int) (ho : o = 1) (h1 : -9223372036854775808 <= z0) (h2 : z0 <= 9223372036854775807) (h3 : -9223372036854775808 <= z1) (h4 : z1 <= 9223372036854775807)
include ho h1 h2 h3 h4
theorem of_g : Of2 87 z0 z1 o := by
 subst ho
 have C1 : OfR 97 z0 1 := fun V => by have k := small_z (n := z0) (d := 1) h1 h2 (by decide) (by decide) (by decide) V; rw [(J1 z0).1, (J1 z0).2] at k; exact k
 have C2 : OfR 97 z1 1 := fun V => by have k := small_z (n := z1) (d := 1) h3 h4 (by decide) (by decide) (by decide) V; rw [(J1 z1).1, (J1 z1).2] at k; exact k
 exact gauss_Of (argand_Small C1 C2)
end
theorem gis_int (z0 z1 : Int) (h1 : -9223372036854775808 <= z0) (h2 : z0 <= 9223372036854775807) (h3 : -9223372036854775808 <= z1) (h4 : z1 <= 9223372036854775807) : GIs (z0 : Rat) (z1 : Rat) z0 1 z1 1 :=
 GIs.mk_ (is_int z0) (is_int z1) (Nat.le_trans (lz_i64 h1 h2) (by decide)) (by decide +kernel) (Nat.le_trans (lz_i64 h3 h4) (by decide)) (by decide +kernel)

def ldig : Nat -> Nat -> List UInt8
 | 0, _ => []
 | k + 1, c => UInt8.ofNat (48 + c % 10) :: ldig k (c / 10)
theorem ldig_length : ∀ (k c : Nat), (ldig k c).length = k
 | 0, _ => rfl
 | k + 1, c => by simp [ldig, ldig_length k]
theorem ldig_pad : ∀ (k c : Nat), ldig k c = (J8 k c).reverse
 | 0, _ => rfl
 | k + 1, c => by rw [ldig, J8, List.reverse_append, ldig_pad k]; rfl
theorem ldig_more (k p : Nat) (hk : 0 < k) : ldig k p = UInt8.ofNat (48 + p % 10) :: ldig (k - 1) (p / 10) := by
 obtain ⟨j, rfl⟩ : ∃ j, k = j + 1 := ⟨k - 1, by omega⟩
 rfl
def Y0 (cs : List Nat) : List UInt8 := cs.flatMap fun c => ldig 9 c
theorem lchunks_length (cs : List Nat) : (Y0 cs).length = 9 * cs.length := by
 unfold Y0
 induction cs with
 | nil => rfl
 | cons c cs ih => rw [List.flatMap_cons, List.length_append, ldig_length, ih, List.length_cons]; omega
theorem lchunks_text : ∀ (v : Nat), v ≠ 0 -> ∃ z, Y0 (XM v) = (Lib.decDigits v).reverse ++ List.replicate z 48 := by
 intro v
 induction v using Nat.strongRecOn with
 | ind v ih =>
  intro h
  rw [Xr h]
  have e0 : Y0 (v % 1000000000 :: XM (v / 1000000000)) = (J8 9 (v % 1000000000)).reverse ++ Y0 (XM (v / 1000000000)) := by
    unfold Y0
    rw [List.flatMap_cons, ldig_pad]
  rw [e0]
  by_cases h2 : v / 1000000000 = 0
  . refine ⟨9 - (Lib.decDigits v).length, ?_⟩
    rw [h2, JM, Nat.mod_eq_of_lt (by omega), pad9 v (by omega)]
    simp [Y0]
  . obtain ⟨z, hz⟩ := ih _ (by omega) h2
    refine ⟨z, ?_⟩
    rw [hz, dec_nine (v := v) (by omega), List.reverse_append, List.append_assoc]
theorem dec_head : ∀ (v : Nat), v ≠ 0 -> ∃ d r, Lib.decDigits v = d :: r /\ d ≠ 48 := by
 intro v
 induction v using Nat.strongRecOn with
 | ind v ih =>
  intro h
  rcases Nat.lt_or_ge v 10 with h1 | h1
  . refine ⟨UInt8.ofNat (48 + v), [], Lib.decDigits_one h1, fun e => ?_⟩
    have := congrArg UInt8.toNat e
    simp at this
    omega
  . obtain ⟨d, r, e, hd⟩ := ih (v / 10) (by omega) (by omega)
    exact ⟨d, r ++ [UInt8.ofNat (48 + v % 10)], by rw [Ko h1, e]; rfl, hd⟩
def turned8 (xs : List UInt8) (i : Nat) : List UInt8 := (xs.reverse.take i) ++ ((xs.drop i).take (xs.length - 2 * i)) ++ (xs.reverse.drop (xs.length - i))

theorem Xq : ∀ (a b : List UInt8) (acc : Nat), Lib.decFrom acc (a ++ b) = (Lib.decFrom acc a).bind fun n => Lib.decFrom n b
 | [], b, acc => rfl
 | c :: a, b, acc => by
  simp only [List.cons_append, Lib.decFrom]
  cases h : Lib.digitVal c with
  | none => simp
  | some d => simpa using Xq a b (acc * 10 + d)
theorem Kb : ∀ (l : List UInt8) (acc : Nat), Lib.decFrom acc l = (Lib.decFrom 0 l).map fun v => acc * 10 ^ l.length + v
 | [], acc => by simp [Lib.decFrom]
 | c :: l, acc => by
  simp only [Lib.decFrom]
  cases h : Lib.digitVal c with
  | none => simp
  | some d =>
   show Lib.decFrom (acc * 10 + d) l = Option.map _ (Lib.decFrom (0 * 10 + d) l)
   rw [Kb l (acc * 10 + d), Kb l (0 * 10 + d)]
   cases Lib.decFrom 0 l with
   | none => rfl
   | some v =>
    simp [List.length_cons, Nat.pow_succ]
    rw [Nat.add_mul, Nat.mul_assoc, Nat.mul_comm 10 (10 ^ l.length)]
    omega
theorem digitVal_digit {d : Nat} (h : d < 10) : Lib.digitVal (UInt8.ofNat (48 + d)) = some d := by
 have e : (UInt8.ofNat (48 + d)).toNat = 48 + d := by simp; omega
 unfold Lib.digitVal
 rw [e, if_pos (by omega)]
 congr 1
 omega
theorem JX : ∀ (v : Nat), Lib.decFrom 0 (Lib.decDigits v) = some v := by
 intro v
 induction v using Nat.strongRecOn with
 | ind v ih =>
  rcases Nat.lt_or_ge v 10 with h | h
  . rw [Lib.decDigits_one h]
    simp only [Lib.decFrom]
    rw [digitVal_digit h]
    simp
  . rw [Ko h, Xq, ih (v / 10) (by omega)]
    simp only [Option.bind_some, Lib.decFrom]
    rw [digitVal_digit (show v % 10 < 10 by omega)]
    simp
    omega
theorem digits_read : ∀ (n : Nat) (l : List UInt8), l.length = n -> ∀ v, Lib.decFrom 0 l = some v -> l ≠ [] -> (l.head? ≠ some 48 ∨ l = [48]) -> Lib.decDigits v = l := by
 intro n
 induction n with
 | zero => intro l hl v _ hne; exact absurd (List.eq_nil_of_length_eq_zero hl) hne
 | succ n ih =>
  intro l hl v hv hne hh
  obtain ⟨a, c, rfl⟩ : ∃ a c, l = a ++ [c] := ⟨l.dropLast, l.getLast hne, (List.dropLast_concat_getLast hne).symm⟩
  rw [Xq] at hv
  cases ha : Lib.decFrom 0 a with
  | none => rw [ha] at hv; simp at hv
  | some u =>
   rw [ha] at hv
   simp only [Option.bind_some, Lib.decFrom] at hv
   cases hd : Lib.digitVal c with
   | none => rw [hd] at hv; simp at hv
   | some d =>
    rw [hd] at hv
    simp at hv
    obtain ⟨d1, d2, d3⟩ := Lib.digitVal_eq hd
    have ec : c = UInt8.ofNat (48 + d) := by
      apply UInt8.toNat_inj.1
      simp
      omega
    by_cases hae : a = []
    . subst hae
      simp [Lib.decFrom] at ha
      subst ha
      rw [show v = d by omega, Lib.decDigits_one (by omega), ec]
      rfl
    . have hu : u ≠ 0 := by
       intro e
       have := ih a (by simpa using hl) u ha hae (.inl (by
         intro e2
         rcases hh with h | h
         . apply h
           cases a with
           | nil => exact absurd rfl hae
           | cons x a => simpa using e2
         . have := congrArg List.length h
           simp at this
           exact hae this))
       rw [e, Lib.decDigits_one (by omega)] at this
       rcases hh with h | h
       . apply h
         rw [<- this]
         rfl
       . have := congrArg List.length h
         simp at this
         exact hae this
      have hda := ih a (by simpa using hl) u ha hae (.inl (by
         intro e2
         rcases hh with h | h
         . apply h
           cases a with
           | nil => exact absurd rfl hae
           | cons x a => simpa using e2
         . have := congrArg List.length h
           simp at this
           exact hae this))
      rw [<- hv, Ko (by omega), show (u * 10 + d) / 10 = u by omega, show (u * 10 + d) % 10 = d by omega, hda, ec]

def badD (D : List UInt8) (neg : Bool) : Bool := D.isEmpty || (D.head? == some 48 && (decide (1 < D.length) || neg))
def X8 (D : List UInt8) (neg : Bool) : Option Nat := if badD D neg then none else Lib.decFrom 0 D
def XQ (s : List UInt8) : Bool := s.head? == some 45
def YL (s : List UInt8) : List UInt8 := if XQ s then s.tail else s
def Yy (s : List UInt8) : Option Int := (X8 (YL s) (XQ s)).map fun n => if XQ s then -(n : Int) else n
theorem X5 {l : List UInt8} {i : Nat} {b : UInt8} (h : l[i]? = some b) (hd : Lib.digitVal b = none) (acc : Nat) : Lib.decFrom acc l = none := by
 cases h2 : Lib.decFrom acc l with
 | none => rfl
 | some n =>
  obtain ⟨m, hm⟩ := Lib.decFrom_prefix l acc n h2 (i + 1)
  rw [List.take_add_one, h, Option.toList_some, Xq] at hm
  cases h3 : Lib.decFrom acc (l.take i) with
  | none => rw [h3] at hm; cases hm
  | some k => rw [h3] at hm; simp [Lib.decFrom, hd] at hm
theorem Xl {b : UInt8} (h : b.toNat < 48 ∨ 57 < b.toNat) : Lib.digitVal b = none := by
 unfold Lib.digitVal
 rw [if_neg (by omega)]
theorem Ka {b : UInt8} (h1 : 48 <= b.toNat) (h2 : b.toNat <= 57) : Lib.digitVal b = some (b.toNat - 48) := by
 unfold Lib.digitVal
 rw [if_pos ⟨h1, h2⟩]
theorem decFrom_join {a b : List UInt8} {v p : Nat} (ha : Lib.decFrom 0 a = some v) (hb : Lib.decFrom 0 b = some p) : Lib.decFrom 0 (a ++ b) = some (v * 10 ^ b.length + p) := by
 rw [Xq, ha]
 show Lib.decFrom v b = _
 rw [Kb, hb]
 rfl
theorem take_split (l : List UInt8) {i j : Nat} (h : i <= j) : l.take j = l.take i ++ (l.drop i).take (j - i) := by
 obtain ⟨k, rfl⟩ : ∃ k, j = i + k := ⟨j - i, by omega⟩
 rw [List.take_add, Nat.add_sub_cancel_left]

theorem dec_ne (n : Nat) : Lib.decDigits n ≠ [] := fun e => by
 have h := JX n
 rcases Nat.eq_zero_or_pos n with h0 | h0
 . subst h0; rw [Lib.decDigits_one (by omega)] at e; cases e
 . obtain ⟨d, r, h1, -⟩ := dec_head n (by omega)
   rw [h1] at e; cases e
theorem dec_first (n : Nat) : (Lib.decDigits n).head? ≠ some 48 ∨ Lib.decDigits n = [48] := by
 rcases Nat.eq_zero_or_pos n with h0 | h0
 . subst h0; exact .inr (Lib.decDigits_one (by omega))
 . obtain ⟨d, r, h1, h2⟩ := dec_head n (by omega)
   rw [h1]
   exact .inl (by simpa using h2)
theorem J4 (n : Nat) {b : UInt8} (h : b ∈ Lib.decDigits n) : 48 <= b.toNat /\ b.toNat <= 57 := by
 obtain ⟨i, hi, e⟩ := List.mem_iff_getElem.1 h
 refine Decidable.byContradiction fun hn => ?_
 have h2 := JX n
 rw [X5 (i := i) (b := b) (by rw [List.getElem?_eq_getElem hi, e]) (Xl (by omega))] at h2
 cases h2
theorem readN_dec (n : Nat) (neg : Bool) (h : neg = true -> n ≠ 0) : X8 (Lib.decDigits n) neg = some n := by
 unfold X8
 have hb : badD (Lib.decDigits n) neg = false := by
  unfold badD
  have h1 : (Lib.decDigits n).isEmpty = false := by
    cases hd : Lib.decDigits n with
    | nil => exact absurd hd (dec_ne n)
    | cons _ _ => rfl
  rw [h1, Bool.false_or]
  rcases dec_first n with h2 | h2
  . rw [beq_eq_false_iff_ne.2 h2]; rfl
  . rw [h2]
    cases neg with
    | false => rfl
    | true =>
     exfalso
     have h3 := JX n
     rw [h2] at h3
     have h4 : Lib.decFrom 0 [48] = some 0 := by decide
     rw [h4] at h3
     exact h rfl (Option.some.inj h3).symm
 rw [hb, if_neg Bool.false_ne_true, JX]
theorem Ja (x : Int) : Yy (Lib.itoa x) = some x := by
 unfold Yy
 by_cases hx : x < 0
 . have e : Lib.itoa x = 45 :: Lib.decDigits x.natAbs := by unfold Lib.itoa; rw [if_pos hx]
   have h1 : XQ (Lib.itoa x) = true := by rw [e]; rfl
   have h2 : YL (Lib.itoa x) = Lib.decDigits x.natAbs := by unfold YL; rw [h1, e]; rfl
   rw [h1, h2, readN_dec _ _ (by intro _; omega)]
   show some (if true = true then -((x.natAbs : Nat) : Int) else ((x.natAbs : Nat) : Int)) = some x
   rw [if_pos rfl, show -((x.natAbs : Nat) : Int) = x by omega]
 . have e : Lib.itoa x = Lib.decDigits x.toNat := by unfold Lib.itoa; rw [if_neg hx]
   have h1 : XQ (Lib.itoa x) = false := by
    rw [e]
    unfold XQ
    cases hd : Lib.decDigits x.toNat with
    | nil => rfl
    | cons b r =>
     have := J4 x.toNat (b := b) (by rw [hd]; simp)
     show (some b == some (45 : UInt8)) = false
     rw [beq_eq_false_iff_ne]
     intro h3
     injection h3 with h3
     rw [h3] at this
     exact absurd this.1 (by decide)
   have h2 : YL (Lib.itoa x) = Lib.decDigits x.toNat := by unfold YL; rw [h1, e]; rfl
   rw [h1, h2, readN_dec _ _ (by intro h; cases h)]
   show some (if false = true then -((x.toNat : Nat) : Int) else ((x.toNat : Nat) : Int)) = some x
   rw [if_neg Bool.false_ne_true, show ((x.toNat : Nat) : Int) = x by omega]
theorem Jc {s : List UInt8} {z : Int} (h : Yy s = some z) : Lib.itoa z = s := by
 unfold Yy at h
 cases hn : X8 (YL s) (XQ s) with
 | none => rw [hn] at h; cases h
 | some n =>
  rw [hn] at h
  have hz : (if XQ s then -(n : Int) else n) = z := Option.some.inj h
  unfold X8 at hn
  cases hb : badD (YL s) (XQ s) with
  | true => rw [hb] at hn; cases hn
  | false =>
   rw [hb, if_neg Bool.false_ne_true] at hn
   have hne : YL s ≠ [] := fun e => by rw [e] at hb; cases hb
   have hb2 : ((YL s).head? == some 48 && (decide (1 < (YL s).length) || XQ s)) = false := by
    unfold badD at hb
    exact (Bool.or_eq_false_iff.1 hb).2
   have hfirst : (YL s).head? ≠ some 48 ∨ YL s = [48] := by
    by_cases h1 : (YL s).head? = some 48
    . right
      rw [h1] at hb2
      have h2 : (decide (1 < (YL s).length) || XQ s) = false := hb2
      have h3 := of_decide_eq_false (Bool.or_eq_false_iff.1 h2).1
      cases ht : YL s with
      | nil => exact absurd ht hne
      | cons b r =>
        rw [ht] at h1 h3
        cases r with
        | nil => simp at h1; rw [h1]
        | cons _ _ => simp at h3
    . exact .inl h1
   have hd := digits_read _ _ rfl n hn hne hfirst
   cases hg : XQ s with
   | false =>
    have hs : YL s = s := by unfold YL; rw [hg]; rfl
    rw [hg, if_neg Bool.false_ne_true] at hz
    rw [<- hz, Lib.itoa_nonneg, hd, hs]
   | true =>
    have hs : 45 :: YL s = s := by
      unfold YL
      rw [hg]
      unfold XQ at hg
      cases s with
      | nil => cases hg
      | cons b r =>
        simp at hg
        rw [hg]; rfl
    rw [hg] at hz
    simp only [if_true] at hz
    have hn0 : 0 < n := by
      rcases Nat.eq_zero_or_pos n with h0 | h0
      . exfalso
        rw [h0, Lib.decDigits_one (by omega)] at hd
        rw [<- hd, hg] at hb2
        exact absurd hb2 (by decide)
      . exact h0
    rw [<- hz, Lib.itoa_neg _ hn0, hd, hs]
theorem itoa_inj {x y : Int} : Lib.itoa x = Lib.itoa y ↔ x = y := by
 constructor
 . intro h
   have := Ja x
   rw [h, Ja y] at this
   exact (Option.some.inj this).symm
 . intro h; rw [h]
end Go.Proofs.YtdonecnhdkjniaaGreatDoor
