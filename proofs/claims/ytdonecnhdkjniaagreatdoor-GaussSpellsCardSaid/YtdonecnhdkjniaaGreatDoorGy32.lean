/- Several texts in one: RefRead, ExRead, ERead, RootLaw, Lens. -/
import Derived.Test.YtdonecnhdkjniaaGreatDoorGy31
import Derived.Deep.Cut
import Derived.Lib.AtoiErrMem
set_option maxRecDepth 100000
set_option maxHeartbeats 8000000
namespace Go.Proofs.YtdonecnhdkjniaaGreatDoor
open Go.RowKit

theorem Js.toN {w : World} {base n L : Nat} {v : Value} (h : Js w base v n L) : ∃ A c zs, v = .slice A zs.length c /\ Zj zs /\ val zs = n /\ zs.length <= L /\ zs.length <= c /\ c <= 9223372036854775807 /\ ReadsU w w.heap.size A zs /\ Y6 w base (.slice A (Za n).length c) n := by
 obtain ⟨A, c, zs, h1, h2, h3, h4, h5, h6, h7⟩ := h.form
 have hl : (Za n).length <= zs.length := by
   have := XL h2
   have h8 := congrArg List.length this
   rw [h3, List.length_take] at h8
   omega
 refine ⟨A, c, zs, h1, h2, h3, h4, h5, h6, ZL.of_own h7, A, c, rfl, by omega, h6, ?_⟩
 have ht := XL h2
 rw [h3] at ht
 by_cases h0 : zs.length = 0
 . have hz := List.eq_nil_of_length_eq_zero h0
   subst hz
   have e0 : (Za n).length = 0 := by simpa using hl
   have e1 := List.eq_nil_of_length_eq_zero e0
   rw [e1]
   exact h7
 . obtain ⟨g, rfl, -, -, -⟩ := own_block h7 h0
   have := row_cut h7 hl
   rw [<- X9, <- ht] at this
   exact this
structure Split (s D : ByteArray) (neg : Bool) : Prop where
 neg : Xo s.data.toList = neg
 tail : Yq s.data.toList = D.data.toList
def RetRead (base : Nat) (w : World) (o : Option Int) (e : Ending) (w' : World) : Prop := ∃ v, e = .returned (.tuple #[v, .bool o.isSome]) /\ Zc w' base v (o.getD 0) /\ Below w.heap.size w w'


theorem row_set {w : World} {base n cap g i : Nat} {t : TypeId} {xs : List Value} (h : w.ownsRow base t 1 (.slice (some ⟨g, 0, none⟩) n cap) n xs) (u : Value) :
   (w.setCell ⟨g, i, none⟩ u).ownsRow base t 1 (.slice (some ⟨g, 0, none⟩) n cap) n (xs.set i u) := by
 refine ⟨by rw [List.length_set]; exact h.1, ?_⟩
 rcases h.2 with ⟨k1, k2⟩ | ⟨g', cap', cur, k1, k2, k3, k4, k5, k6, k7⟩
 . cases k1
 . injection k1 with a1 a2 a3
   injection a1 with a1
   injection a1 with a1
   subst a1 a3
   refine .inr ⟨g, cap, cur.setIfInBounds i u, rfl, k2, Z2.set_ (show Z2 w g t cur from k3) i u, k4, k5, by simpa using k6, ?_⟩
   rw [Array.toList_setIfInBounds, <- k7, List.take_set]
theorem own_frozen {w : World} {base n cap g : Nat} {t : TypeId} {xs : List Value} (h : w.ownsRow base t 1 (.slice (some ⟨g, 0, none⟩) n cap) n xs) (i : Nat) : w.frozen? ⟨g, i, none⟩ = false := by
 rcases h.2 with ⟨k1, k2⟩ | ⟨g', cap', cur, k1, k2, k3, k4, k5, k6, k7⟩
 . cases k1
 . injection k1 with a1 a2 a3
   injection a1 with a1
   injection a1 with a1
   subst a1 a3
   exact Z2.frozen (show Z2 w g t cur from k3) i
theorem own_cell {w : World} {base n cap g i : Nat} {zs : List Nat} (h : w.ownsRow base 109 1 (.slice (some ⟨g, 0, none⟩) n cap) n (Zv zs)) (hi : i < zs.length) : w.cell? ⟨g, i, none⟩ = some (.int .u32 zs[i]) := by
 have := h.cells (g := g) rfl i _ (Y2 hi)
 rw [show (⟨g, 0, none⟩ : Addr).add i = ⟨g, i, none⟩ by unfold Addr.add; split <;> simp_all] at this
 exact this
theorem atoi_digits {l : List UInt8} {p : Nat} (h : Lib.decFrom 0 l = some p) (h0 : l ≠ []) : Lib.atoi l = some (p : Int) := by
 cases l with
 | nil => exact absurd rfl h0
 | cons b r =>
  have hd : 48 <= b.toNat /\ b.toNat <= 57 := by
   refine Decidable.byContradiction fun hn => ?_
   rw [decFrom_none (i := 0) (b := b) rfl (Je (by omega))] at h
   cases h
  have h1 : (b == 45) = false := by
   rw [beq_eq_false_iff_ne]
   intro e
   rw [e] at hd
   exact absurd hd.1 (by decide)
  have h2 : (b == 43) = false := by
   rw [beq_eq_false_iff_ne]
   intro e
   rw [e] at hd
   exact absurd hd.1 (by decide)
  show (if (b == 45) = true then _ else if (b == 43) = true then _ else _) = _
  rw [if_neg (by rw [h1]; decide), if_neg (by rw [h2]; decide)]
  show Option.map _ (if false = true then none else Lib.decFrom 0 (b :: r)) = _
  rw [if_neg (by decide), h]
  rfl
theorem split_cut (s : ByteArray) : Split s ⟨(Lib.trimPrefix s.data.toList [45]).toArray⟩ (Lib.hasPrefix s.data.toList [45]) := by
 have h : Lib.hasPrefix s.data.toList [45] = Xo s.data.toList := by
  unfold Lib.hasPrefix Xo
  cases s.data.toList with
  | nil => rfl
  | cons b l =>
   by_cases hb : b = 45
   . subst hb; simp
   . have e1 : ((45 : UInt8) == b) = false := beq_eq_false_iff_ne.2 (fun e => hb e.symm)
     have e2 : ((some b : Option UInt8) == some 45) = false := by simp [hb]
     show ((45 : UInt8) == b && List.isPrefixOf [] l) = ((some b : Option UInt8) == some 45)
     rw [e1, e2]; rfl
 refine ⟨h.symm, ?_⟩
 unfold Yq Lib.trimPrefix
 rw [h]
 cases Xo s.data.toList <;> simp
theorem nine_core {vP vt b B M part cc x r q : Nat} (h : vP + b * cc = vt * M + part) (e : r + B * q = cc + x * M) : vP + b * r + b * B * q = (vt + b * x) * M + part := by
 have h2 : b * r + b * B * q = b * cc + b * x * M := by rw [Nat.mul_assoc b B q, <- Nat.mul_add, e, Nat.mul_add, Nat.mul_assoc]
 rw [Nat.add_mul]
 omega
theorem nine_step {P xs : List Nat} {i cc part x : Nat} (hi : i < xs.length) (hx : xs[i] = x) (hP : P.length = i) (h : val P + 4294967296 ^ i * cc = val (xs.take i) * 1000000000 + part) :
  val (P ++ [(cc + x * 1000000000) % 4294967296]) + 4294967296 ^ (i + 1) * ((cc + x * 1000000000) / 4294967296) = val (xs.take (i + 1)) * 1000000000 + part := by
 rw [Yw, hP, Zs hi, hx, Nat.pow_succ, show ∀ r, val [r] = r from fun r => by simp [val]]
 exact nine_core h (Nat.mod_add_div _ _)
def strLen : Value -> Nat
 | .string t => t.size
 | _ => 0
theorem cells_next {P xs : List Nat} {i d : Nat} (hP : P.length = i) (hi : i < xs.length) : (Zv (P ++ xs.drop i)).set i (.int .u32 (d : Int)) = Zv ((P ++ [d]) ++ xs.drop (i + 1)) := by
 subst hP
 have e : (P ++ xs.drop P.length).set P.length d = (P ++ [d]) ++ xs.drop (P.length + 1) := by
  rw [List.drop_eq_getElem_cons hi, List.set_append_right _ _ (Nat.le_refl _), Nat.sub_self, List.set_cons_zero, List.append_assoc]
  rfl
 rw [<- e]
 unfold Zv
 rw [List.map_set]
theorem at_next {P xs : List Nat} {i : Nat} (hP : P.length = i) (hi : i < xs.length) (h : i < (P ++ xs.drop i).length) : (P ++ xs.drop i)[i] = xs[i] := by
 rw [List.getElem_append_right (by omega)]
 simp [hP]
theorem str_more {t : ByteArray} (h : t.data.toList ≠ []) : t.toList.isEmpty = false := by
 rw [ByteArray.toList_eq]
 cases hl : t.data.toList with
 | nil => exact absurd hl h
 | cons _ _ => rfl
theorem str_more2 {t : ByteArray} (h : t.toList.isEmpty = false) : ¬ t.toList = [] := fun e => by rw [e] at h; cases h
theorem nine_size {a b k L : Nat} (h : a + 1 <= b) (hb : b <= 65536) (hk : k <= L + 1) (hL : L <= 65536 - b) : a <= 65536 /\ k <= 65536 - a /\ a < b := by omega
theorem natL_short {zs : List Nat} {n : Nat} (h : Zj zs) (e : val zs = n) : (Za n).length <= zs.length := by
 subst e
 have h1 := congrArg List.length (XL h)
 rw [List.length_take] at h1
 omega
theorem nine_end {w4 : World} {base L cc n c5 : Nat} {A5 : Option Addr} {P : List Nat} (hP : P.length = L) (hPl : Zj P) (hcc : cc < 1000000000) (hv : val P + 4294967296 ^ L * cc = n) (ho : w4.ownsRow base 109 1 (.slice A5 (L + 1) c5) (L + 1) (Zv P ++ [.int .u32 (cc : Int)])) :
  (Calls Tryz.prog 163 #[.slice A5 (L + 1) c5] w4 fun e w' => e = .returned (.slice A5 (Za n).length c5) /\ w4 = w') /\ Y6 w4 base (.slice A5 (Za n).length c5) n /\ (Za n).length <= L + 1 := by
 have hown5 : w4.ownsRow base 109 1 (.slice A5 (L + 1) c5) (L + 1) (Zv (P ++ [cc])) := by
  have e : Zv (P ++ [cc]) = Zv P ++ [.int .u32 (cc : Int)] := by simp [Zv]
  rw [e]; exact ho
 have hl5 : (P ++ [cc]).length = L + 1 := by rw [List.length_append, hP]; rfl
 have hlim : Zj (P ++ [cc]) := fun y hy => by
  rw [List.mem_append, List.mem_singleton] at hy
  rcases hy with hy | rfl
  . exact hPl y hy
  . omega
 have hval5 : val (P ++ [cc]) = n := by
  rw [Yw, hP, <- hv, show ∀ r, val [r] = r from fun r => by simp [val]]
 obtain ⟨g5, -, -, k1, k2⟩ := own_block hown5 (Nat.succ_ne_zero _)
 have hn5 := natL_short hlim hval5
 rw [hl5] at hn5
 generalize P ++ [cc] = zs at hown5 hl5 hlim hval5
 clear ho hv
 have C4 := XT A5 c5 zs hlim (by rw [hl5]; exact k1) k2 w4.heap.size w4 (by rw [<- hl5] at hown5; exact ZL.of_own hown5)
 rw [hval5, hl5] at C4
 have hL : Js w4 base (.slice A5 (L + 1) c5) n (L + 1) := ⟨A5, c5, zs, by rw [hl5], hlim, hval5, by rw [hl5]; exact Nat.le_refl _, by rw [hl5]; exact k1, k2, by rw [hl5]; exact hown5⟩
 obtain ⟨A', c', zs', z0, -, -, -, -, -, -, z7⟩ := hL.toN
 injection z0 with y1 y2 y3
 subst y1 y3
 exact ⟨C4, z7, hn5⟩
structure Nine (w0 wl : World) (base : Nat) (AL : Option Addr) (cL : Nat) (xs : List Nat) (part i cc : Nat) : Prop where
 ex : ∃ P : List Nat, P.length = i /\ Zj P /\ wl.ownsRow base 109 1 (.slice AL xs.length cL) xs.length (Zv (P ++ xs.drop i)) /\ val P + 4294967296 ^ i * cc = val (xs.take i) * 1000000000 + part
 low : Below w0.heap.size w0 wl
structure Got (W wl : World) (base : Nat) (D d : List UInt8) (AL : Option Addr) (cL v : Nat) : Prop where
 ex : ∃ pre, D = pre ++ d /\ Lib.decFrom 0 pre = some v
 nine : v = 0 ∨ d.length % 9 = 0
 own : Y6 wl base (.slice AL (Za v).length cL) v
 low : Below W.heap.size W wl

theorem exact_Read (s : ByteArray) (hs : s.size <= 65536) (w : World) :
   Calls Tryz.prog 105 #[.string s] w (RetRead w.heap.size w (Xm s.data.toList)) := by
 obtain ⟨i0, hi, hz0, hz1, hz2⟩ := info_parts Xr
 have pr := Zp.new w 24 (.bool false) (.slice none 0 0)
 have b0 := (Below.refl w.heap.size w).alloc (Nat.le_refl _) (.cells #[.bool false, .slice none 0 0] 24)
 obtain ⟨zz, hzz⟩ : ∃ z, z = Xm s.data.toList := ⟨_, rfl⟩
 rw [<- hzz]
 have HSP := split_cut s
 have hDs : (⟨(Lib.trimPrefix s.data.toList [45]).toArray⟩ : ByteArray).size <= 65536 := by
   have h1 : (Lib.trimPrefix s.data.toList [45]).length <= s.data.toList.length := by
     unfold Lib.trimPrefix
     split
     . simp
     . exact Nat.le_refl _
   rw [Lib.size_eq]
   rw [Lib.size_eq] at hs
   simpa using Nat.le_trans h1 hs
 have HZZ := Hd hzz
 have PR := Hd pr
 have HB := Hd b0
 have HC := Hd (fun V => Tryz.strings_CutPrefix s ⟨#[45]⟩ V)
 have HSPL := Hd HSP
 have HDS := Hd hDs
 clear hzz pr b0 HSP hDs hs
 go_enter Tryz.func105, Tryz.ntmps105
 go_wp2_with fail
 refine (HC.out _).mono ?_
 rintro e W ⟨rfl, hw⟩
 rw [<- hw] at PR HB
 clear hw HC
 change Hid (Split s ⟨(Lib.trimPrefix s.data.toList [45]).toArray⟩ (Lib.hasPrefix s.data.toList [45])) at HSPL
 generalize (⟨(Lib.trimPrefix s.data.toList [45]).toArray⟩ : ByteArray) = D at HSPL HDS ⊢
 generalize Lib.hasPrefix s.data.toList [45] = neg at HSPL ⊢
 have HZ2 := Hd (show zz = (XQ D.data.toList neg).map fun n => if neg then -(n : Int) else n by rw [HZZ.out]; unfold Xm; rw [HSPL.out.neg, HSPL.out.tail])
 obtain ⟨r, hr⟩ : ∃ r, r = (XQ D.data.toList neg).isNone := ⟨_, rfl⟩
 have HR := Hd hr
 clear HZZ HSPL hr
 go_upto_region 2 with fail
 go_cut [36] (fun s36 wc => s36 = .bool r /\ Below W.heap.size W wc)
 case first =>
   by_cases h0 : D.size = 0
   . have hnil : D.data.toList = [] := List.eq_nil_of_length_eq_zero (by rw [<- Lib.size_eq]; exact h0)
     have HN := Hd (show r = true by rw [HR.out, hnil]; rfl)
     have g2 : D.toList = [] := by rw [ByteArray.toList_eq]; exact hnil
     have g1 : D.toList.isEmpty = true := by rw [g2]; rfl
     clear hnil h0
     go_wp2_with fail
     go_meet
     case rel => exact ⟨by rw [HN.out], Below.refl _ _⟩
   . have h1 : 0 < D.size := by omega
     have hb := byte_at D 0 h1
     have hne : D.data.toList ≠ [] := fun e => by rw [e] at hb; cases hb
     have hbad : badD D.data.toList neg = ((D[0]'h1 == 48) && (decide (1 < D.size) || neg)) := by
       unfold badD
       have hne2 : D.data.toList.isEmpty = false := by
         cases hD : D.data.toList with
         | nil => exact absurd hD hne
         | cons _ _ => rfl
       rw [hne2, List.head?_eq_getElem?, hb, <- Lib.size_eq, Bool.false_or]
       rfl
     have g1 : D.toList.isEmpty = false := str_more hne
     have g2 : ¬ D.toList = [] := str_more2 g1
     have a0 : (0 : Int) < (D.size : Int) := by omega
     clear hb hne
     by_cases h48 : D[0]'h1 = 48
     . rw [h48] at hbad
       have a1 : (D[0]'h1).toNat = 48 := by rw [h48]; rfl
       clear h48
       by_cases h2 : 1 < D.size
       . have HN := Hd (show r = true by rw [HR.out]; unfold XQ; rw [hbad]; simp [h2])
         have a3 : (1 : Int) < (D.size : Int) := by omega
         clear hbad
         go_wp2_with fail
         go_meet
         case rel => exact ⟨by rw [HN.out], Below.refl _ _⟩
       . have a3 : ¬ (1 : Int) < (D.size : Int) := by omega
         rcases Bool.eq_false_or_eq_true neg with hg | hg
         . subst hg
           have HN := Hd (show r = true by rw [HR.out]; unfold XQ; rw [hbad]; simp)
           clear hbad
           go_wp2_with fail
           go_meet
           case rel => exact ⟨by rw [HN.out], Below.refl _ _⟩
         . subst hg
           have hbad : badD D.data.toList false = false := by rw [hbad]; simp [h2]
           have HT := Hd (XB D HDS.out W)
           have HBAD := Hd hbad
           clear hbad
           go_wp2_with fail
           refine HT.out.mono ?_
           rintro e w2 ⟨t, rfl, ht, hb⟩
           have HTT := Hd ht
           have HB2 := Hd hb
           clear ht hb HT
           by_cases hn : NonD D.data.toList
           . have HN := Hd (show r = true by rw [HR.out]; unfold XQ; rw [HBAD.out, (Yy _ _).2 hn]; rfl)
             have g1 : t.toList.isEmpty = false := str_more (fun e => HTT.out.1 e hn)
             have g2 : ¬ t.toList = [] := str_more2 g1
             clear hn
             go_wp2_with fail
             go_meet
             case rel => exact ⟨by rw [HN.out], HB2.out⟩
           . have HN := Hd (show r = false by
               rw [HR.out]; unfold XQ; rw [HBAD.out]
               cases h : Lib.decFrom 0 D.data.toList with
               | none => exact absurd ((Yy _ _).1 h) hn
               | some v => simp)
             have g2 : t.toList = [] := by rw [ByteArray.toList_eq]; exact HTT.out.2 hn
             have g1 : t.toList.isEmpty = true := by rw [g2]; rfl
             clear hn
             go_wp2_with fail
             go_meet
             case rel => exact ⟨by rw [HN.out], HB2.out⟩
     . have hbad : badD D.data.toList neg = false := by rw [hbad]; simp [h48]
       have a1 : (((D[0]'h1).toNat : Int) == 48) = false := by
         have : (D[0]'h1).toNat ≠ 48 := fun e => h48 (UInt8.toNat_inj.1 e)
         exact beq_eq_false_iff_ne.2 (by omega)
       clear h48
       have HT := Hd (XB D HDS.out W)
       have HBAD := Hd hbad
       clear hbad
       go_wp2_with fail
       refine HT.out.mono ?_
       rintro e w2 ⟨t, rfl, ht, hb⟩
       have HTT := Hd ht
       have HB2 := Hd hb
       clear ht hb HT
       by_cases hn : NonD D.data.toList
       . have HN := Hd (show r = true by rw [HR.out]; unfold XQ; rw [HBAD.out, (Yy _ _).2 hn]; rfl)
         have g1 : t.toList.isEmpty = false := str_more (fun e => HTT.out.1 e hn)
         have g2 : ¬ t.toList = [] := str_more2 g1
         clear hn
         go_wp2_with fail
         go_meet
         case rel => exact ⟨by rw [HN.out], HB2.out⟩
       . have HN := Hd (show r = false by
           rw [HR.out]; unfold XQ; rw [HBAD.out]
           cases h : Lib.decFrom 0 D.data.toList with
           | none => exact absurd ((Yy _ _).1 h) hn
           | some v => simp)
         have g2 : t.toList = [] := by rw [ByteArray.toList_eq]; exact HTT.out.2 hn
         have g1 : t.toList.isEmpty = true := by rw [g2]; rfl
         clear hn
         go_wp2_with fail
         go_meet
         case rel => exact ⟨by rw [HN.out], HB2.out⟩
 case rest =>
   obtain ⟨h36, hbw⟩ := hcut
   subst h36
   have PRW := Hd (PR.out.below hbw)
   have HBW := Hd (Zb HB.out hbw)
   clear hbw PR HB
   cases r with
   | true =>
     have HZN := Hd (show zz = none by
       rw [HZ2.out]
       cases h : XQ D.data.toList neg with
       | none => rfl
       | some v => have := HR.out; rw [h] at this; cases this)
     clear HZ2 HR
     have HFB := Hd (Yh HBW.out (Nat.le_refl _) (.bool false) (.slice none 0 0))
     have HQ := Hd (PRW.out.store (.bool false) (.slice none 0 0))
     obtain ⟨l_r, r0, r1, f0, f1⟩ := PRW.out.facts
     go_wp2_with fail
     obtain ⟨_, k0, k1, _, _⟩ := HQ.out.facts
     exact bodyPost_ret (v := .tuple #[.agg #[.bool false, .slice none 0 0], .bool false]) (by simp [results, Tryz.results105, go_sem, k0, k1]) rfl ⟨_, by rw [HZN.out]; rfl, by rw [HZN.out]; exact Zc.nought _ _, HFB.out⟩
   | false =>
     have HV := Hd (show ∃ v, Lib.decFrom 0 D.data.toList = some v /\ zz = some (if neg then -(v : Int) else v) by
       have h := HR.out
       have hz := HZ2.out
       unfold XQ at h hz
       cases hb : badD D.data.toList neg with
       | true => rw [hb] at h; cases h
       | false =>
         rw [hb, if_neg Bool.false_ne_true] at h hz
         cases hd : Lib.decFrom 0 D.data.toList with
         | none => rw [hd] at h; cases h
         | some v => rw [hd] at hz; exact ⟨v, rfl, hz⟩)
     have HDIG := Hd (show ∀ b ∈ D.data.toList, Xs b = true from nonD_not.1 (fun hn => by
       obtain ⟨v, hv, -⟩ := HV.out
       rw [(Yy _ _).2 hn] at hv; cases hv))
     have HW := Hd (show w.heap.size + 1 <= wc.heap.size from PRW.out.blk.lt)
     clear HZ2 HR
     go_wp2_with fail
     go_loopw [4, 6] (fun s4 s6 wl => ∃ (d : ByteArray) (v : Nat) (AL : Option Addr) (cL : Nat), s4 = .string d /\ s6 = .slice AL (Za v).length cL /\ d.size <= 65536 /\ (Za v).length <= 65536 - d.size /\ Hid (Got wc wl wc.heap.size D.data.toList d.data.toList AL cL v)) (fun s4 _ _ => strLen s4)
     case atStart => exact ⟨D, 0, none, 0, rfl, rfl, HDS.out, Nat.zero_le _, Hd ⟨⟨[], rfl, rfl⟩, .inl rfl, ⟨none, 0, rfl, Nat.le_refl _, by omega, World.ownsRow_nil _ _ _ _⟩, Below.refl _ _⟩⟩
     case round =>
       obtain ⟨d, v, AL, cL, rfl, rfl, hd, hvl, HG⟩ := hrel
       by_cases h0 : d.size = 0
       . have hnil : d.data.toList = [] := List.eq_nil_of_length_eq_zero (by rw [<- Lib.size_eq]; exact h0)
         have g2 : d.toList = [] := by rw [ByteArray.toList_eq]; exact hnil
         have g1 : d.toList.isEmpty = true := by rw [g2]; rfl
         have HZN := Hd (show zz = some (if neg then -(v : Int) else v) by
           obtain ⟨pre, h1, h2⟩ := HG.out.ex
           obtain ⟨v2, h3, h4⟩ := HV.out
           rw [h1, hnil, List.append_nil, h2] at h3
           rw [h4, Option.some.inj h3])
         have H5 := Hd (Yu neg (.slice AL (Za v).length cL) v (Za v).length wc.heap.size wr (HG.out.own.ownL (Nat.le_refl _)))
         have HLW := Hd HG.out.low
         clear hnil h0 HG hvl
         go_wp2_with fail
         refine H5.out.mono ?_
         rintro e w9 ⟨v9, rfl, hI, hb⟩
         obtain ⟨b9, A9, k9, c9, rfl⟩ : ∃ b A k c, v9 = .agg #[.bool b, .slice A k c] := by obtain ⟨A, c, h1, -⟩ := hI.form; exact ⟨_, _, _, _, h1⟩
         have hlow := Zb HLW.out hb
         have pr := PRW.out.below hlow
         obtain ⟨l_r, r0, r1, f0, f1⟩ := pr.facts
         have HFB := Hd (Yh (Zb HBW.out hlow) (Nat.le_refl w.heap.size) (.bool b9) (.slice A9 k9 c9))
         have HQ := Hd (pr.store (.bool b9) (.slice A9 k9 c9))
         have HI := Hd (hI.pair (g := w.heap.size) (a := .bool b9) (b := .slice A9 k9 c9) HW.out)
         clear hI hb hlow pr H5
         go_wp2_with fail
         obtain ⟨_, k0, k1, _, _⟩ := HQ.out.facts
         exact bodyPost_ret (v := .tuple #[.agg #[.bool b9, .slice A9 k9 c9], .bool true]) (by simp [results, Tryz.results105, go_sem, k0, k1]) rfl ⟨_, by rw [HZN.out]; rfl, by rw [HZN.out]; exact HI.out.base (Nat.le_of_lt HW.out), HFB.out⟩
       . obtain ⟨n, hn⟩ : ∃ n, n = (d.size - 1) % 9 + 1 := ⟨_, rfl⟩
         have hn9 : n <= 9 := by omega
         have hnd : n <= d.size := by omega
         have e1 : (d.extract 0 n).data.toList = d.data.toList.take n := by rw [Lib.extract_data]; simp
         have e2 : (d.extract n d.size).data.toList = d.data.toList.drop n := by
           rw [Lib.extract_data]
           exact List.take_of_length_le (by rw [List.length_drop, <- Lib.size_eq]; exact Nat.le_refl _)
         have hsub : ∀ b ∈ d.data.toList.take n, Xs b = true := fun b hb => by
           obtain ⟨pre, h1, -⟩ := HG.out.ex
           exact HDIG.out b (by rw [h1]; exact List.mem_append_right _ (List.mem_of_mem_take hb))
         obtain ⟨p, hp⟩ : ∃ p, Lib.decFrom 0 (d.data.toList.take n) = some p := by
           cases h : Lib.decFrom 0 (d.data.toList.take n) with
           | none => exact absurd ((Yy _ _).1 h) (nonD_not.2 hsub)
           | some p => exact ⟨p, rfl⟩
         have hlt9 : (d.data.toList.take n).length = n := by rw [List.length_take, <- Lib.size_eq]; omega
         have hp9 : p < 1000000000 := by
           have h1 := Lib.decFrom_lt _ _ _ hp
           rw [hlt9] at h1
           have h2 : 10 ^ n <= 10 ^ 9 := Nat.pow_le_pow_right (by omega) hn9
           have h3 : (10 : Nat) ^ 9 = 1000000000 := by decide
           omega
         have C1 := Hd (Tryz.strconv_Atoi (d.extract 0 n) (p : Int) (by rw [Lib.size_eq, e1, hlt9]; omega) (by
           rw [e1]
           exact atoi_digits hp (fun e => by rw [e] at hlt9; simp at hlt9; omega)) wr)
         have HGN := Hd (show (∃ pre, D.data.toList = pre ++ (d.extract n d.size).data.toList /\ Lib.decFrom 0 pre = some (v * 1000000000 + p)) /\ (d.extract n d.size).data.toList.length % 9 = 0 /\ (d.extract n d.size).size < d.size /\ (d.extract n d.size).size + 1 <= d.size by
           obtain ⟨pre, h1, h2⟩ := HG.out.ex
           have hl : (d.extract n d.size).data.toList.length = d.size - n := by rw [e2, List.length_drop, <- Lib.size_eq]
           refine ⟨⟨pre ++ d.data.toList.take n, by rw [e2, List.append_assoc, List.take_append_drop]; exact h1, ?_⟩, by rw [hl, hn]; omega, by rw [Lib.size_eq, hl]; omega, by rw [Lib.size_eq, hl]; omega⟩
           have h3 := decFrom_join h2 hp
           rw [hlt9] at h3
           rw [h3]
           congr 2
           rcases HG.out.nine with h4 | h4
           . rw [h4]; simp
           . rw [<- Lib.size_eq] at h4
             rw [show n = 9 by omega])
         have g1 : d.toList.isEmpty = false := str_more (fun e => h0 (by rw [Lib.size_eq, e]; rfl))
         have g2 : ¬ d.toList = [] := str_more2 g1
         have b0 : (0 : Int) <= (d.size : Int) - 1 := by omega
         have b1 : ((d.size : Int) - 1) % 9 + 1 = (n : Int) := by omega
         have b2 : (0 : Int) <= (n : Int) := by omega
         have b3 : (n : Int) <= (d.size : Int) := by omega
         have HPN := Hd (And.intro hp9 hn9)
         have HOWN := Hd HG.out.own
         have HLOW := Hd HG.out.low
         clear e1 e2 hsub hp hlt9 hn HG
         go_wp2_with fail
         refine C1.out.mono ?_
         rintro e w2 ⟨rfl, tt, hw2⟩
         have hb2 : Below wr.heap.size wr w2 := by rw [hw2]; exact Lib.bytesWorld_below _ _ _
         have HO2 := Hd (HOWN.out.below hb2)
         have HL2 := Hd (Zb HLOW.out hb2)
         have hp9' : (p : Int) < 1000000000 := by omega
         have hp0' : (0 : Int) <= (p : Int) := by omega
         have hown2 : w2.ownsRow wc.heap.size 109 1 (.slice AL (Za v).length cL) (Za v).length (Zv (Za v)) := by
           obtain ⟨A', c', h1, h2, h3, h4⟩ := HO2.out.form
           injection h1 with a1 a2 a3
           subst a1 a3
           exact h4
         have HXV := Hd (And.intro (Y0 v) (Z3 v))
         have HQ3 := Hd hown2
         have hxl : (Za v).length <= 65536 := by omega
         have HVL := Hd hvl
         clear hb2 hw2 C1 HOWN HLOW HO2 hown2 hvl
         generalize Za v = xs at HXV HQ3 hxl HVL ⊢
         have H6 := Hd (show Nine wc w2 wc.heap.size AL cL xs p 0 p from ⟨⟨[], rfl, (fun x hx => by cases hx), HQ3.out, by simp [val]⟩, HL2.out⟩)
         go_wp2_with fail
         go_loopw [10, 62] (fun s10 s62 wl => ∃ cc i : Nat, s10 = .int .u64 cc /\ s62 = .int .i64 i /\ i <= xs.length /\ cc < 1000000000 /\ Hid (Nine wc wl wc.heap.size AL cL xs p i cc)) (fun _ s62 _ => xs.length - (intOf s62).toNat)
         case atStart => exact ⟨p, 0, rfl, rfl, Nat.zero_le _, HPN.out.1, H6⟩
         case round =>
           clear H6
           obtain ⟨cc, i, rfl, rfl, hix, hcc, HI⟩ := hrel
           by_cases hlt : i < xs.length
           . obtain ⟨P, hP, hPl, hown, hval⟩ := HI.out.ex
             obtain ⟨g, rfl, hg, -, -⟩ := own_block hown (by omega)
             have hil : i < (P ++ xs.drop i).length := by simp; omega
             have hcell := own_cell hown hil
             rw [at_next hP hlt hil] at hcell
             have fz := own_frozen hown i
             have hx32 := Zx HXV.out.1 hlt
             have hglt := (hown.lt g rfl).2
             generalize hxe : xs[i] = x at hcell hx32
             have hstep := nine_step hlt hxe hP hval
             have hset := row_set hown (i := i) (.int .u32 (((cc + x * 1000000000) % 4294967296 : Nat) : Int))
             rw [cells_next hP hlt] at hset
             have S := Hd (show Nine wc (wr.setCell ⟨g, i, none⟩ (.int .u32 (((cc + x * 1000000000) % 4294967296 : Nat) : Int))) wc.heap.size (some ⟨g, 0, none⟩) cL xs p (i + 1) ((cc + x * 1000000000) / 4294967296) from
               ⟨⟨_, by simp [hP], (fun y hy => by
                 rw [List.mem_append, List.mem_singleton] at hy
                 rcases hy with hy | rfl
                 . exact hPl y hy
                 . exact Nat.mod_lt _ (by omega)), hset, hstep⟩, HI.out.low.setCell (p := ⟨g, i, none⟩) hg _⟩)
             have HQ := Hd (show (cc + x * 1000000000) / 4294967296 < 1000000000 /\ cc + x * 1000000000 < 18446744073709551616 /\ i + 1 <= xs.length by omega)
             have d0 : (0 : Int) <= (i : Int) := by omega
             have d1 : (i : Int) < (xs.length : Int) := by omega
             have HLT := Hd hlt
             clear hxe hstep hset hP hPl hown hval hil HI hg hlt
             go_wp2_with fail
             rw [show ((cc : Int) + (x : Int) * 1000000000) / 4294967296 = (((cc + x * 1000000000) / 4294967296 : Nat) : Int) by omega, show ((cc : Int) + (x : Int) * 1000000000) % 4294967296 = (((cc + x * 1000000000) % 4294967296 : Nat) : Int) by omega]
             go_roundw
             case rel => exact ⟨_, i + 1, rfl, by go_num, HQ.out.2.2, HQ.out.1, S⟩
             case measure => simp [intOf]; have := HLT.out; omega
           . obtain rfl : i = xs.length := by omega
             obtain ⟨P, hP, hPl, hown, hval⟩ := HI.out.ex
             rw [List.drop_length, List.append_nil] at hown
             rw [List.take_length, HXV.out.2] at hval
             have HVV := Hd hval
             have HPL := Hd (And.intro hP hPl)
             have HOW := Hd hown
             have HLI := Hd HI.out.low
             have hcc2 : (cc : Int) < 1000000000 := by omega
             have hcc0 : (0 : Int) <= (cc : Int) := by omega
             clear hval hP hPl hown HI hlt
             go_wp2_with (
               at_builtin
               refine Y7 _ rfl (.tmp 81) (.tmp 84) _ rfl wc.heap.size 109 i0 _ 1 4 Tryz.underlying22 hi hz0 hz1 hz2 rfl (by omega) (.slice AL xs.length cL) xs.length (Zv P) rfl (HOW.out.alloc _) (wr.heap.size + 1) (some ⟨wr.heap.size, 0, none⟩) 1 1 [.int .u32 (cc : Int)] rfl (ZL.new1 wr _ 1 _ rfl) (by intro x hx; simp at hx; subst hx; rfl) (by unfold maxLen; omega) (by omega) (by have := HLI.out.size; simp; omega) ?_
               intro v' w4 ho hg4 _
               obtain ⟨A5, c5, rfl⟩ := own_form (by omega) ho
               have HO4 := Hd ho
               have HL4 := Hd ((HLI.out.alloc (by have := HLI.out.size; omega) (.cells #[.int .u32 (cc : Int)] 109)).grown hg4 (by have := HLI.out.size; simp; omega) (fun k hk => (HOW.out.lt k hk).1))
               clear ho hg4)
             obtain ⟨C4, hN5, hn5⟩ := nine_end HPL.out.1 HPL.out.2 hcc HVV.out HO4.out
             have H7 := Hd C4
             have HN := Hd (show Got wc w4 wc.heap.size D.data.toList (d.extract n d.size).data.toList A5 c5 (v * 1000000000 + p) from ⟨HGN.out.1, .inr HGN.out.2.1, hN5, HL4.out⟩)
             have HSZ := Hd (nine_size HGN.out.2.2.2 hd hn5 HVL.out)
             clear C4 hN5 hn5 HO4 HL4
             go_wp2_with fail
             refine H7.out.mono ?_
             rintro e w5 ⟨rfl, rfl⟩
             go_wp2_with fail
             go_roundw
             case rel => exact ⟨d.extract n d.size, v * 1000000000 + p, A5, c5, rfl, rfl, HSZ.out.1, HSZ.out.2.1, HN⟩
             case measure => exact HSZ.out.2.2

theorem ZG.zero (w : World) (base : Nat) : ZG w base (.agg #[.bool false, .slice none 0 0, .bool false, .slice none 0 0]) 0 0 := ⟨none, 0, none, 0, rfl, Zc.nought _ _, Zc.nought _ _⟩
def RetReadF (w : World) (o : Option (Int × Int)) (e : Ending) (w' : World) : Prop := ∃ n d, ZZ w n d o.isSome e w' /\ ∀ p, o = some p -> p = (n, d)
def XD (w : World) (z : Int) (b : Bool) (e : Ending) (w' : World) : Prop := ∃ v, e = .returned (.tuple #[v, .bool b]) /\ Zc w' w.heap.size v z /\ Below w.heap.size w w'

theorem ratio_Whole (z one : Int) (A : Option Addr) (c : Nat) (w : World) (h_z : Zr w A c (Za z.natAbs)) (o_z : Zc w 0 (.agg #[.bool (decide (z < 0)), .slice A (Za z.natAbs).length c]) z) (h1 : one = 1) :
   Calls Tryz.prog 106 #[.agg #[.bool (decide (z < 0)), .slice A (Za z.natAbs).length c]] w (XO w z one) := by
 have OW := Hd o_z
 have H1 := Hd h1
 clear o_z h1
 have b0 := (((Below.refl w.heap.size w).alloc (Nat.le_refl _) (.cells #[.bool (decide (z < 0)), .slice A (Za z.natAbs).length c] 24)).alloc (by simp) (.cells #[.bool false, .slice none 0 0, .bool false, .slice none 0 0] 26))
 have p0 := (Zp.new w 24 (.bool (decide (z < 0))) (.slice A (Za z.natAbs).length c)).alloc (.cells #[.bool false, .slice none 0 0, .bool false, .slice none 0 0] 26)
 have p1 := Zw.new (w.alloc (.cells #[.bool (decide (z < 0)), .slice A (Za z.natAbs).length c] 24)) (.bool false) (.slice none 0 0) (.bool false) (.slice none 0 0)
 simp only [World.size_alloc] at p1
 have V_z := Hd (NV.of h_z b0 p0)
 have P_r0 := Hd p1
 have RW_z := Hd h_z
 have HBW := Hd b0
 clear b0 p0 p1 h_z
 go_enter Tryz.func106, Tryz.ntmps106
 obtain ⟨W, E⟩ : ∃ W, W = ((w.alloc (.cells #[.bool (decide (z < 0)), .slice A (Za z.natAbs).length c] 24)).alloc (.cells #[.bool false, .slice none 0 0, .bool false, .slice none 0 0] 26)) := ⟨_, rfl⟩
 go_upto_region 1 with fail
 rw [<- E] at V_z P_r0 HBW ⊢
 clear E
 have hszr := P_r0.out.blk.lt
 have O_z := Hd (OW.out.below HBW.out)
 clear OW
 go_wp2_with fail
 refine Zf [.val (.agg #[.bool (decide (z < 0)), .slice A (Za z.natAbs).length c]) [], .any false (fun u V => Zc V 0 u one) [], .any false (fun u V => ZG V 0 u z one) [1], .old (w.heap.size + 1) 26 #[.bool false, .slice none 0 0, .bool false, .slice none 0 0] 0 4 2 []] (w.heap.size + 1) W [26] Xh _ Zg (by have := P_r0.out.blk.lt; omega) (Below.refl _ _) (Zq.refl _ _ _) rfl ?_ ?_ ?_ ?_ ?_ ?_ ?_ ?_ rfl (by simp [ZH]) ?_ ?_ ?_ ?_
 iterate 8 kernel_rfl
 . simp only [Zu, and_true]
   exact ⟨fun u V V' h k => h.kept k (by decide), fun u V V' h k => h.kept k (by decide)⟩
 . simp only [ZR, and_true]
   exact ⟨Nat.le_refl _, P_r0.out.blk.lt, P_r0.out.blk, by simp⟩
 . simp (maxSteps := 4000000) [Zz, Yj, Zh, ZA, Zl]
   repeat' (first | apply And.intro | (intro (u : Value)) | (intro (u : Nat)))
   all_goals try exact ⟨_, _, _, rfl, rfl, rfl, rfl, YB⟩
   all_goals first
   | (intro V hV hK
      obtain ⟨-, a_z, b_z, -, -⟩ := (Zp.mk (hK.blk V_z.out.pair.blk (by decide))).facts
      clear hV hK
      go_simp
      first
      | exact Below.refl _ _
      | ((with_reducible refine (eof 1 one H1.out (by decide) (by decide) V).mono ?_); rintro _ _ ⟨_, rfl, x, y⟩; exact ⟨x.base (Nat.zero_le _), y⟩))
   | (intro V hV hK h1
      have oz := O_z.out.kept hK (by decide)
      obtain ⟨A6, c6, rfl, -⟩ := h1.raw
      clear hV hK
      go_simp
      exact ⟨⟨_, _, _, _, rfl, oz, h1⟩, Below.refl _ _⟩)
   | exact fun _ _ _ (h : ZG _ _ _ _ _) => h.cells
 . simp [Yn, ZD, Zh, ZA, Zl]
   intro u1 u2 V hV hK h1 h2 bq _ _ _
   have HF := Hd h2
   obtain ⟨A6, c6, A7, c7, rfl, -⟩ := h2.form
   simp [Z9, Value.cells] at bq
   have k0 := bq.cell 0
   have k1 := bq.cell 1
   have k2 := bq.cell 2
   have k3 := bq.cell 3
   simp at k0 k1 k2 k3
   have HB9 := Hd (HBW.out.trans (hV.mono (by omega)))
   clear h1 h2 hV hK bq
   go_wp2_with fail
   exact bodyPost_ret (by simp [results, Tryz.results106, go_sem, k0, k1, k2, k3]) rfl ⟨_, rfl, HF.out, HB9.out⟩

theorem ratio_Read_ff (s a b : ByteArray) (n : Int) (w : World)  (C1 : ∀ V, Calls Tryz.prog 104 #[.string s, .string ⟨#[47]⟩] V fun e w' => e = .returned (.tuple #[.string a, .string b, .bool false]) /\ Below V.heap.size V w') (C2 : ∀ V, Calls Tryz.prog 105 #[.string a] V (XD V n false)) :
  Calls Tryz.prog 27 #[.string s] w (ZZ w n 1 false) := by
 have H1 := Hd C1
 have H2 := Hd C2
 obtain ⟨one, hone⟩ : ∃ k : Int, k = 1 := ⟨_, rfl⟩
 have HONE := Hd hone
 have H3 := Hd (fun (V : World) (A : Option Addr) (c : Nat) (h : Zr V A c (Za n.natAbs)) (o_z : Zc V 0 (.agg #[.bool (decide (n < 0)), .slice A (Za n.natAbs).length c]) n) => ratio_Whole n one A c V h o_z hone)
 rw [show (ZZ w n 1 false) = ZZ w n one false by rw [hone]]
 clear C1 C2 hone
 have b0 := ((Below.refl w.heap.size w).alloc (Nat.le_refl _) (.cells #[.bool false, .slice none 0 0, .bool false, .slice none 0 0] 26))
 have p0 := Zw.new w (.bool false) (.slice none 0 0) (.bool false) (.slice none 0 0)
 have P_r0 := Hd p0
 have HBW := Hd b0
 clear b0 p0 
 go_enter Tryz.func27, Tryz.ntmps27
 obtain ⟨W, E⟩ : ∃ W, W = (w.alloc (.cells #[.bool false, .slice none 0 0, .bool false, .slice none 0 0] 26)) := ⟨_, rfl⟩
 go_upto_region 1 with fail
 rw [<- E] at P_r0 HBW ⊢
 clear E
 have hsz := P_r0.out.blk.lt
 clear hsz
 go_wp2_with fail
 refine (H1.out W).mono ?_
 rintro e x1 ⟨rfl, hb⟩
 have P_r0 := Hd (P_r0.out.below hb)
 have HBW := Hd (Zb HBW.out hb)
 clear hb
 go_wp2_with fail
 refine (H2.out x1).mono ?_
 rintro e x2 ⟨v, rfl, hI, hb⟩
 obtain ⟨A1, c1, rfl, r1⟩ := hI.raw
 have hI0 := hI.base (Nat.zero_le _)
 have P_r0 := Hd (P_r0.out.below hb)
 have HBW := Hd (Zb HBW.out hb)
 have R_n := Hd r1
 clear hb r1
 have O_n := Hd hI0
 clear hI hI0
 go_upto_region 3 with fail
 have ha := ((Below.refl x2.heap.size x2).alloc (Nat.le_refl _) (.cells #[.bool (decide (n < 0)), .slice A1 (Za n.natAbs).length c1] 24))
 have p_n := (Zp.new x2 24 (.bool (decide (n < 0))) (.slice A1 (Za n.natAbs).length c1))
 obtain ⟨y3, E⟩ : ∃ W, W = (x2.alloc (.cells #[.bool (decide (n < 0)), .slice A1 (Za n.natAbs).length c1] 24)) := ⟨_, rfl⟩
 rw [<- E] at ha p_n ⊢
 have V_n := Hd (NV.of R_n.out ha p_n)
 have P_r0 := Hd (P_r0.out.below ha)
 have O_n := Hd (O_n.out.below ha)
 have HBW := Hd (Zb HBW.out ha)
 obtain ⟨g3, hg⟩ : ∃ g, g = x2.heap.size := ⟨_, rfl⟩
 rw [<- hg] at V_n ⊢
 clear E ha hg p_n
 obtain ⟨l_n, a_n, b_n, -, -⟩ := V_n.out.pair.facts
 go_wp2_with fail
 refine (H3.out y3 A1 c1 V_n.out.raw O_n.out).mono ?_
 rintro e x4 ⟨v, rfl, hF, hb⟩
 obtain ⟨A6, c6, A7, c7, rfl, -⟩ := hF.form
 clear l_n a_n b_n
 have V_n := Hd (V_n.out.below hb)
 have P_r0 := Hd (P_r0.out.below hb)
 have O_n := Hd (O_n.out.below hb)
 have HBW := Hd (Zb HBW.out hb)
 clear hb
 have HF := Hd hF
 clear hF
 obtain ⟨l_r0, a_r0, b_r0, f_r0, g_r0⟩ := P_r0.out.facts
 have HQ := Hd (P_r0.out.store (.bool (decide (n < 0))) (.slice A6 (Za n.natAbs).length c6) (.bool (decide (one < 0))) (.slice A7 (Za one.natAbs).length c7))
 have HB := Hd (Yc HBW.out (show w.heap.size <= w.heap.size by omega) (.bool (decide (n < 0))) (.slice A6 (Za n.natAbs).length c6) (.bool (decide (one < 0))) (.slice A7 (Za one.natAbs).length c7))
 have HF9 := Hd (HF.out.quad P_r0.out (.bool (decide (n < 0))) (.slice A6 (Za n.natAbs).length c6) (.bool (decide (one < 0))) (.slice A7 (Za one.natAbs).length c7))
 go_wp2_with fail
 obtain ⟨_, k0, k1, k2, k3, _, _, _, _⟩ := HQ.out.facts
 exact bodyPost_ret (by simp [results, Tryz.results27, go_sem, k0, k1, k2, k3]) rfl ⟨_, rfl, HF9.out, HB.out⟩

theorem ratio_Read_ft (s a b : ByteArray) (n : Int) (w : World)  (C1 : ∀ V, Calls Tryz.prog 104 #[.string s, .string ⟨#[47]⟩] V fun e w' => e = .returned (.tuple #[.string a, .string b, .bool false]) /\ Below V.heap.size V w') (C2 : ∀ V, Calls Tryz.prog 105 #[.string a] V (XD V n true)) :
  Calls Tryz.prog 27 #[.string s] w (ZZ w n 1 true) := by
 have H1 := Hd C1
 have H2 := Hd C2
 obtain ⟨one, hone⟩ : ∃ k : Int, k = 1 := ⟨_, rfl⟩
 have HONE := Hd hone
 have H3 := Hd (fun (V : World) (A : Option Addr) (c : Nat) (h : Zr V A c (Za n.natAbs)) (o_z : Zc V 0 (.agg #[.bool (decide (n < 0)), .slice A (Za n.natAbs).length c]) n) => ratio_Whole n one A c V h o_z hone)
 rw [show (ZZ w n 1 true) = ZZ w n one true by rw [hone]]
 clear C1 C2 hone
 have b0 := ((Below.refl w.heap.size w).alloc (Nat.le_refl _) (.cells #[.bool false, .slice none 0 0, .bool false, .slice none 0 0] 26))
 have p0 := Zw.new w (.bool false) (.slice none 0 0) (.bool false) (.slice none 0 0)
 have P_r0 := Hd p0
 have HBW := Hd b0
 clear b0 p0 
 go_enter Tryz.func27, Tryz.ntmps27
 obtain ⟨W, E⟩ : ∃ W, W = (w.alloc (.cells #[.bool false, .slice none 0 0, .bool false, .slice none 0 0] 26)) := ⟨_, rfl⟩
 go_upto_region 1 with fail
 rw [<- E] at P_r0 HBW ⊢
 clear E
 have hsz := P_r0.out.blk.lt
 clear hsz
 go_wp2_with fail
 refine (H1.out W).mono ?_
 rintro e x1 ⟨rfl, hb⟩
 have P_r0 := Hd (P_r0.out.below hb)
 have HBW := Hd (Zb HBW.out hb)
 clear hb
 go_wp2_with fail
 refine (H2.out x1).mono ?_
 rintro e x2 ⟨v, rfl, hI, hb⟩
 obtain ⟨A1, c1, rfl, r1⟩ := hI.raw
 have hI0 := hI.base (Nat.zero_le _)
 have P_r0 := Hd (P_r0.out.below hb)
 have HBW := Hd (Zb HBW.out hb)
 have R_n := Hd r1
 clear hb r1
 have O_n := Hd hI0
 clear hI hI0
 go_upto_region 3 with fail
 have ha := ((Below.refl x2.heap.size x2).alloc (Nat.le_refl _) (.cells #[.bool (decide (n < 0)), .slice A1 (Za n.natAbs).length c1] 24))
 have p_n := (Zp.new x2 24 (.bool (decide (n < 0))) (.slice A1 (Za n.natAbs).length c1))
 obtain ⟨y3, E⟩ : ∃ W, W = (x2.alloc (.cells #[.bool (decide (n < 0)), .slice A1 (Za n.natAbs).length c1] 24)) := ⟨_, rfl⟩
 rw [<- E] at ha p_n ⊢
 have V_n := Hd (NV.of R_n.out ha p_n)
 have P_r0 := Hd (P_r0.out.below ha)
 have O_n := Hd (O_n.out.below ha)
 have HBW := Hd (Zb HBW.out ha)
 obtain ⟨g3, hg⟩ : ∃ g, g = x2.heap.size := ⟨_, rfl⟩
 rw [<- hg] at V_n ⊢
 clear E ha hg p_n
 obtain ⟨l_n, a_n, b_n, -, -⟩ := V_n.out.pair.facts
 go_wp2_with fail
 refine (H3.out y3 A1 c1 V_n.out.raw O_n.out).mono ?_
 rintro e x4 ⟨v, rfl, hF, hb⟩
 obtain ⟨A6, c6, A7, c7, rfl, -⟩ := hF.form
 clear l_n a_n b_n
 have V_n := Hd (V_n.out.below hb)
 have P_r0 := Hd (P_r0.out.below hb)
 have O_n := Hd (O_n.out.below hb)
 have HBW := Hd (Zb HBW.out hb)
 clear hb
 have HF := Hd hF
 clear hF
 obtain ⟨l_r0, a_r0, b_r0, f_r0, g_r0⟩ := P_r0.out.facts
 have HQ := Hd (P_r0.out.store (.bool (decide (n < 0))) (.slice A6 (Za n.natAbs).length c6) (.bool (decide (one < 0))) (.slice A7 (Za one.natAbs).length c7))
 have HB := Hd (Yc HBW.out (show w.heap.size <= w.heap.size by omega) (.bool (decide (n < 0))) (.slice A6 (Za n.natAbs).length c6) (.bool (decide (one < 0))) (.slice A7 (Za one.natAbs).length c7))
 have HF9 := Hd (HF.out.quad P_r0.out (.bool (decide (n < 0))) (.slice A6 (Za n.natAbs).length c6) (.bool (decide (one < 0))) (.slice A7 (Za one.natAbs).length c7))
 go_wp2_with fail
 obtain ⟨_, k0, k1, k2, k3, _, _, _, _⟩ := HQ.out.facts
 exact bodyPost_ret (by simp [results, Tryz.results27, go_sem, k0, k1, k2, k3]) rfl ⟨_, rfl, HF9.out, HB.out⟩

theorem ratio_Read_tf (s a b : ByteArray) (n : Int) (w : World)  (C1 : ∀ V, Calls Tryz.prog 104 #[.string s, .string ⟨#[47]⟩] V fun e w' => e = .returned (.tuple #[.string a, .string b, .bool true]) /\ Below V.heap.size V w') (C2 : ∀ V, Calls Tryz.prog 105 #[.string a] V (XD V n false)) :
  Calls Tryz.prog 27 #[.string s] w (ZZ w n 1 false) := by
 have H1 := Hd C1
 have H2 := Hd C2
 obtain ⟨one, hone⟩ : ∃ k : Int, k = 1 := ⟨_, rfl⟩
 have HONE := Hd hone
 have H3 := Hd (fun (V : World) (A : Option Addr) (c : Nat) (h : Zr V A c (Za n.natAbs)) (o_z : Zc V 0 (.agg #[.bool (decide (n < 0)), .slice A (Za n.natAbs).length c]) n) => ratio_Whole n one A c V h o_z hone)
 rw [show (ZZ w n 1 false) = ZZ w n one false by rw [hone]]
 clear C1 C2 hone
 have b0 := ((Below.refl w.heap.size w).alloc (Nat.le_refl _) (.cells #[.bool false, .slice none 0 0, .bool false, .slice none 0 0] 26))
 have p0 := Zw.new w (.bool false) (.slice none 0 0) (.bool false) (.slice none 0 0)
 have P_r0 := Hd p0
 have HBW := Hd b0
 clear b0 p0 
 go_enter Tryz.func27, Tryz.ntmps27
 obtain ⟨W, E⟩ : ∃ W, W = (w.alloc (.cells #[.bool false, .slice none 0 0, .bool false, .slice none 0 0] 26)) := ⟨_, rfl⟩
 go_upto_region 1 with fail
 rw [<- E] at P_r0 HBW ⊢
 clear E
 have hsz := P_r0.out.blk.lt
 clear hsz
 go_wp2_with fail
 refine (H1.out W).mono ?_
 rintro e x1 ⟨rfl, hb⟩
 have P_r0 := Hd (P_r0.out.below hb)
 have HBW := Hd (Zb HBW.out hb)
 clear hb
 go_wp2_with fail
 refine (H2.out x1).mono ?_
 rintro e x2 ⟨v, rfl, hI, hb⟩
 obtain ⟨A1, c1, rfl, r1⟩ := hI.raw
 have hI0 := hI.base (Nat.zero_le _)
 have P_r0 := Hd (P_r0.out.below hb)
 have HBW := Hd (Zb HBW.out hb)
 have R_n := Hd r1
 clear hb r1
 have O_n := Hd hI0
 clear hI hI0
 go_upto_region 3 with fail
 have ha := ((Below.refl x2.heap.size x2).alloc (Nat.le_refl _) (.cells #[.bool (decide (n < 0)), .slice A1 (Za n.natAbs).length c1] 24))
 have p_n := (Zp.new x2 24 (.bool (decide (n < 0))) (.slice A1 (Za n.natAbs).length c1))
 obtain ⟨y3, E⟩ : ∃ W, W = (x2.alloc (.cells #[.bool (decide (n < 0)), .slice A1 (Za n.natAbs).length c1] 24)) := ⟨_, rfl⟩
 rw [<- E] at ha p_n ⊢
 have V_n := Hd (NV.of R_n.out ha p_n)
 have P_r0 := Hd (P_r0.out.below ha)
 have O_n := Hd (O_n.out.below ha)
 have HBW := Hd (Zb HBW.out ha)
 obtain ⟨g3, hg⟩ : ∃ g, g = x2.heap.size := ⟨_, rfl⟩
 rw [<- hg] at V_n ⊢
 clear E ha hg p_n
 obtain ⟨l_n, a_n, b_n, -, -⟩ := V_n.out.pair.facts
 go_wp2_with fail
 refine (H3.out y3 A1 c1 V_n.out.raw O_n.out).mono ?_
 rintro e x4 ⟨v, rfl, hF, hb⟩
 obtain ⟨A6, c6, A7, c7, rfl, -⟩ := hF.form
 clear l_n a_n b_n
 have V_n := Hd (V_n.out.below hb)
 have P_r0 := Hd (P_r0.out.below hb)
 have O_n := Hd (O_n.out.below hb)
 have HBW := Hd (Zb HBW.out hb)
 clear hb
 have HF := Hd hF
 clear hF
 obtain ⟨l_r0, a_r0, b_r0, f_r0, g_r0⟩ := P_r0.out.facts
 have HQ := Hd (P_r0.out.store (.bool (decide (n < 0))) (.slice A6 (Za n.natAbs).length c6) (.bool (decide (one < 0))) (.slice A7 (Za one.natAbs).length c7))
 have HB := Hd (Yc HBW.out (show w.heap.size <= w.heap.size by omega) (.bool (decide (n < 0))) (.slice A6 (Za n.natAbs).length c6) (.bool (decide (one < 0))) (.slice A7 (Za one.natAbs).length c7))
 have HF9 := Hd (HF.out.quad P_r0.out (.bool (decide (n < 0))) (.slice A6 (Za n.natAbs).length c6) (.bool (decide (one < 0))) (.slice A7 (Za one.natAbs).length c7))
 go_wp2_with fail
 obtain ⟨_, k0, k1, k2, k3, _, _, _, _⟩ := HQ.out.facts
 exact bodyPost_ret (by simp [results, Tryz.results27, go_sem, k0, k1, k2, k3]) rfl ⟨_, rfl, HF9.out, HB.out⟩

theorem ratio_Read_C (s a b : ByteArray) (n d : Int) (w : World)  (C1 : ∀ V, Calls Tryz.prog 104 #[.string s, .string ⟨#[47]⟩] V fun e w' => e = .returned (.tuple #[.string a, .string b, .bool true]) /\ Below V.heap.size V w') (C2 : ∀ V, Calls Tryz.prog 105 #[.string a] V (XD V n true)) (C3 : ∀ V, Calls Tryz.prog 105 #[.string b] V (XD V d false))  :
   Calls Tryz.prog 27 #[.string s] w (ZZ w 0 0 false) := by
 have H1 := Hd C1
 have H2 := Hd C2
 have H3 := Hd C3
 clear C1 C2 C3
 have b0 := ((Below.refl w.heap.size w).alloc (Nat.le_refl _) (.cells #[.bool false, .slice none 0 0, .bool false, .slice none 0 0] 26))
 have p0 := Zw.new w (.bool false) (.slice none 0 0) (.bool false) (.slice none 0 0)
 have P_r0 := Hd p0
 have HBW := Hd b0
 clear b0 p0 
 go_enter Tryz.func27, Tryz.ntmps27
 obtain ⟨W, E⟩ : ∃ W, W = (w.alloc (.cells #[.bool false, .slice none 0 0, .bool false, .slice none 0 0] 26)) := ⟨_, rfl⟩
 go_upto_region 1 with fail
 rw [<- E] at P_r0 HBW ⊢
 clear E
 go_wp2_with fail
 refine (H1.out W).mono ?_
 rintro e x1 ⟨rfl, hb⟩
 have P_r0 := Hd (P_r0.out.below hb)
 have HBW := Hd (Zb HBW.out hb)
 clear hb
 go_wp2_with fail
 refine (H2.out x1).mono ?_
 rintro e x2 ⟨v, rfl, hI, hb⟩
 obtain ⟨A1, c1, rfl, r1⟩ := hI.raw
 have hI0 := hI.base (Nat.zero_le _)
 have P_r0 := Hd (P_r0.out.below hb)
 have HBW := Hd (Zb HBW.out hb)
 have R_n := Hd r1
 clear hb r1
 have O_n := Hd hI0
 clear hI hI0
 go_upto_region 3 with fail
 have ha := ((Below.refl x2.heap.size x2).alloc (Nat.le_refl _) (.cells #[.bool (decide (n < 0)), .slice A1 (Za n.natAbs).length c1] 24))
 have p_n := (Zp.new x2 24 (.bool (decide (n < 0))) (.slice A1 (Za n.natAbs).length c1))
 obtain ⟨y3, E⟩ : ∃ W, W = (x2.alloc (.cells #[.bool (decide (n < 0)), .slice A1 (Za n.natAbs).length c1] 24)) := ⟨_, rfl⟩
 rw [<- E] at ha p_n ⊢
 have V_n := Hd (NV.of R_n.out ha p_n)
 have P_r0 := Hd (P_r0.out.below ha)
 have O_n := Hd (O_n.out.below ha)
 have HBW := Hd (Zb HBW.out ha)
 obtain ⟨g3, hg⟩ : ∃ g, g = x2.heap.size := ⟨_, rfl⟩
 rw [<- hg] at V_n ⊢
 clear E ha hg p_n
 go_wp2_with fail
 refine (H3.out y3).mono ?_
 rintro e x4 ⟨v, rfl, hI, hb⟩
 obtain ⟨A2, c2, rfl, r1⟩ := hI.raw
 have hI0 := hI.base (Nat.zero_le _)
 have V_n := Hd (V_n.out.below hb)
 have P_r0 := Hd (P_r0.out.below hb)
 have O_n := Hd (O_n.out.below hb)
 have HBW := Hd (Zb HBW.out hb)
 have R_d := Hd r1
 clear hb r1
 have O_d := Hd hI0
 clear hI hI0
 go_upto_region 6 with fail
 have ha := ((Below.refl x4.heap.size x4).alloc (Nat.le_refl _) (.cells #[.bool (decide (d < 0)), .slice A2 (Za d.natAbs).length c2] 24))
 have p_d := (Zp.new x4 24 (.bool (decide (d < 0))) (.slice A2 (Za d.natAbs).length c2))
 obtain ⟨y5, E⟩ : ∃ W, W = (x4.alloc (.cells #[.bool (decide (d < 0)), .slice A2 (Za d.natAbs).length c2] 24)) := ⟨_, rfl⟩
 rw [<- E] at ha p_d ⊢
 have V_d := Hd (NV.of R_d.out ha p_d)
 have V_n := Hd (V_n.out.below ha)
 have P_r0 := Hd (P_r0.out.below ha)
 have O_n := Hd (O_n.out.below ha)
 have O_d := Hd (O_d.out.below ha)
 have HBW := Hd (Zb HBW.out ha)
 obtain ⟨g5, hg⟩ : ∃ g, g = x4.heap.size := ⟨_, rfl⟩
 rw [<- hg] at V_d ⊢
 clear E ha hg p_d
 obtain ⟨l_n, a_n, b_n, -, -⟩ := V_n.out.pair.facts
 obtain ⟨l_d, a_d, b_d, -, -⟩ := V_d.out.pair.facts
 go_upto_region 7 with fail
 clear l_n a_n b_n l_d a_d b_d
 have ha := (Below.refl y5.heap.size y5).alloc (Nat.le_refl _) (.cells #[.bool (decide (n < 0)), .slice A1 (Za n.natAbs).length c1, .bool (decide (d < 0)), .slice A2 (Za d.natAbs).length c2] 26)
 have pp := Zw.new y5 (.bool (decide (n < 0))) (.slice A1 (Za n.natAbs).length c1) (.bool (decide (d < 0))) (.slice A2 (Za d.natAbs).length c2)
 obtain ⟨y9, E⟩ : ∃ Y, Y = y5.alloc (.cells #[.bool (decide (n < 0)), .slice A1 (Za n.natAbs).length c1, .bool (decide (d < 0)), .slice A2 (Za d.natAbs).length c2] 26) := ⟨_, rfl⟩
 rw [<- E] at ha pp ⊢
 have V_n := Hd (V_n.out.below ha)
 have V_d := Hd (V_d.out.below ha)
 have P_r0 := Hd (P_r0.out.below ha)
 have O_n := Hd (O_n.out.below ha)
 have O_d := Hd (O_d.out.below ha)
 have HBW := Hd (Zb HBW.out ha)
 obtain ⟨gq, hg⟩ : ∃ g, g = y5.heap.size := ⟨_, rfl⟩
 rw [<- hg] at pp ⊢
 have V_q := Hd pp
 clear E ha hg pp
 go_wp2_with fail
 obtain ⟨W0, hW⟩ : ∃ W0, W0 = y9 := ⟨_, rfl⟩
 rw [<- hW] at HBW P_r0 O_n O_d V_q V_n V_d  ⊢
 clear hW
 refine Zf [.val (.bool false) [], .val (.bool true) [], .val (.bool true) [], .skip, .skip, .skip, .val (.bool true) [], .val (.bool true) [], .skip, .skip, .skip, .skip, .val (.bool true) [], .val (.bool true) [], .skip, .skip, .skip, .skip, .skip, .skip, .val (.bool true) []] W0.heap.size W0 [] (fun _ _ => False) _ Zg (Nat.le_refl _) (Below.refl _ _) (Zq.refl _ _ _) rfl ?_ ?_ ?_ ?_ ?_ ?_ ?_ ?_ rfl (by simp [ZH]) ?_ ?_ ?_ ?_
 iterate 8 kernel_rfl
 . simp only [Zu]
 . simp only [ZR]
 . simp (maxSteps := 4000000) [Zz, Yj, Zh, ZA, Zl]
   repeat' (first | apply And.intro | (intro (u0 : Value)))
   all_goals first
   | (intro V hV hK
      clear hV hK
      go_simp
      first
      | exact Below.refl _ _
      | exact ⟨by first | rfl | decide | go_num, Below.refl _ _⟩)

 . simp [Yn, ZD, Zh, ZA, Zl]
   intro V hV hK _ _ _
   have V_n := Hd (V_n.out.below hV)
   have V_d := Hd (V_d.out.below hV)
   have P_r0 := Hd (P_r0.out.below hV)
   have O_n := Hd (O_n.out.below hV)
   have O_d := Hd (O_d.out.below hV)
   have V_q := Hd (V_q.out.below hV)
   have HBW := Hd (Zb HBW.out hV)
   clear hV hK
   obtain ⟨v6, hV0⟩ : ∃ Y, Y = V := ⟨_, rfl⟩
   rw [<- hV0] at HBW P_r0 O_n O_d V_q V_n V_d  ⊢
   clear hV0
   obtain ⟨l_r0, a_r0, b_r0, f_r0, g_r0⟩ := P_r0.out.facts
   have HQ := Hd (P_r0.out.store (.bool false) (.slice none 0 0) (.bool false) (.slice none 0 0))
   have HB := Hd (Yc HBW.out (show w.heap.size <= w.heap.size by omega) (.bool false) (.slice none 0 0) (.bool false) (.slice none 0 0))
   go_wp2_with fail
   obtain ⟨_, k0, k1, k2, k3, _, _, _, _⟩ := HQ.out.facts
   exact bodyPost_ret (by simp [results, Tryz.results27, go_sem, k0, k1, k2, k3]) rfl ⟨_, rfl, ZG.zero _ _, HB.out⟩

theorem ratio_Read_D (s a b : ByteArray) (n d : Int) (w : World)  (C1 : ∀ V, Calls Tryz.prog 104 #[.string s, .string ⟨#[47]⟩] V fun e w' => e = .returned (.tuple #[.string a, .string b, .bool true]) /\ Below V.heap.size V w') (C2 : ∀ V, Calls Tryz.prog 105 #[.string a] V (XD V n true)) (C3 : ∀ V, Calls Tryz.prog 105 #[.string b] V (XD V d true)) (hd : d <= 0) :
   Calls Tryz.prog 27 #[.string s] w (ZZ w 0 0 false) := by
 have H1 := Hd C1
 have H2 := Hd C2
 have H3 := Hd C3
 obtain ⟨one, hone⟩ : ∃ k : Int, k = 1 := ⟨_, rfl⟩
 obtain ⟨sg, hsg⟩ : ∃ k : Int, k = d.sign := ⟨_, rfl⟩
 obtain ⟨g, hg0⟩ : ∃ k : Int, k = ZK n d := ⟨_, rfl⟩
 have hol : lz one <= 2 := by rw [hone]; decide
 have HONE := Hd hone
 have HSG := Hd hsg
 have HG := Hd (show g = ((Nat.gcd n.natAbs d.natAbs : Nat) : Int) from hg0)
 have HLE := Hd (show decide (sg <= 0) = true from decide_eq_true (by rw [hsg]; exact Int.sign_nonpos_iff.2 hd))
 clear hone hsg hg0 hd
 clear C1 C2 C3
 have b0 := ((Below.refl w.heap.size w).alloc (Nat.le_refl _) (.cells #[.bool false, .slice none 0 0, .bool false, .slice none 0 0] 26))
 have p0 := Zw.new w (.bool false) (.slice none 0 0) (.bool false) (.slice none 0 0)
 have P_r0 := Hd p0
 have HBW := Hd b0
 clear b0 p0 
 go_enter Tryz.func27, Tryz.ntmps27
 obtain ⟨W, E⟩ : ∃ W, W = (w.alloc (.cells #[.bool false, .slice none 0 0, .bool false, .slice none 0 0] 26)) := ⟨_, rfl⟩
 go_upto_region 1 with fail
 rw [<- E] at P_r0 HBW ⊢
 clear E
 go_wp2_with fail
 refine (H1.out W).mono ?_
 rintro e x1 ⟨rfl, hb⟩
 have P_r0 := Hd (P_r0.out.below hb)
 have HBW := Hd (Zb HBW.out hb)
 clear hb
 go_wp2_with fail
 refine (H2.out x1).mono ?_
 rintro e x2 ⟨v, rfl, hI, hb⟩
 obtain ⟨A1, c1, rfl, r1⟩ := hI.raw
 have hI0 := hI.base (Nat.zero_le _)
 have P_r0 := Hd (P_r0.out.below hb)
 have HBW := Hd (Zb HBW.out hb)
 have R_n := Hd r1
 clear hb r1
 have O_n := Hd hI0
 clear hI hI0
 go_upto_region 3 with fail
 have ha := ((Below.refl x2.heap.size x2).alloc (Nat.le_refl _) (.cells #[.bool (decide (n < 0)), .slice A1 (Za n.natAbs).length c1] 24))
 have p_n := (Zp.new x2 24 (.bool (decide (n < 0))) (.slice A1 (Za n.natAbs).length c1))
 obtain ⟨y3, E⟩ : ∃ W, W = (x2.alloc (.cells #[.bool (decide (n < 0)), .slice A1 (Za n.natAbs).length c1] 24)) := ⟨_, rfl⟩
 rw [<- E] at ha p_n ⊢
 have V_n := Hd (NV.of R_n.out ha p_n)
 have P_r0 := Hd (P_r0.out.below ha)
 have O_n := Hd (O_n.out.below ha)
 have HBW := Hd (Zb HBW.out ha)
 obtain ⟨g3, hg⟩ : ∃ g, g = x2.heap.size := ⟨_, rfl⟩
 rw [<- hg] at V_n ⊢
 clear E ha hg p_n
 go_wp2_with fail
 refine (H3.out y3).mono ?_
 rintro e x4 ⟨v, rfl, hI, hb⟩
 obtain ⟨A2, c2, rfl, r1⟩ := hI.raw
 have hI0 := hI.base (Nat.zero_le _)
 have V_n := Hd (V_n.out.below hb)
 have P_r0 := Hd (P_r0.out.below hb)
 have O_n := Hd (O_n.out.below hb)
 have HBW := Hd (Zb HBW.out hb)
 have R_d := Hd r1
 clear hb r1
 have O_d := Hd hI0
 clear hI hI0
 go_upto_region 6 with fail
 have ha := ((Below.refl x4.heap.size x4).alloc (Nat.le_refl _) (.cells #[.bool (decide (d < 0)), .slice A2 (Za d.natAbs).length c2] 24))
 have p_d := (Zp.new x4 24 (.bool (decide (d < 0))) (.slice A2 (Za d.natAbs).length c2))
 obtain ⟨y5, E⟩ : ∃ W, W = (x4.alloc (.cells #[.bool (decide (d < 0)), .slice A2 (Za d.natAbs).length c2] 24)) := ⟨_, rfl⟩
 rw [<- E] at ha p_d ⊢
 have V_d := Hd (NV.of R_d.out ha p_d)
 have V_n := Hd (V_n.out.below ha)
 have P_r0 := Hd (P_r0.out.below ha)
 have O_n := Hd (O_n.out.below ha)
 have O_d := Hd (O_d.out.below ha)
 have HBW := Hd (Zb HBW.out ha)
 obtain ⟨g5, hg⟩ : ∃ g, g = x4.heap.size := ⟨_, rfl⟩
 rw [<- hg] at V_d ⊢
 clear E ha hg p_d
 obtain ⟨l_n, a_n, b_n, -, -⟩ := V_n.out.pair.facts
 obtain ⟨l_d, a_d, b_d, -, -⟩ := V_d.out.pair.facts
 go_upto_region 7 with fail
 clear l_n a_n b_n l_d a_d b_d
 have ha := (Below.refl y5.heap.size y5).alloc (Nat.le_refl _) (.cells #[.bool (decide (n < 0)), .slice A1 (Za n.natAbs).length c1, .bool (decide (d < 0)), .slice A2 (Za d.natAbs).length c2] 26)
 have pp := Zw.new y5 (.bool (decide (n < 0))) (.slice A1 (Za n.natAbs).length c1) (.bool (decide (d < 0))) (.slice A2 (Za d.natAbs).length c2)
 obtain ⟨y9, E⟩ : ∃ Y, Y = y5.alloc (.cells #[.bool (decide (n < 0)), .slice A1 (Za n.natAbs).length c1, .bool (decide (d < 0)), .slice A2 (Za d.natAbs).length c2] 26) := ⟨_, rfl⟩
 rw [<- E] at ha pp ⊢
 have V_n := Hd (V_n.out.below ha)
 have V_d := Hd (V_d.out.below ha)
 have P_r0 := Hd (P_r0.out.below ha)
 have O_n := Hd (O_n.out.below ha)
 have O_d := Hd (O_d.out.below ha)
 have HBW := Hd (Zb HBW.out ha)
 obtain ⟨gq, hg⟩ : ∃ g, g = y5.heap.size := ⟨_, rfl⟩
 rw [<- hg] at pp ⊢
 have V_q := Hd pp
 clear E ha hg pp
 go_wp2_with fail
 obtain ⟨W0, hW⟩ : ∃ W0, W0 = y9 := ⟨_, rfl⟩
 rw [<- hW] at HBW P_r0 O_n O_d V_q V_n V_d  ⊢
 clear hW
 refine Zf [.val (.bool true) [], .val (.bool false) [], .val (.bool false) [], .val (.agg #[.bool (decide (d < 0)), .slice A2 (Za d.natAbs).length c2]) [], .val (.int .i64 sg) [], .val (.bool true) [], .val (.bool true) [], .val (.bool true) [], .skip, .skip, .skip, .skip, .val (.bool true) [], .val (.bool true) [], .skip, .skip, .skip, .skip, .skip, .skip, .val (.bool true) []] W0.heap.size W0 [] (fun _ _ => False) _ Zg (Nat.le_refl _) (Below.refl _ _) (Zq.refl _ _ _) rfl ?_ ?_ ?_ ?_ ?_ ?_ ?_ ?_ rfl (by simp [ZH]) ?_ ?_ ?_ ?_
 iterate 8 kernel_rfl
 . simp only [Zu]
 . simp only [ZR]
 . simp (maxSteps := 4000000) [Zz, Yj, Zh, ZA, Zl]
   repeat' (first | apply And.intro | (intro (u0 : Value)))
   all_goals first
   | (intro V hV hK
      obtain ⟨-, a_n, b_n, -, -⟩ := (V_n.out.below hV).pair.facts
      have r_n := Hd (V_n.out.below hV).raw
      obtain ⟨-, a_d, b_d, -, -⟩ := (V_d.out.below hV).pair.facts
      have r_d := Hd (V_d.out.below hV).raw
      have hle := HLE.out
      clear hV hK
      go_simp
      first
      | exact Below.refl _ _
      | exact ⟨by first | rfl | decide | go_num, Below.refl _ _⟩
      | ((with_reducible refine (Jp d sg A2 c2 V r_d.out HSG.out).mono ?_); rintro e w' ⟨rfl, hb⟩; exact ⟨rfl, hb⟩))

 . simp [Yn, ZD, Zh, ZA, Zl]
   intro V hV hK _ _ _
   have V_n := Hd (V_n.out.below hV)
   have V_d := Hd (V_d.out.below hV)
   have P_r0 := Hd (P_r0.out.below hV)
   have O_n := Hd (O_n.out.below hV)
   have O_d := Hd (O_d.out.below hV)
   have V_q := Hd (V_q.out.below hV)
   have HBW := Hd (Zb HBW.out hV)
   clear hV hK
   obtain ⟨v6, hV0⟩ : ∃ Y, Y = V := ⟨_, rfl⟩
   rw [<- hV0] at HBW P_r0 O_n O_d V_q V_n V_d  ⊢
   clear hV0
   obtain ⟨l_r0, a_r0, b_r0, f_r0, g_r0⟩ := P_r0.out.facts
   have HQ := Hd (P_r0.out.store (.bool false) (.slice none 0 0) (.bool false) (.slice none 0 0))
   have HB := Hd (Yc HBW.out (show w.heap.size <= w.heap.size by omega) (.bool false) (.slice none 0 0) (.bool false) (.slice none 0 0))
   go_wp2_with fail
   obtain ⟨_, k0, k1, k2, k3, _, _, _, _⟩ := HQ.out.facts
   exact bodyPost_ret (by simp [results, Tryz.results27, go_sem, k0, k1, k2, k3]) rfl ⟨_, rfl, ZG.zero _ _, HB.out⟩

theorem ratio_Read_E (s a b : ByteArray) (n d : Int) (w : World)  (C1 : ∀ V, Calls Tryz.prog 104 #[.string s, .string ⟨#[47]⟩] V fun e w' => e = .returned (.tuple #[.string a, .string b, .bool true]) /\ Below V.heap.size V w') (C2 : ∀ V, Calls Tryz.prog 105 #[.string a] V (XD V n true)) (C3 : ∀ V, Calls Tryz.prog 105 #[.string b] V (XD V d true)) (hld : lz d <= 7282) (hd : d = 1) :
   Calls Tryz.prog 27 #[.string s] w (ZZ w 0 0 false) := by
 have H1 := Hd C1
 have H2 := Hd C2
 have H3 := Hd C3
 obtain ⟨one, hone⟩ : ∃ k : Int, k = 1 := ⟨_, rfl⟩
 obtain ⟨sg, hsg⟩ : ∃ k : Int, k = d.sign := ⟨_, rfl⟩
 obtain ⟨g, hg0⟩ : ∃ k : Int, k = ZK n d := ⟨_, rfl⟩
 have hol : lz one <= 2 := by rw [hone]; decide
 have HONE := Hd hone
 have HSG := Hd hsg
 have HG := Hd (show g = ((Nat.gcd n.natAbs d.natAbs : Nat) : Int) from hg0)
 have HLE := Hd (show decide (sg <= 0) = false from decide_eq_false (by rw [hsg, Int.sign_eq_one_of_pos (by omega)]; decide))
 have HK1 := Hd (show (0 : Int) = Xw d one from by rw [hone, hd]; decide)
 clear hone hsg hg0 hd
 clear C1 C2 C3
 have b0 := ((Below.refl w.heap.size w).alloc (Nat.le_refl _) (.cells #[.bool false, .slice none 0 0, .bool false, .slice none 0 0] 26))
 have p0 := Zw.new w (.bool false) (.slice none 0 0) (.bool false) (.slice none 0 0)
 have P_r0 := Hd p0
 have HBW := Hd b0
 clear b0 p0 
 go_enter Tryz.func27, Tryz.ntmps27
 obtain ⟨W, E⟩ : ∃ W, W = (w.alloc (.cells #[.bool false, .slice none 0 0, .bool false, .slice none 0 0] 26)) := ⟨_, rfl⟩
 go_upto_region 1 with fail
 rw [<- E] at P_r0 HBW ⊢
 clear E
 go_wp2_with fail
 refine (H1.out W).mono ?_
 rintro e x1 ⟨rfl, hb⟩
 have P_r0 := Hd (P_r0.out.below hb)
 have HBW := Hd (Zb HBW.out hb)
 clear hb
 go_wp2_with fail
 refine (H2.out x1).mono ?_
 rintro e x2 ⟨v, rfl, hI, hb⟩
 obtain ⟨A1, c1, rfl, r1⟩ := hI.raw
 have hI0 := hI.base (Nat.zero_le _)
 have P_r0 := Hd (P_r0.out.below hb)
 have HBW := Hd (Zb HBW.out hb)
 have R_n := Hd r1
 clear hb r1
 have O_n := Hd hI0
 clear hI hI0
 go_upto_region 3 with fail
 have ha := ((Below.refl x2.heap.size x2).alloc (Nat.le_refl _) (.cells #[.bool (decide (n < 0)), .slice A1 (Za n.natAbs).length c1] 24))
 have p_n := (Zp.new x2 24 (.bool (decide (n < 0))) (.slice A1 (Za n.natAbs).length c1))
 obtain ⟨y3, E⟩ : ∃ W, W = (x2.alloc (.cells #[.bool (decide (n < 0)), .slice A1 (Za n.natAbs).length c1] 24)) := ⟨_, rfl⟩
 rw [<- E] at ha p_n ⊢
 have V_n := Hd (NV.of R_n.out ha p_n)
 have P_r0 := Hd (P_r0.out.below ha)
 have O_n := Hd (O_n.out.below ha)
 have HBW := Hd (Zb HBW.out ha)
 obtain ⟨g3, hg⟩ : ∃ g, g = x2.heap.size := ⟨_, rfl⟩
 rw [<- hg] at V_n ⊢
 clear E ha hg p_n
 go_wp2_with fail
 refine (H3.out y3).mono ?_
 rintro e x4 ⟨v, rfl, hI, hb⟩
 obtain ⟨A2, c2, rfl, r1⟩ := hI.raw
 have hI0 := hI.base (Nat.zero_le _)
 have V_n := Hd (V_n.out.below hb)
 have P_r0 := Hd (P_r0.out.below hb)
 have O_n := Hd (O_n.out.below hb)
 have HBW := Hd (Zb HBW.out hb)
 have R_d := Hd r1
 clear hb r1
 have O_d := Hd hI0
 clear hI hI0
 go_upto_region 6 with fail
 have ha := ((Below.refl x4.heap.size x4).alloc (Nat.le_refl _) (.cells #[.bool (decide (d < 0)), .slice A2 (Za d.natAbs).length c2] 24))
 have p_d := (Zp.new x4 24 (.bool (decide (d < 0))) (.slice A2 (Za d.natAbs).length c2))
 obtain ⟨y5, E⟩ : ∃ W, W = (x4.alloc (.cells #[.bool (decide (d < 0)), .slice A2 (Za d.natAbs).length c2] 24)) := ⟨_, rfl⟩
 rw [<- E] at ha p_d ⊢
 have V_d := Hd (NV.of R_d.out ha p_d)
 have V_n := Hd (V_n.out.below ha)
 have P_r0 := Hd (P_r0.out.below ha)
 have O_n := Hd (O_n.out.below ha)
 have O_d := Hd (O_d.out.below ha)
 have HBW := Hd (Zb HBW.out ha)
 obtain ⟨g5, hg⟩ : ∃ g, g = x4.heap.size := ⟨_, rfl⟩
 rw [<- hg] at V_d ⊢
 clear E ha hg p_d
 obtain ⟨l_n, a_n, b_n, -, -⟩ := V_n.out.pair.facts
 obtain ⟨l_d, a_d, b_d, -, -⟩ := V_d.out.pair.facts
 go_upto_region 7 with fail
 clear l_n a_n b_n l_d a_d b_d
 have ha := (Below.refl y5.heap.size y5).alloc (Nat.le_refl _) (.cells #[.bool (decide (n < 0)), .slice A1 (Za n.natAbs).length c1, .bool (decide (d < 0)), .slice A2 (Za d.natAbs).length c2] 26)
 have pp := Zw.new y5 (.bool (decide (n < 0))) (.slice A1 (Za n.natAbs).length c1) (.bool (decide (d < 0))) (.slice A2 (Za d.natAbs).length c2)
 obtain ⟨y9, E⟩ : ∃ Y, Y = y5.alloc (.cells #[.bool (decide (n < 0)), .slice A1 (Za n.natAbs).length c1, .bool (decide (d < 0)), .slice A2 (Za d.natAbs).length c2] 26) := ⟨_, rfl⟩
 rw [<- E] at ha pp ⊢
 have V_n := Hd (V_n.out.below ha)
 have V_d := Hd (V_d.out.below ha)
 have P_r0 := Hd (P_r0.out.below ha)
 have O_n := Hd (O_n.out.below ha)
 have O_d := Hd (O_d.out.below ha)
 have HBW := Hd (Zb HBW.out ha)
 obtain ⟨gq, hg⟩ : ∃ g, g = y5.heap.size := ⟨_, rfl⟩
 rw [<- hg] at pp ⊢
 have V_q := Hd pp
 clear E ha hg pp
 go_wp2_with fail
 obtain ⟨W0, hW⟩ : ∃ W0, W0 = y9 := ⟨_, rfl⟩
 rw [<- hW] at HBW P_r0 O_n O_d V_q V_n V_d  ⊢
 clear hW
 refine Zf [.val (.bool true) [], .val (.bool false) [], .val (.bool false) [], .val (.agg #[.bool (decide (d < 0)), .slice A2 (Za d.natAbs).length c2]) [], .val (.int .i64 sg) [], .val (.bool false) [], .val (.bool false) [], .val (.bool false) [], .val (.agg #[.bool (decide (d < 0)), .slice A2 (Za d.natAbs).length c2]) [], .any false (fun u0 V => YQ V u0 one) [], .val (.int .i64 0) [9], .val (.bool true) [], .val (.bool true) [], .val (.bool true) [], .skip, .skip, .skip, .skip, .skip, .skip, .val (.bool true) []] W0.heap.size W0 [] (fun _ _ => False) _ Zg (Nat.le_refl _) (Below.refl _ _) (Zq.refl _ _ _) rfl ?_ ?_ ?_ ?_ ?_ ?_ ?_ ?_ rfl (by simp [ZH]) ?_ ?_ ?_ ?_
 iterate 8 kernel_rfl
 . simp only [Zu, and_true]
   exact fun u0 V V' h k => h.keptNone k
 . simp only [ZR]
 . simp (maxSteps := 4000000) [Zz, Yj, Zh, ZA, Zl]
   repeat' (first | apply And.intro | (intro (u0 : Value)))
   all_goals first
   | (intro V hV hK
      obtain ⟨-, a_n, b_n, -, -⟩ := (V_n.out.below hV).pair.facts
      have r_n := Hd (V_n.out.below hV).raw
      obtain ⟨-, a_d, b_d, -, -⟩ := (V_d.out.below hV).pair.facts
      have r_d := Hd (V_d.out.below hV).raw
      have hle := HLE.out
      clear hV hK
      go_simp
      first
      | exact Below.refl _ _
      | exact ⟨by first | rfl | decide | go_num, Below.refl _ _⟩
      | ((with_reducible refine (Jp d sg A2 c2 V r_d.out HSG.out).mono ?_); rintro e w' ⟨rfl, hb⟩; exact ⟨rfl, hb⟩)
      | ((with_reducible refine (eof 1 one HONE.out (by decide) (by decide) V).mono ?_); rintro _ _ ⟨_, rfl, x, y⟩; exact ⟨x.at_, y⟩))
   | (intro V hV hK hu
      obtain ⟨A', c', rfl, hr⟩ := hu.form
      have r_d := Hd (V_d.out.below hV).raw
      have r' := Hd hr
      clear hV hK hu hr
      go_simp
      (with_reducible refine (ecmp d one 0 A2 A' c2 c' V r_d.out r'.out (by omega) (by omega) HK1.out).mono ?_)
      rintro e w' ⟨rfl, hb⟩
      exact ⟨rfl, hb⟩)
 . simp [Yn, ZD, Zh, ZA, Zl]
   intro u1 V hV hK _h1 _ _ _
   have V_n := Hd (V_n.out.below hV)
   have V_d := Hd (V_d.out.below hV)
   have P_r0 := Hd (P_r0.out.below hV)
   have O_n := Hd (O_n.out.below hV)
   have O_d := Hd (O_d.out.below hV)
   have V_q := Hd (V_q.out.below hV)
   have HBW := Hd (Zb HBW.out hV)
   clear hV hK
   obtain ⟨v6, hV0⟩ : ∃ Y, Y = V := ⟨_, rfl⟩
   rw [<- hV0] at HBW P_r0 O_n O_d V_q V_n V_d  ⊢
   clear hV0
   obtain ⟨l_r0, a_r0, b_r0, f_r0, g_r0⟩ := P_r0.out.facts
   have HQ := Hd (P_r0.out.store (.bool false) (.slice none 0 0) (.bool false) (.slice none 0 0))
   have HB := Hd (Yc HBW.out (show w.heap.size <= w.heap.size by omega) (.bool false) (.slice none 0 0) (.bool false) (.slice none 0 0))
   go_wp2_with fail
   obtain ⟨_, k0, k1, k2, k3, _, _, _, _⟩ := HQ.out.facts
   exact bodyPost_ret (by simp [results, Tryz.results27, go_sem, k0, k1, k2, k3]) rfl ⟨_, rfl, ZG.zero _ _, HB.out⟩

theorem ratio_Read_F (s a b : ByteArray) (n d : Int) (w : World)  (C1 : ∀ V, Calls Tryz.prog 104 #[.string s, .string ⟨#[47]⟩] V fun e w' => e = .returned (.tuple #[.string a, .string b, .bool true]) /\ Below V.heap.size V w') (C2 : ∀ V, Calls Tryz.prog 105 #[.string a] V (XD V n true)) (C3 : ∀ V, Calls Tryz.prog 105 #[.string b] V (XD V d true)) (hln : lz n <= 7282) (hld : lz d <= 7282) (hd : 0 < d) (hd1 : d ≠ 1) (hg : ZK n d ≠ 1) :
   Calls Tryz.prog 27 #[.string s] w (ZZ w 0 0 false) := by
 have H1 := Hd C1
 have H2 := Hd C2
 have H3 := Hd C3
 obtain ⟨one, hone⟩ : ∃ k : Int, k = 1 := ⟨_, rfl⟩
 obtain ⟨sg, hsg⟩ : ∃ k : Int, k = d.sign := ⟨_, rfl⟩
 obtain ⟨g, hg0⟩ : ∃ k : Int, k = ZK n d := ⟨_, rfl⟩
 have hol : lz one <= 2 := by rw [hone]; decide
 have HONE := Hd hone
 have HSG := Hd hsg
 have HG := Hd (show g = ((Nat.gcd n.natAbs d.natAbs : Nat) : Int) from hg0)
 have HLE := Hd (show decide (sg <= 0) = false from decide_eq_false (by rw [hsg, Int.sign_eq_one_of_pos (by omega)]; decide))
 have hgl := XH (n := n) (d := d) (by omega)
 rw [<- hg0] at hgl
 have hgp := YX (n := n) (d := d) (by omega)
 have HK1 := Hd (show (1 : Int) = Xw d one from by rw [hone]; exact (cmpz_gt (by omega)).symm)
 have HK2 := Hd (show (1 : Int) = Xw g one from by rw [hone, hg0]; exact (cmpz_gt (by omega)).symm)
 clear hone hsg hg0 hd hd1 hg hgp
 clear C1 C2 C3
 have b0 := ((Below.refl w.heap.size w).alloc (Nat.le_refl _) (.cells #[.bool false, .slice none 0 0, .bool false, .slice none 0 0] 26))
 have p0 := Zw.new w (.bool false) (.slice none 0 0) (.bool false) (.slice none 0 0)
 have P_r0 := Hd p0
 have HBW := Hd b0
 clear b0 p0 
 go_enter Tryz.func27, Tryz.ntmps27
 obtain ⟨W, E⟩ : ∃ W, W = (w.alloc (.cells #[.bool false, .slice none 0 0, .bool false, .slice none 0 0] 26)) := ⟨_, rfl⟩
 go_upto_region 1 with fail
 rw [<- E] at P_r0 HBW ⊢
 clear E
 go_wp2_with fail
 refine (H1.out W).mono ?_
 rintro e x1 ⟨rfl, hb⟩
 have P_r0 := Hd (P_r0.out.below hb)
 have HBW := Hd (Zb HBW.out hb)
 clear hb
 go_wp2_with fail
 refine (H2.out x1).mono ?_
 rintro e x2 ⟨v, rfl, hI, hb⟩
 obtain ⟨A1, c1, rfl, r1⟩ := hI.raw
 have hI0 := hI.base (Nat.zero_le _)
 have P_r0 := Hd (P_r0.out.below hb)
 have HBW := Hd (Zb HBW.out hb)
 have R_n := Hd r1
 clear hb r1
 have O_n := Hd hI0
 clear hI hI0
 go_upto_region 3 with fail
 have ha := ((Below.refl x2.heap.size x2).alloc (Nat.le_refl _) (.cells #[.bool (decide (n < 0)), .slice A1 (Za n.natAbs).length c1] 24))
 have p_n := (Zp.new x2 24 (.bool (decide (n < 0))) (.slice A1 (Za n.natAbs).length c1))
 obtain ⟨y3, E⟩ : ∃ W, W = (x2.alloc (.cells #[.bool (decide (n < 0)), .slice A1 (Za n.natAbs).length c1] 24)) := ⟨_, rfl⟩
 rw [<- E] at ha p_n ⊢
 have V_n := Hd (NV.of R_n.out ha p_n)
 have P_r0 := Hd (P_r0.out.below ha)
 have O_n := Hd (O_n.out.below ha)
 have HBW := Hd (Zb HBW.out ha)
 obtain ⟨g3, hg⟩ : ∃ g, g = x2.heap.size := ⟨_, rfl⟩
 rw [<- hg] at V_n ⊢
 clear E ha hg p_n
 go_wp2_with fail
 refine (H3.out y3).mono ?_
 rintro e x4 ⟨v, rfl, hI, hb⟩
 obtain ⟨A2, c2, rfl, r1⟩ := hI.raw
 have hI0 := hI.base (Nat.zero_le _)
 have V_n := Hd (V_n.out.below hb)
 have P_r0 := Hd (P_r0.out.below hb)
 have O_n := Hd (O_n.out.below hb)
 have HBW := Hd (Zb HBW.out hb)
 have R_d := Hd r1
 clear hb r1
 have O_d := Hd hI0
 clear hI hI0
 go_upto_region 6 with fail
 have ha := ((Below.refl x4.heap.size x4).alloc (Nat.le_refl _) (.cells #[.bool (decide (d < 0)), .slice A2 (Za d.natAbs).length c2] 24))
 have p_d := (Zp.new x4 24 (.bool (decide (d < 0))) (.slice A2 (Za d.natAbs).length c2))
 obtain ⟨y5, E⟩ : ∃ W, W = (x4.alloc (.cells #[.bool (decide (d < 0)), .slice A2 (Za d.natAbs).length c2] 24)) := ⟨_, rfl⟩
 rw [<- E] at ha p_d ⊢
 have V_d := Hd (NV.of R_d.out ha p_d)
 have V_n := Hd (V_n.out.below ha)
 have P_r0 := Hd (P_r0.out.below ha)
 have O_n := Hd (O_n.out.below ha)
 have O_d := Hd (O_d.out.below ha)
 have HBW := Hd (Zb HBW.out ha)
 obtain ⟨g5, hg⟩ : ∃ g, g = x4.heap.size := ⟨_, rfl⟩
 rw [<- hg] at V_d ⊢
 clear E ha hg p_d
 obtain ⟨l_n, a_n, b_n, -, -⟩ := V_n.out.pair.facts
 obtain ⟨l_d, a_d, b_d, -, -⟩ := V_d.out.pair.facts
 go_upto_region 7 with fail
 clear l_n a_n b_n l_d a_d b_d
 have ha := (Below.refl y5.heap.size y5).alloc (Nat.le_refl _) (.cells #[.bool (decide (n < 0)), .slice A1 (Za n.natAbs).length c1, .bool (decide (d < 0)), .slice A2 (Za d.natAbs).length c2] 26)
 have pp := Zw.new y5 (.bool (decide (n < 0))) (.slice A1 (Za n.natAbs).length c1) (.bool (decide (d < 0))) (.slice A2 (Za d.natAbs).length c2)
 obtain ⟨y9, E⟩ : ∃ Y, Y = y5.alloc (.cells #[.bool (decide (n < 0)), .slice A1 (Za n.natAbs).length c1, .bool (decide (d < 0)), .slice A2 (Za d.natAbs).length c2] 26) := ⟨_, rfl⟩
 rw [<- E] at ha pp ⊢
 have V_n := Hd (V_n.out.below ha)
 have V_d := Hd (V_d.out.below ha)
 have P_r0 := Hd (P_r0.out.below ha)
 have O_n := Hd (O_n.out.below ha)
 have O_d := Hd (O_d.out.below ha)
 have HBW := Hd (Zb HBW.out ha)
 obtain ⟨gq, hg⟩ : ∃ g, g = y5.heap.size := ⟨_, rfl⟩
 rw [<- hg] at pp ⊢
 have V_q := Hd pp
 clear E ha hg pp
 go_wp2_with fail
 obtain ⟨W0, hW⟩ : ∃ W0, W0 = y9 := ⟨_, rfl⟩
 rw [<- hW] at HBW P_r0 O_n O_d V_q V_n V_d  ⊢
 clear hW
 refine Zf [.val (.bool true) [], .val (.bool false) [], .val (.bool false) [], .val (.agg #[.bool (decide (d < 0)), .slice A2 (Za d.natAbs).length c2]) [], .val (.int .i64 sg) [], .val (.bool false) [], .val (.bool false) [], .val (.bool false) [], .val (.agg #[.bool (decide (d < 0)), .slice A2 (Za d.natAbs).length c2]) [], .any false (fun u0 V => YQ V u0 one) [], .val (.int .i64 1) [9], .val (.bool false) [], .val (.bool false) [], .val (.bool false) [], .val (.agg #[.bool (decide (n < 0)), .slice A1 (Za n.natAbs).length c1]) [], .val (.agg #[.bool (decide (d < 0)), .slice A2 (Za d.natAbs).length c2]) [], .any false (fun u0 V => YQ V u0 g) [], .any false (fun u0 V => YQ V u0 one) [], .val (.int .i64 1) [16, 17], .val (.bool true) [], .val (.bool true) []] W0.heap.size W0 [] (fun _ _ => False) _ Zg (Nat.le_refl _) (Below.refl _ _) (Zq.refl _ _ _) rfl ?_ ?_ ?_ ?_ ?_ ?_ ?_ ?_ rfl (by simp [ZH]) ?_ ?_ ?_ ?_
 iterate 8 kernel_rfl
 . simp only [Zu, and_true]
   exact ⟨fun u0 V V' h k => h.keptNone k, fun u0 V V' h k => h.keptNone k, fun u0 V V' h k => h.keptNone k⟩
 . simp only [ZR]
 . simp (maxSteps := 4000000) [Zz, Yj, Zh, ZA, Zl]
   repeat' (first | apply And.intro | (intro (u0 : Value)))
   all_goals first
   | (intro V hV hK
      obtain ⟨-, a_n, b_n, -, -⟩ := (V_n.out.below hV).pair.facts
      have r_n := Hd (V_n.out.below hV).raw
      obtain ⟨-, a_d, b_d, -, -⟩ := (V_d.out.below hV).pair.facts
      have r_d := Hd (V_d.out.below hV).raw
      have hle := HLE.out
      clear hV hK
      go_simp
      first
      | exact Below.refl _ _
      | exact ⟨by first | rfl | decide | go_num, Below.refl _ _⟩
      | ((with_reducible refine (Jp d sg A2 c2 V r_d.out HSG.out).mono ?_); rintro e w' ⟨rfl, hb⟩; exact ⟨rfl, hb⟩)
      | ((with_reducible refine (eof 1 one HONE.out (by decide) (by decide) V).mono ?_); rintro _ _ ⟨_, rfl, x, y⟩; exact ⟨x.at_, y⟩)
      | ((with_reducible refine (XI n d g A1 A2 c1 c2 V r_n.out r_d.out (by omega) (by omega) HG.out).mono ?_); rintro _ _ ⟨_, rfl, x, y⟩; exact ⟨x.at_, y⟩))
   | (intro V hV hK hu
      obtain ⟨A', c', rfl, hr⟩ := hu.form
      have r_d := Hd (V_d.out.below hV).raw
      have r' := Hd hr
      clear hV hK hu hr
      go_simp
      (with_reducible refine (ecmp d one 1 A2 A' c2 c' V r_d.out r'.out (by omega) (by omega) HK1.out).mono ?_)
      rintro e w' ⟨rfl, hb⟩
      exact ⟨rfl, hb⟩)
   | (intro V hV hK hu1 hu2
      obtain ⟨A', c', rfl, hr⟩ := hu1.form
      obtain ⟨A'', c'', rfl, hs⟩ := hu2.form
      have r' := Hd hr
      have r'' := Hd hs
      clear hV hK hu1 hu2 hr hs
      go_simp
      (with_reducible refine (ecmp g one 1 A' A'' c' c'' V r'.out r''.out (by omega) (by omega) HK2.out).mono ?_)
      rintro e w' ⟨rfl, hb⟩
      exact ⟨rfl, hb⟩)
 . simp [Yn, ZD, Zh, ZA, Zl]
   intro u1 u2 u3 V hV hK _h1 _h2 _h3 _ _ _
   have V_n := Hd (V_n.out.below hV)
   have V_d := Hd (V_d.out.below hV)
   have P_r0 := Hd (P_r0.out.below hV)
   have O_n := Hd (O_n.out.below hV)
   have O_d := Hd (O_d.out.below hV)
   have V_q := Hd (V_q.out.below hV)
   have HBW := Hd (Zb HBW.out hV)
   clear hV hK
   obtain ⟨v6, hV0⟩ : ∃ Y, Y = V := ⟨_, rfl⟩
   rw [<- hV0] at HBW P_r0 O_n O_d V_q V_n V_d  ⊢
   clear hV0
   obtain ⟨l_r0, a_r0, b_r0, f_r0, g_r0⟩ := P_r0.out.facts
   have HQ := Hd (P_r0.out.store (.bool false) (.slice none 0 0) (.bool false) (.slice none 0 0))
   have HB := Hd (Yc HBW.out (show w.heap.size <= w.heap.size by omega) (.bool false) (.slice none 0 0) (.bool false) (.slice none 0 0))
   go_wp2_with fail
   obtain ⟨_, k0, k1, k2, k3, _, _, _, _⟩ := HQ.out.facts
   exact bodyPost_ret (by simp [results, Tryz.results27, go_sem, k0, k1, k2, k3]) rfl ⟨_, rfl, ZG.zero _ _, HB.out⟩

theorem ratio_Read_G (s a b : ByteArray) (n d : Int) (w : World)  (C1 : ∀ V, Calls Tryz.prog 104 #[.string s, .string ⟨#[47]⟩] V fun e w' => e = .returned (.tuple #[.string a, .string b, .bool true]) /\ Below V.heap.size V w') (C2 : ∀ V, Calls Tryz.prog 105 #[.string a] V (XD V n true)) (C3 : ∀ V, Calls Tryz.prog 105 #[.string b] V (XD V d true)) (hln : lz n <= 7282) (hld : lz d <= 7282) (hd : 0 < d) (hd1 : d ≠ 1) (hg : ZK n d = 1) :
   Calls Tryz.prog 27 #[.string s] w (ZZ w n d true) := by
 have H1 := Hd C1
 have H2 := Hd C2
 have H3 := Hd C3
 obtain ⟨one, hone⟩ : ∃ k : Int, k = 1 := ⟨_, rfl⟩
 obtain ⟨sg, hsg⟩ : ∃ k : Int, k = d.sign := ⟨_, rfl⟩
 obtain ⟨g, hg0⟩ : ∃ k : Int, k = ZK n d := ⟨_, rfl⟩
 have hol : lz one <= 2 := by rw [hone]; decide
 have HONE := Hd hone
 have HSG := Hd hsg
 have HG := Hd (show g = ((Nat.gcd n.natAbs d.natAbs : Nat) : Int) from hg0)
 have HLE := Hd (show decide (sg <= 0) = false from decide_eq_false (by rw [hsg, Int.sign_eq_one_of_pos (by omega)]; decide))
 have hgl := XH (n := n) (d := d) (by omega)
 rw [<- hg0] at hgl
 have hgp := YX (n := n) (d := d) (by omega)
 have HK1 := Hd (show (1 : Int) = Xw d one from by rw [hone]; exact (cmpz_gt (by omega)).symm)
 have HK2 := Hd (show (0 : Int) = Xw g one from by rw [hone, hg0]; rw [hg]; decide)
 clear hone hsg hg0 hd hd1 hg hgp
 clear C1 C2 C3
 have b0 := ((Below.refl w.heap.size w).alloc (Nat.le_refl _) (.cells #[.bool false, .slice none 0 0, .bool false, .slice none 0 0] 26))
 have p0 := Zw.new w (.bool false) (.slice none 0 0) (.bool false) (.slice none 0 0)
 have P_r0 := Hd p0
 have HBW := Hd b0
 clear b0 p0 
 go_enter Tryz.func27, Tryz.ntmps27
 obtain ⟨W, E⟩ : ∃ W, W = (w.alloc (.cells #[.bool false, .slice none 0 0, .bool false, .slice none 0 0] 26)) := ⟨_, rfl⟩
 go_upto_region 1 with fail
 rw [<- E] at P_r0 HBW ⊢
 clear E
 go_wp2_with fail
 refine (H1.out W).mono ?_
 rintro e x1 ⟨rfl, hb⟩
 have P_r0 := Hd (P_r0.out.below hb)
 have HBW := Hd (Zb HBW.out hb)
 clear hb
 go_wp2_with fail
 refine (H2.out x1).mono ?_
 rintro e x2 ⟨v, rfl, hI, hb⟩
 obtain ⟨A1, c1, rfl, r1⟩ := hI.raw
 have hI0 := hI.base (Nat.zero_le _)
 have P_r0 := Hd (P_r0.out.below hb)
 have HBW := Hd (Zb HBW.out hb)
 have R_n := Hd r1
 clear hb r1
 have O_n := Hd hI0
 clear hI hI0
 go_upto_region 3 with fail
 have ha := ((Below.refl x2.heap.size x2).alloc (Nat.le_refl _) (.cells #[.bool (decide (n < 0)), .slice A1 (Za n.natAbs).length c1] 24))
 have p_n := (Zp.new x2 24 (.bool (decide (n < 0))) (.slice A1 (Za n.natAbs).length c1))
 obtain ⟨y3, E⟩ : ∃ W, W = (x2.alloc (.cells #[.bool (decide (n < 0)), .slice A1 (Za n.natAbs).length c1] 24)) := ⟨_, rfl⟩
 rw [<- E] at ha p_n ⊢
 have V_n := Hd (NV.of R_n.out ha p_n)
 have P_r0 := Hd (P_r0.out.below ha)
 have O_n := Hd (O_n.out.below ha)
 have HBW := Hd (Zb HBW.out ha)
 obtain ⟨g3, hg⟩ : ∃ g, g = x2.heap.size := ⟨_, rfl⟩
 rw [<- hg] at V_n ⊢
 clear E ha hg p_n
 go_wp2_with fail
 refine (H3.out y3).mono ?_
 rintro e x4 ⟨v, rfl, hI, hb⟩
 obtain ⟨A2, c2, rfl, r1⟩ := hI.raw
 have hI0 := hI.base (Nat.zero_le _)
 have V_n := Hd (V_n.out.below hb)
 have P_r0 := Hd (P_r0.out.below hb)
 have O_n := Hd (O_n.out.below hb)
 have HBW := Hd (Zb HBW.out hb)
 have R_d := Hd r1
 clear hb r1
 have O_d := Hd hI0
 clear hI hI0
 go_upto_region 6 with fail
 have ha := ((Below.refl x4.heap.size x4).alloc (Nat.le_refl _) (.cells #[.bool (decide (d < 0)), .slice A2 (Za d.natAbs).length c2] 24))
 have p_d := (Zp.new x4 24 (.bool (decide (d < 0))) (.slice A2 (Za d.natAbs).length c2))
 obtain ⟨y5, E⟩ : ∃ W, W = (x4.alloc (.cells #[.bool (decide (d < 0)), .slice A2 (Za d.natAbs).length c2] 24)) := ⟨_, rfl⟩
 rw [<- E] at ha p_d ⊢
 have V_d := Hd (NV.of R_d.out ha p_d)
 have V_n := Hd (V_n.out.below ha)
 have P_r0 := Hd (P_r0.out.below ha)
 have O_n := Hd (O_n.out.below ha)
 have O_d := Hd (O_d.out.below ha)
 have HBW := Hd (Zb HBW.out ha)
 obtain ⟨g5, hg⟩ : ∃ g, g = x4.heap.size := ⟨_, rfl⟩
 rw [<- hg] at V_d ⊢
 clear E ha hg p_d
 obtain ⟨l_n, a_n, b_n, -, -⟩ := V_n.out.pair.facts
 obtain ⟨l_d, a_d, b_d, -, -⟩ := V_d.out.pair.facts
 go_upto_region 7 with fail
 clear l_n a_n b_n l_d a_d b_d
 have ha := (Below.refl y5.heap.size y5).alloc (Nat.le_refl _) (.cells #[.bool (decide (n < 0)), .slice A1 (Za n.natAbs).length c1, .bool (decide (d < 0)), .slice A2 (Za d.natAbs).length c2] 26)
 have pp := Zw.new y5 (.bool (decide (n < 0))) (.slice A1 (Za n.natAbs).length c1) (.bool (decide (d < 0))) (.slice A2 (Za d.natAbs).length c2)
 obtain ⟨y9, E⟩ : ∃ Y, Y = y5.alloc (.cells #[.bool (decide (n < 0)), .slice A1 (Za n.natAbs).length c1, .bool (decide (d < 0)), .slice A2 (Za d.natAbs).length c2] 26) := ⟨_, rfl⟩
 rw [<- E] at ha pp ⊢
 have V_n := Hd (V_n.out.below ha)
 have V_d := Hd (V_d.out.below ha)
 have P_r0 := Hd (P_r0.out.below ha)
 have O_n := Hd (O_n.out.below ha)
 have O_d := Hd (O_d.out.below ha)
 have HBW := Hd (Zb HBW.out ha)
 obtain ⟨gq, hg⟩ : ∃ g, g = y5.heap.size := ⟨_, rfl⟩
 rw [<- hg] at pp ⊢
 have V_q := Hd pp
 clear E ha hg pp
 go_wp2_with fail
 obtain ⟨W0, hW⟩ : ∃ W0, W0 = y9 := ⟨_, rfl⟩
 rw [<- hW] at HBW P_r0 O_n O_d V_q V_n V_d  ⊢
 clear hW
 refine Zf [.val (.bool true) [], .val (.bool false) [], .val (.bool false) [], .val (.agg #[.bool (decide (d < 0)), .slice A2 (Za d.natAbs).length c2]) [], .val (.int .i64 sg) [], .val (.bool false) [], .val (.bool false) [], .val (.bool false) [], .val (.agg #[.bool (decide (d < 0)), .slice A2 (Za d.natAbs).length c2]) [], .any false (fun u0 V => YQ V u0 one) [], .val (.int .i64 1) [9], .val (.bool false) [], .val (.bool false) [], .val (.bool false) [], .val (.agg #[.bool (decide (n < 0)), .slice A1 (Za n.natAbs).length c1]) [], .val (.agg #[.bool (decide (d < 0)), .slice A2 (Za d.natAbs).length c2]) [], .any false (fun u0 V => YQ V u0 g) [], .any false (fun u0 V => YQ V u0 one) [], .val (.int .i64 0) [16, 17], .val (.bool false) [], .val (.bool false) []] W0.heap.size W0 [] (fun _ _ => False) _ Zg (Nat.le_refl _) (Below.refl _ _) (Zq.refl _ _ _) rfl ?_ ?_ ?_ ?_ ?_ ?_ ?_ ?_ rfl (by simp [ZH]) ?_ ?_ ?_ ?_
 iterate 8 kernel_rfl
 . simp only [Zu, and_true]
   exact ⟨fun u0 V V' h k => h.keptNone k, fun u0 V V' h k => h.keptNone k, fun u0 V V' h k => h.keptNone k⟩
 . simp only [ZR]
 . simp (maxSteps := 4000000) [Zz, Yj, Zh, ZA, Zl]
   repeat' (first | apply And.intro | (intro (u0 : Value)))
   all_goals first
   | (intro V hV hK
      obtain ⟨-, a_n, b_n, -, -⟩ := (V_n.out.below hV).pair.facts
      have r_n := Hd (V_n.out.below hV).raw
      obtain ⟨-, a_d, b_d, -, -⟩ := (V_d.out.below hV).pair.facts
      have r_d := Hd (V_d.out.below hV).raw
      have hle := HLE.out
      clear hV hK
      go_simp
      first
      | exact Below.refl _ _
      | exact ⟨by first | rfl | decide | go_num, Below.refl _ _⟩
      | ((with_reducible refine (Jp d sg A2 c2 V r_d.out HSG.out).mono ?_); rintro e w' ⟨rfl, hb⟩; exact ⟨rfl, hb⟩)
      | ((with_reducible refine (eof 1 one HONE.out (by decide) (by decide) V).mono ?_); rintro _ _ ⟨_, rfl, x, y⟩; exact ⟨x.at_, y⟩)
      | ((with_reducible refine (XI n d g A1 A2 c1 c2 V r_n.out r_d.out (by omega) (by omega) HG.out).mono ?_); rintro _ _ ⟨_, rfl, x, y⟩; exact ⟨x.at_, y⟩))
   | (intro V hV hK hu
      obtain ⟨A', c', rfl, hr⟩ := hu.form
      have r_d := Hd (V_d.out.below hV).raw
      have r' := Hd hr
      clear hV hK hu hr
      go_simp
      (with_reducible refine (ecmp d one 1 A2 A' c2 c' V r_d.out r'.out (by omega) (by omega) HK1.out).mono ?_)
      rintro e w' ⟨rfl, hb⟩
      exact ⟨rfl, hb⟩)
   | (intro V hV hK hu1 hu2
      obtain ⟨A', c', rfl, hr⟩ := hu1.form
      obtain ⟨A'', c'', rfl, hs⟩ := hu2.form
      have r' := Hd hr
      have r'' := Hd hs
      clear hV hK hu1 hu2 hr hs
      go_simp
      (with_reducible refine (ecmp g one 0 A' A'' c' c'' V r'.out r''.out (by omega) (by omega) HK2.out).mono ?_)
      rintro e w' ⟨rfl, hb⟩
      exact ⟨rfl, hb⟩)
 . simp [Yn, ZD, Zh, ZA, Zl]
   intro u1 u2 u3 V hV hK _h1 _h2 _h3 _ _ _
   have V_n := Hd (V_n.out.below hV)
   have V_d := Hd (V_d.out.below hV)
   have P_r0 := Hd (P_r0.out.below hV)
   have O_n := Hd (O_n.out.below hV)
   have O_d := Hd (O_d.out.below hV)
   have V_q := Hd (V_q.out.below hV)
   have HBW := Hd (Zb HBW.out hV)
   clear hV hK
   obtain ⟨v6, hV0⟩ : ∃ Y, Y = V := ⟨_, rfl⟩
   rw [<- hV0] at HBW P_r0 O_n O_d V_q V_n V_d  ⊢
   clear hV0
   obtain ⟨l_q, a_q, b_q, c_q, d_q, -, -, -, -⟩ := V_q.out.facts
   have HF : Hid (ZG v6 0 (.agg #[.bool (decide (n < 0)), .slice A1 (Za n.natAbs).length c1, .bool (decide (d < 0)), .slice A2 (Za d.natAbs).length c2]) n d) := Hd ⟨_, _, _, _, rfl, O_n.out, O_d.out⟩
   obtain ⟨l_r0, a_r0, b_r0, f_r0, g_r0⟩ := P_r0.out.facts
   have HQ := Hd (P_r0.out.store (.bool (decide (n < 0))) (.slice A1 (Za n.natAbs).length c1) (.bool (decide (d < 0))) (.slice A2 (Za d.natAbs).length c2))
   have HB := Hd (Yc HBW.out (show w.heap.size <= w.heap.size by omega) (.bool (decide (n < 0))) (.slice A1 (Za n.natAbs).length c1) (.bool (decide (d < 0))) (.slice A2 (Za d.natAbs).length c2))
   have HF9 := Hd (HF.out.quad P_r0.out (.bool (decide (n < 0))) (.slice A1 (Za n.natAbs).length c1) (.bool (decide (d < 0))) (.slice A2 (Za d.natAbs).length c2))
   go_wp2_with fail
   obtain ⟨_, k0, k1, k2, k3, _, _, _, _⟩ := HQ.out.facts
   exact bodyPost_ret (by simp [results, Tryz.results27, go_sem, k0, k1, k2, k3]) rfl ⟨_, rfl, HF9.out, HB.out⟩

theorem ratio_Read (s : ByteArray) (hs : s.size <= 65536) (w : World) :
   Calls Tryz.prog 27 #[.string s] w (RetReadF w (ZT s.data.toList)) := by
 have C1 := fun V => strings_Cut_bar s hs V
 have hsl : s.data.toList.length <= 65536 := by rw [<- Lib.size_eq]; exact hs
 have hfl := front_le s.data.toList
 have hbl : (cutB s.data.toList).length <= 65536 := by
   unfold cutB
   split
   . exact Nat.le_trans (back_le _) hsl
   . simp
 have C2 := fun V => exact_Read ⟨(Z5 s.data.toList).toArray⟩ (by simpa [ByteArray.size] using Nat.le_trans hfl hsl) V
 have C3 := fun V => exact_Read ⟨(cutB s.data.toList).toArray⟩ (by simpa [ByteArray.size] using hbl) V
 simp only at C2 C3
 cases hz : Xm (Z5 s.data.toList) with
 | none =>
   have hr : ZT s.data.toList = none := by unfold ZT; rw [hz]
   rw [hz] at C2
   rw [hr]
   cases hb : decide ((47 : UInt8) ∈ s.data.toList) with
   | false =>
     rw [hb] at C1
     exact (ratio_Read_ff s _ _ 0 w C1 C2).mono fun e w' h => ⟨0, 1, h, fun p hp => by cases hp⟩
   | true =>
     rw [hb] at C1
     exact (ratio_Read_tf s _ _ 0 w C1 C2).mono fun e w' h => ⟨0, 1, h, fun p hp => by cases hp⟩
 | some n =>
   rw [hz] at C2
   have hln := lz_read hz (Nat.le_trans hfl hsl)
   by_cases hb : (47 : UInt8) ∈ s.data.toList
   . rw [decide_eq_true hb] at C1
     have ec : cutB s.data.toList = Y4 s.data.toList := by unfold cutB; rw [if_pos hb]
     rw [ec] at C1 C3 hbl
     cases hy : Xm (Y4 s.data.toList) with
     | none =>
       have hr : ZT s.data.toList = none := by unfold ZT; rw [hz]; simp only; rw [if_pos hb, hy]
       rw [hy] at C3
       rw [hr]
       exact (ratio_Read_C s _ _ n 0 w C1 C2 C3).mono fun e w' h => ⟨0, 0, h, fun p hp => by cases hp⟩
     | some d =>
       rw [hy] at C3
       have hld := lz_read hy hbl
       have hr : ZT s.data.toList = if 0 < d /\ d ≠ 1 /\ ZK n d = 1 then some (n, d) else none := by unfold ZT; rw [hz]; simp only; rw [if_pos hb, hy]
       by_cases h0 : 0 < d
       . by_cases h1 : d = 1
         . rw [hr, if_neg (fun h => h.2.1 h1)]
           exact (ratio_Read_E s _ _ n d w C1 C2 C3 hld h1).mono fun e w' h => ⟨0, 0, h, fun p hp => by cases hp⟩
         . by_cases hg : ZK n d = 1
           . rw [hr, if_pos ⟨h0, h1, hg⟩]
             exact (ratio_Read_G s _ _ n d w C1 C2 C3 hln hld h0 h1 hg).mono fun e w' h => ⟨n, d, h, fun p hp => (Option.some.inj hp).symm⟩
           . rw [hr, if_neg (fun h => hg h.2.2)]
             exact (ratio_Read_F s _ _ n d w C1 C2 C3 hln hld h0 h1 hg).mono fun e w' h => ⟨0, 0, h, fun p hp => by cases hp⟩
       . rw [hr, if_neg (fun h => h0 h.1)]
         exact (ratio_Read_D s _ _ n d w C1 C2 C3 (by omega)).mono fun e w' h => ⟨0, 0, h, fun p hp => by cases hp⟩
   . rw [decide_eq_false hb] at C1
     have hr : ZT s.data.toList = some (n, 1) := by unfold ZT; rw [hz]; simp only; rw [if_neg hb]
     rw [hr]
     exact (ratio_Read_ft s _ _ n w C1 C2).mono fun e w' h => ⟨n, 1, h, fun p hp => (Option.some.inj hp).symm⟩

def IsRoot (x r : Nat) : Prop := r * r <= x /\ x < (r + 1) * (r + 1)

end Go.Proofs.YtdonecnhdkjniaaGreatDoor
