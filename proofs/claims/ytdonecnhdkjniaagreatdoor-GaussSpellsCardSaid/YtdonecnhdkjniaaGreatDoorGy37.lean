/- Several texts in one: GParseLaw. -/
import Derived.Test.YtdonecnhdkjniaaGreatDoorGy36
set_option maxRecDepth 100000
set_option maxHeartbeats 8000000
namespace Go.Proofs.YtdonecnhdkjniaaGreatDoor
open Go.RowKit

theorem ZQ.any {w : World} {o : Option (Int × Int)} {e : Ending} {w' : World} (h : ZQ w o e w') : YP w o.isSome e w' := by
 obtain ⟨n, d, v, h1, h2, h3, -⟩ := h
 exact ⟨n, d, v, h1, h2, h3⟩
theorem ZQ.own {w : World} {n d : Int} {e : Ending} {w' : World} (h : ZQ w (some (n, d)) e w') : ZF w n d true e w' := by
 obtain ⟨n', d', v, h1, h2, h3, h4⟩ := h
 obtain ⟨e1, h5⟩ := h4 _ rfl
 obtain ⟨rfl, rfl⟩ : n = n' /\ d = d' := by simpa using e1
 exact ⟨v, h1, h5, h3⟩
theorem ZQ.bad {w : World} {e : Ending} {w' : World} (h : YP w false e w') : ZQ w none e w' := by
 obtain ⟨n, d, v, h1, h2, h3⟩ := h
 exact ⟨n, d, v, h1, h2, h3, fun p hp => by cases hp⟩
theorem ZF.some_ {w : World} {n d : Int} {e : Ending} {w' : World} (h : ZF w n d true e w') : ZZ w n d true e w' := by
 obtain ⟨v, h1, h2, h3⟩ := h
 exact ⟨v, h1, h2.in_, h3⟩
theorem ba_of {s : ByteArray} {l : List UInt8} (h : s.data.toList = l) : s = ⟨l.toArray⟩ := by
 apply ByteArray.ext
 rw [<- h]
theorem small_r (n : Int) (h1 : -9223372036854775808 <= n) (h2 : n <= 9223372036854775807) (V : World) : Calls Tryz.prog 97 #[.int .i64 n, .int .i64 1] V (ZE V.heap.size V n 1) := by
 have k := small_own (n := n) (d := 1) h1 h2 (by decide) (by decide) (by decide) V
 rw [(low_int n).1, (low_int n).2] at k
 exact k
theorem sign_ne (n : Int) (b : Bool) (h : decide (n = 0) = !b) : (n.sign != 0) = b := by
 rw [bne, ZM n (!b) h, Bool.not_not]
theorem coefG_else {s : List UInt8} (h1 : ¬ s = []) (h2 : ¬ s = [45]) : XC s = match ZT s with
 | none => none
 | some p => if p.1 ≠ 0 /\ s ≠ [49] /\ s ≠ [45, 49] then some p else none := by
 unfold XC
 rw [if_neg h1, if_neg h2]
 cases ZT s <;> rfl
theorem X7 (s : ByteArray) (hs : s.size <= 65536) (V : World) : Calls Tryz.prog 28 #[.string s] V (ZQ V (XC s.data.toList)) := by
 by_cases h1 : s.data.toList = []
 . rw [show XC s.data.toList = some (1, 1) from if_pos h1, ba_of h1]
   exact (coef_empty (small_r 1 (by decide) (by decide)) V).mono fun e w' h => ZQ.of_own h
 . by_cases h2 : s.data.toList = [45]
   . rw [show XC s.data.toList = some (-1, 1) by unfold XC; rw [if_neg h1, if_pos h2], ba_of h2]
     exact (coef_minus (small_r (-1) (by decide) (by decide)) V).mono fun e w' h => ZQ.of_own h
   . rw [coefG_else h1 h2]
     have C := fun V => ratio_ReadO s hs V
     have hN := NoneOf.of h1 h2
     cases ho : ZT s.data.toList with
     | none =>
       rw [ho] at C
       exact (coef_N s (fun V => (C V).mono fun e w' h => h.any) hN V).mono fun e w' h => ZQ.bad h
     | some p =>
       obtain ⟨n, d⟩ := p
       rw [ho] at C
       have C2 := fun (V : World) => (C V).mono fun e w' h => h.own
       have C3 := fun (V : World) => (C2 V).mono fun e w' h => h.some_
       have hg := ZN n d
       dsimp only
       by_cases hn : n = 0
       . rw [if_neg (fun h => h.1 hn)]
         exact (coef_Z s C3 hg (sign_ne n false (decide_eq_true hn)) hN V).mono fun e w' h => ZQ.bad h
       . have hz := sign_ne n true (decide_eq_false hn)
         by_cases h3 : s.data.toList = [49]
         . rw [if_neg (fun h => h.2.1 h3)]
           have e3 := ba_of h3
           subst e3
           exact (coef_1 C3 hg hz V).mono fun e w' h => ZQ.bad h
         . by_cases h4 : s.data.toList = [45, 49]
           . rw [if_neg (fun h => h.2.2 h4)]
             have e4 := ba_of h4
             subst e4
             exact (coef_M C3 hg hz V).mono fun e w' h => ZQ.bad h
           . rw [if_pos ⟨hn, h3, h4⟩]
             exact (coef_G s C2 hg hz hN (NoneOf2.of h3 h4) V).mono fun e w' h => ZQ.of_own h
def ParseIs (o : Option (Int × Int × Int × Int)) (N D M E K : Int) : Prop := match o with
 | none => N = 0 /\ D = 0 /\ M = 0 /\ E = 0 /\ K = 5
 | some p => Y5 p.1 p.2.1 p.2.2.1 p.2.2.2 N D M E K
theorem Y9 (V : World) : Calls Tryz.prog 24 #[.int .i64 0, .int .i64 0] V (Zo V.heap.size V 0 1 0 1) :=
 argand_Small (fun V => small_r 0 (by decide) (by decide) V) (fun V => small_r 0 (by decide) (by decide) V) V
theorem suf_no {s : ByteArray} (h : ¬ s.data.toList.getLast? = some 105) (hs : s.size <= 65536) (V : World) : Calls Tryz.prog 25 #[.string s, .string ⟨#[105]⟩] V fun e w' => e = .returned (.tuple #[.string s, .bool false]) /\ Below V.heap.size V w' := by
 have hn : Lib.hasSuffix s.data.toList [105] = false := by
  cases hc : Lib.hasSuffix s.data.toList [105] with
  | false => rfl
  | true =>
   exfalso
   unfold Lib.hasSuffix at hc
   obtain ⟨t, ht⟩ := List.isSuffixOf_iff_suffix.1 hc
   exact h (by rw [<- ht, List.getLast?_append]; rfl)
 refine (Tryz.strings_CutSuffix s ⟨#[105]⟩ V (by omega)).mono ?_
 rintro e w' ⟨rfl, rfl⟩
 refine ⟨?_, Below.refl _ _⟩
 have e1 : Lib.trimSuffix s.data.toList [105] = s.data.toList := by unfold Lib.trimSuffix; rw [hn]; rfl
 rw [show ((⟨#[105]⟩ : ByteArray).data.toList) = [105] from rfl, hn, e1]
theorem suf_yes {s : ByteArray} {f : List UInt8} (h : s.data.toList = f ++ [105]) (hs : s.size <= 65536) (V : World) : Calls Tryz.prog 25 #[.string s, .string ⟨#[105]⟩] V fun e w' => e = .returned (.tuple #[.string ⟨f.toArray⟩, .bool true]) /\ Below V.heap.size V w' := by
 have hn : Lib.hasSuffix s.data.toList [105] = true := by
  unfold Lib.hasSuffix
  rw [h]
  exact List.isSuffixOf_iff_suffix.2 ⟨f, rfl⟩
 refine (Tryz.strings_CutSuffix s ⟨#[105]⟩ V (by omega)).mono ?_
 rintro e w' ⟨rfl, rfl⟩
 refine ⟨?_, Below.refl _ _⟩
 have e1 : Lib.trimSuffix s.data.toList [105] = f := by
  unfold Lib.trimSuffix
  rw [hn, h]
  simp
 rw [show ((⟨#[105]⟩ : ByteArray).data.toList) = [105] from rfl, hn, e1]
theorem pre_plus (t : ByteArray) (V : World) : Calls Tryz.prog 29 #[.string t, .string ⟨#[43]⟩] V fun e w' => e = .returned (.tuple #[.string ⟨(if t.data.toList.head? = some 43 then t.data.toList.tail else t.data.toList).toArray⟩, .bool (decide (t.data.toList.head? = some 43))]) /\ Below V.heap.size V w' := by
 refine (Tryz.strings_CutPrefix t ⟨#[43]⟩ V).mono ?_
 rintro e w' ⟨rfl, rfl⟩
 refine ⟨?_, Below.refl _ _⟩
 rw [show ((⟨#[43]⟩ : ByteArray).data.toList) = [43] from rfl]
 unfold Lib.trimPrefix Lib.hasPrefix
 cases ht : t.data.toList with
 | nil => simp
 | cons x r =>
  by_cases hx : x = 43
  . subst hx
    simp
  . have hx2 : ¬ (43 : UInt8) = x := fun e => hx e.symm
    have h9 : List.isPrefixOf [43] (x :: r) = false := by
     show ((43 : UInt8) == x && _) = false
     rw [beq_eq_false_iff_ne.2 hx2]
     rfl
    simp [hx, h9]
theorem ext_drop (s : ByteArray) (k : Nat) : (s.extract k s.size).data.toList = s.data.toList.drop k := by
 rw [Lib.extract_data]
 exact List.take_of_length_le (by rw [List.length_drop, <- Lib.size_eq]; exact Nat.le_refl _)
theorem gparse_o {s : ByteArray} (hs : s.size <= 65536) {N D M E K : Int} (h : ParseIs (Xe s.data.toList) N D M E K) (V : World) (hu : Lib.Utf8Tabs 2 3 V) :
   Calls Tryz.prog 9 #[.string s] V (Zn V.heap.size V N D M E K) := by
 by_cases hl : s.data.toList.getLast? = some 105
 . obtain ⟨f, hf⟩ := List.getLast?_eq_some_iff.1 hl
   have eP : Xe s.data.toList = if Yk f <= 0 then (XC f).map fun p => (0, 1, p.1, p.2)
       else match ZT (f.take (Yk f).toNat) with
       | none => none
       | some p => if p.1 = 0 then none else
         match XC (if (f.drop (Yk f).toNat).head? = some 43 then (f.drop (Yk f).toNat).tail else f.drop (Yk f).toNat) with
         | none => none
         | some q => if ((f.drop (Yk f).toNat).head? = some 43 ↔ 0 < q.1) then some (p.1, p.2, q.1, q.2) else none := by
     unfold Xe
     rw [if_pos hl, hf, List.dropLast_concat]
     rfl
   rw [eP] at h
   clear eP
   have hsz := congrArg List.length hf
   rw [<- Lib.size_eq, List.length_append, List.length_singleton] at hsz
   have hfs : (⟨f.toArray⟩ : ByteArray).size = f.length := ba_size f
   have hfd : (⟨f.toArray⟩ : ByteArray).data.toList = f := ba_list f
   have C1 := fun V => suf_yes hf hs V
   have C2 := fun (V : World) (hu : Lib.Utf8Tabs 2 3 V) => last_any ⟨f.toArray⟩ (by rw [hfs]; omega) V hu
   rw [hfd] at C2
   have C3 := fun V => X7 ⟨f.toArray⟩ (by rw [hfs]; omega) V
   rw [hfd] at C3
   by_cases hp : Yk f <= 0
   . rw [if_pos hp] at h
     cases hc : XC f with
     | none =>
       rw [hc] at h C3
       obtain ⟨rfl, rfl, rfl, rfl, rfl⟩ := h
       exact gparse_C0 s hs Y9 _ hp C1 C2 (fun V => (C3 V).mono fun e w' h => h.any) V hu
     | some q =>
       obtain ⟨m, e⟩ := q
       rw [hc] at h C3
       exact gparse_C1 s hs Y9 _ hp C1 C2 (fun V => (C3 V).mono fun e w' h => h.own) h V hu
   . rw [if_neg hp] at h
     obtain ⟨k, hk⟩ : ∃ k : Nat, Yk f = k := ⟨(Yk f).toNat, by omega⟩
     have hkl := pmAt_lt f
     rw [hk, Int.toNat_natCast] at h
     rw [hk] at C2 hkl hp
     have hk0 : 0 < k := by omega
     have hkf : k <= (⟨f.toArray⟩ : ByteArray).size := by rw [hfs]; omega
     have hf6 : (⟨f.toArray⟩ : ByteArray).size <= 65536 := by rw [hfs]; omega
     have C4 := fun V => ratio_ReadO ((⟨f.toArray⟩ : ByteArray).extract 0 k) (by rw [ByteArray.size_extract]; omega) V
     have eT : ((⟨f.toArray⟩ : ByteArray).extract 0 k).data.toList = f.take k := by rw [ext_list, hfd]
     rw [eT] at C4
     have eD : ((⟨f.toArray⟩ : ByteArray).extract k (⟨f.toArray⟩ : ByteArray).size).data.toList = f.drop k := by rw [ext_drop, hfd]
     have C5 := fun V => pre_plus ((⟨f.toArray⟩ : ByteArray).extract k (⟨f.toArray⟩ : ByteArray).size) V
     rw [eD] at C5
     obtain ⟨r, hr⟩ : ∃ r, r = (if (f.drop k).head? = some 43 then (f.drop k).tail else f.drop k) := ⟨_, rfl⟩
     rw [<- hr] at h C5
     have hrl : r.length <= 65536 := by
       have : r.length <= (f.drop k).length := by
         rw [hr]
         split
         . rw [List.length_tail]; omega
         . exact Nat.le_refl _
       rw [List.length_drop] at this
       omega
     have C6 := fun V => X7 ⟨r.toArray⟩ (by rw [ba_size]; exact hrl) V
     rw [ba_list] at C6
     cases ho : ZT (f.take k) with
     | none =>
       rw [ho] at h C4
       obtain ⟨rfl, rfl, rfl, rfl, rfl⟩ := h
       exact gparse_D0 s hs Y9 _ _ k _ _ hk0 hkf hf6 C1 C2 (fun V => (C4 V).mono fun e w' h => h.any) C5 (fun V => (C6 V).mono fun e w' h => h.any) V hu
     | some p =>
       obtain ⟨n, d⟩ := p
       rw [ho] at h C4
       have C7 := fun (V : World) => (C4 V).mono fun e w' h => h.own
       dsimp only at h
       by_cases hn : n = 0
       . rw [if_pos hn] at h
         obtain ⟨rfl, rfl, rfl, rfl, rfl⟩ := h
         exact gparse_D1 s hs Y9 _ _ k _ _ hk0 hkf hf6 C1 C2 C7 (ZN n d) (sign_ne n false (decide_eq_true hn)) C5 (fun V => (C6 V).mono fun e w' h => h.any) V hu
       . rw [if_neg hn] at h
         have hz := sign_ne n true (decide_eq_false hn)
         cases hc : XC r with
         | none =>
           rw [hc] at h C6
           obtain ⟨rfl, rfl, rfl, rfl, rfl⟩ := h
           exact gparse_D2 s hs Y9 _ _ k _ hk0 hkf hf6 C1 C2 C7 (ZN n d) hz C5 (fun V => (C6 V).mono fun e w' h => h.any) V hu
         | some q =>
           obtain ⟨m, e⟩ := q
           rw [hc] at h C6
           have C8 := fun (V : World) => (C6 V).mono fun e w' h => h.own
           dsimp only at h
           by_cases hd : (f.drop k).head? = some 43
           . rw [decide_eq_true hd] at C5
             by_cases hm : 0 < m
             . rw [if_pos ⟨fun _ => hm, fun _ => hd⟩] at h
               exact gparse_D4t s hs Y9 _ _ k hk0 hkf hf6 C1 C2 C7 (ZN n d) hz C5 C8 (ZN m e) (sgn_up hm) h V hu
             . rw [if_neg (fun h => hm (h.1 hd))] at h
               obtain ⟨rfl, rfl, rfl, rfl, rfl⟩ := h
               exact gparse_D3t s hs Y9 _ _ k hk0 hkf hf6 C1 C2 C7 (ZN n d) hz C5 C8 (ZN m e) (by have := YW hm; omega) V hu
           . rw [decide_eq_false hd] at C5
             by_cases hm : 0 < m
             . rw [if_neg (fun h => hd (h.2 hm))] at h
               obtain ⟨rfl, rfl, rfl, rfl, rfl⟩ := h
               exact gparse_D3f s hs Y9 _ _ k hk0 hkf hf6 C1 C2 C7 (ZN n d) hz C5 C8 (ZN m e) (sgn_up hm) V hu
             . rw [if_pos ⟨fun h => absurd h hd, fun h => absurd h hm⟩] at h
               exact gparse_D4f s hs Y9 _ _ k hk0 hkf hf6 C1 C2 C7 (ZN n d) hz C5 C8 (ZN m e) (by have := YW hm; omega) h V hu
 . have eP : Xe s.data.toList = (ZT s.data.toList).map fun p => (p.1, p.2, 0, 1) := by unfold Xe; rw [if_neg hl]
   rw [eP] at h
   have C1 := fun V => suf_no hl hs V
   have C2 := fun V => ratio_ReadO s hs V
   cases ho : ZT s.data.toList with
   | none =>
     rw [ho] at h C2
     obtain ⟨rfl, rfl, rfl, rfl, rfl⟩ := h
     exact gparse_B0 s hs Y9 _ C1 (fun V => (C2 V).mono fun e w' h => h.any) V
   | some p =>
     obtain ⟨n, d⟩ := p
     rw [ho] at h C2
     exact gparse_B1 s hs Y9 _ C1 (fun V => (C2 V).mono fun e w' h => h.own) h V
theorem ans_g1 (n d m f : Int) : ∃ N D M E k, (lz N <= 2048 /\ lz D <= 2048 /\ lz M <= 2048 /\ lz E <= 2048) /\ Y5 n d m f N D M E k /\ (k = 0 -> n = N /\ d = D /\ m = M /\ f = E) := by
 by_cases hl : (lz n <= 2048 /\ lz d <= 2048) /\ lz m <= 2048 /\ lz f <= 2048
 . have hb : ((decide (2048 < (Za n.natAbs).length) || decide (2048 < (Za d.natAbs).length)) || (decide (2048 < (Za m.natAbs).length) || decide (2048 < (Za f.natAbs).length))) = false := by
    unfold lz at hl
    rw [decide_eq_false (by omega), decide_eq_false (by omega), decide_eq_false (by omega), decide_eq_false (by omega)]
    rfl
   exact ⟨n, d, m, f, 0, ⟨hl.1.1, hl.1.2, hl.2.1, hl.2.2⟩, fun V base v hbase ho => answered_fits (ansG_of false hb) V v ho.in_.at_ hbase ho, fun _ => ⟨rfl, rfl, rfl, rfl⟩⟩
 . have hb : ((decide (2048 < (Za n.natAbs).length) || decide (2048 < (Za d.natAbs).length)) || (decide (2048 < (Za m.natAbs).length) || decide (2048 < (Za f.natAbs).length))) = true := by
    unfold lz at hl
    simp only [Bool.or_eq_true, decide_eq_true_eq]
    omega
   exact ⟨0, 0, 0, 0, 4, by decide +kernel, fun V base v hbase ho => answered_long (ansG_of true hb) V v ho.in_.at_ hbase ho, fun h => by cases h⟩
theorem parse_only (s : ByteArray) : ∃ N D M E K : Int, (∀ V, Lib.Utf8Tabs 2 3 V -> Calls Tryz.prog 9 #[.string s] V (Zn V.heap.size V N D M E K)) /\
   (K = 0 -> Jh N D /\ Jh M E /\ s = Jc N D M E /\ s.size <= 65536) := by
 by_cases hs : s.size <= 65536
 . cases ho : Xe s.data.toList with
   | none => exact ⟨0, 0, 0, 0, 5, fun V hu => gparse_o hs (by rw [ho]; exact ⟨rfl, rfl, rfl, rfl, rfl⟩) V hu, fun h => by cases h⟩
   | some p =>
    obtain ⟨n, d, m, f⟩ := p
    obtain ⟨ht, b1, b2, b3, b4⟩ := text_parse ho
    obtain ⟨N, D, M, E, K, hz, A1, hK⟩ := ans_g1 n d m f
    refine ⟨N, D, M, E, K, fun V hu => gparse_o hs (by rw [ho]; exact A1) V hu, fun h => ?_⟩
    obtain ⟨rfl, rfl, rfl, rfl⟩ := hK h
    exact ⟨(is_of b1 b2).fine hz.1 hz.2.1, (is_of b3 b4).fine hz.2.2.1 hz.2.2.2, ba_of ht.symm, hs⟩
 . exact ⟨0, 0, 0, 0, 4, fun V _ => gparse_long s (by omega) V, fun h => by cases h⟩
theorem parse_back {n d m f : Int} (f1 : Jh n d) (f2 : Jh m f) (hs : (Jc n d m f).size <= 65536) (V : World) (hu : Lib.Utf8Tabs 2 3 V) :
  Calls Tryz.prog 9 #[.string (Jc n d m f)] V (Zn V.heap.size V n d m f 0) := by
 refine gparse_o hs ?_ V hu
 rw [show (Jc n d m f).data.toList = Xv n d m f from ba_list _, parse_text f1.pos f1.low f2.pos f2.low]
 exact (GIs.of f1 f2).fits
end Go.Proofs.YtdonecnhdkjniaaGreatDoor
