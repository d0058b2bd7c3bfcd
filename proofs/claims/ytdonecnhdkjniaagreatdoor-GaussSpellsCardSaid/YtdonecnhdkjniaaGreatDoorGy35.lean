/- Several texts in one: RRead, FParse, GTextR, Coef, DecodeLast. -/
import Derived.Test.YtdonecnhdkjniaaGreatDoorGy34
import Derived.Test.YtdonecnhdkjniaaGreatDoorGy28
import Derived.Lib.TrimUEq
set_option maxRecDepth 100000
set_option maxHeartbeats 8000000
namespace Go.Proofs.YtdonecnhdkjniaaGreatDoor
open Go.RowKit

def RetReadG (w : World) (T : Int -> Int -> Bool -> Prop) (e : Ending) (w' : World) : Prop := ∃ N D B, ZZ w N D B e w' /\ T N D B


def txtT (b : Bool) (t : ByteArray) : ByteArray := if b then (if t.size <= 65536 then t else ⟨#[]⟩) else ⟨#[]⟩
def txtK (b : Bool) (t : ByteArray) : Int := if b then (if t.size <= 65536 then 0 else 4) else 1
theorem txt_good {t : ByteArray} (h : t.size <= 65536) : txtT true t = t /\ txtK true t = 0 := by unfold txtT txtK; simp [h]
theorem txt_long {t : ByteArray} (h : ¬ t.size <= 65536) : txtT true t = ⟨#[]⟩ /\ txtK true t = 4 := by unfold txtT txtK; simp [h]
def fprN (s : List UInt8) : Int := if 65536 < s.length then 0 else match ZT s with
 | none => 0
 | some p => ansN p.1 p.2
def fprD (s : List UInt8) : Int := if 65536 < s.length then 0 else match ZT s with
 | none => 0
 | some p => ansD p.1 p.2
def fprK (s : List UInt8) : Int := if 65536 < s.length then 4 else match ZT s with
 | none => 5
 | some p => ansK p.1 p.2

def RetPrsO (w : World) (T : Int -> Int -> Int -> Prop) (e : Ending) (w' : World) : Prop := ∃ N D K, RetFracOwn2 w.heap.size w N D K e w' /\ T N D K

def RetPrsR (w : World) (T : Int -> Int -> Int -> Prop) (e : Ending) (w' : World) : Prop := ∃ N D K, RetFrac2 w N D K e w' /\ T N D K


theorem gauss_Text_bad {n1 n2 n3 n4 : Bool} {xs ys us vs : List Nat} (C1 : Jt 20 n1 n2 n3 n4 xs ys us vs false) (w : World) (v_x : Value) (g_x : ZC w v_x n1 n2 n3 n4 xs ys us vs)  :
  Calls Tryz.prog 8 #[v_x] w (fun e w' => e = .returned (.tuple #[.string ⟨#[]⟩, .int .i64 1]) /\ Below w.heap.size w w') := by
 obtain ⟨Ax1, cx1, Ax2, cx2, Ax3, cx3, Ax4, cx4, rfl, -⟩ := g_x.form
 have H1 := Hd C1
 clear C1
 have G_x := Hd g_x
 clear g_x
 go_enter Tryz.func8, Tryz.ntmps8
 go_upto_region 1 with fail
 refine Zy (P := fun W => Code.wp _ _ _ _ W) fun W p0 b0 => ?_
 have P_x := Hd (ZX.mk p0)
 have HB := Hd b0
 clear b0 p0
 obtain ⟨-, x0, x1, x2, x3, x4, x5, x6, x7⟩ := P_x.out.facts
 go_wp2_with fail
 refine (H1.out W _ (G_x.out.below HB.out)).mono ?_
 rintro e wx1 ⟨rfl, hb⟩
 clear x0 x1 x2 x3 x4 x5 x6 x7
 have P_x := Hd (P_x.out.below hb)
 have HB := Hd (Zb HB.out hb)
 clear hb
 go_wp2_with fail
 go_ret2
 exact ⟨rfl, HB.out⟩

def Jc (n d m f : Int) : ByteArray := ⟨(Xv n d m f).toArray⟩
theorem ba_app (a b : List UInt8) : (⟨a.toArray⟩ : ByteArray) ++ ⟨b.toArray⟩ = ⟨(a ++ b).toArray⟩ := by
 apply ByteArray.ext
 rw [ByteArray.data_append]
 simp
theorem ba_size (a : List UInt8) : (⟨a.toArray⟩ : ByteArray).size = a.length := by simp [ByteArray.size]
theorem ba_list (a : List UInt8) : (⟨a.toArray⟩ : ByteArray).data.toList = a := by simp
theorem sec_r {n d : Int} (C : X1 22 n d ⟨(Zm n d).toArray⟩) (hs : (Zm n d).length <= 900000) : X1 23 n d ⟨(secT n d).toArray⟩ := by
 intro V v ht g
 unfold secT
 by_cases h1 : Zm n d = [49]
 . rw [if_pos h1]
   rw [h1] at C
   exact gauss_second_one C V v g ht
 . rw [if_neg h1]
   by_cases h2 : Zm n d = [45, 49]
   . rw [if_pos h2]
     rw [h2] at C
     exact gauss_second_minus C V v g ht
   . rw [if_neg h2]
     exact X6 _ _ C (by rw [ba_list]; exact h1) (by rw [ba_list]; exact h2) (by rw [ba_size]; omega) (by rw [show (⟨#[105]⟩ : ByteArray) = ⟨[105].toArray⟩ from rfl, ba_app]) V v g ht
theorem itoa_len {k : Nat} (hk : 0 < k) {x : Int} (h : lz x <= k) : (Lib.itoa x).length <= 32 * k + 1 := by
 have := dec_fit_any k hk (x := x.natAbs) h
 unfold Lib.itoa
 split
 . rw [List.length_cons]
   exact Nat.succ_le_succ (by first | exact this | (rw [show (-x).toNat = x.natAbs by omega]; exact this))
 . rw [show x.toNat = x.natAbs by omega]
   omega
theorem fracText_len {k : Nat} (hk : 0 < k) {n d : Int} (hn : lz n <= k) (hd : lz d <= k) : (Zm n d).length <= 64 * k + 3 := by
 have h1 := itoa_len hk hn
 have h2 := itoa_len hk hd
 unfold Zm
 split
 . omega
 . rw [List.length_append, List.length_cons]
   omega
theorem secT_len {k : Nat} (hk : 0 < k) {n d : Int} (hn : lz n <= k) (hd : lz d <= k) : (secT n d).length <= 64 * k + 4 := by
 have h1 := fracText_len hk hn hd
 unfold secT
 split
 . simp
 . split
   . simp
   . rw [List.length_append, List.length_singleton]
     omega
theorem ZN (n d : Int) : Yg 21 n d n.sign := by
 intro V v1 g1
 obtain ⟨A, c, B, e0, rfl, a1, -⟩ := g1.form
 exact ratio_Sign n n.sign d A B c e0 V a1 rfl
theorem sgn_up {n : Int} (h : 0 < n) : 0 < n.sign := by rw [Int.sign_eq_one_of_pos h]; decide
theorem YW {n : Int} (h : ¬ 0 < n) : n.sign <= 0 := Int.sign_nonpos_iff.2 (by omega)
theorem gtext_r {n d m f : Int} (f1 : Jh n d) (f2 : Jh m f) (V : World) (v : Value) (ht : ZB V) (g : Zi V v n d m f) :
   Calls Tryz.prog 8 #[v] V fun e w' => e = .returned (.tuple #[.string (txtT true (Jc n d m f)), .int .i64 (txtK true (Jc n d m f))]) /\ Below V.heap.size V w' := by
 have l1 := fracText_len (k := 2048) (by decide) f1.num f1.den
 have l2 := fracText_len (k := 2048) (by decide) f2.num f2.den
 have l3 := secT_len (k := 2048) (by decide) f2.num f2.den
 have d1 := dig_r (n := n) (d := d) f1.num f1.den
 have d2 := sec_r (dig_r (n := m) (d := f) f2.num f2.den) (by omega)
 have hM := (GIs.of f1 f2).may
 have hne : ¬ (⟨(Zm n d).toArray⟩ : ByteArray).data.toList = [] := by rw [ba_list]; exact (fracText_ne f1.pos f1.low).1
 have e0 : ∀ t : ByteArray, (⟨#[]⟩ : ByteArray) ++ t = t := fun t => by apply ByteArray.ext; rw [ByteArray.data_append]; simp
 obtain ⟨u, hu⟩ : ∃ u, u = Jc n d m f := ⟨_, rfl⟩
 rw [<- hu]
 unfold Jc Xv at hu
 have q1 : (⟨(Zm n d).toArray⟩ : ByteArray).size <= 1000000 := by rw [ba_size]; omega
 have q2 : (⟨(secT m f).toArray⟩ : ByteArray).size <= 1000000 := by rw [ba_size]; omega
 by_cases hl : u.size <= 65536
 . rw [(txt_good hl).1, (txt_good hl).2]
   by_cases hm : m = 0
   . rw [if_pos hm] at hu
     have z1 := ZM m true (decide_eq_true hm)
     by_cases hn : n = 0
     . exact gauss_Text_A0 (t2 := ⟨#[]⟩) hM (ZN n d) (ZN m f) (ZM n true (decide_eq_true hn)) z1 (YW (by omega)) d1 hu q1 (by decide) trivial hl V v g ht
     . exact gauss_Text_A (t2 := ⟨#[]⟩) hM (ZN n d) (ZN m f) (ZM n false (decide_eq_false hn)) z1 (YW (by omega)) d1 hu q1 (by decide) trivial hl V v g ht
   . rw [if_neg hm] at hu
     have z1 := ZM m false (decide_eq_false hm)
     by_cases hn : n = 0
     . rw [if_pos hn] at hu
       have z0 := ZM n true (decide_eq_true hn)
       by_cases hp : 0 < m
       . exact gauss_Text_Cp (t1 := ⟨#[]⟩) hM (ZN n d) (ZN m f) z0 z1 (sgn_up hp) d2 (by rw [e0]; exact hu) (by decide) q2 trivial hl V v g ht
       . exact gauss_Text_Cm (t1 := ⟨#[]⟩) hM (ZN n d) (ZN m f) z0 z1 (YW hp) d2 (by rw [e0]; exact hu) (by decide) q2 trivial hl V v g ht
     . rw [if_neg hn] at hu
       have z0 := ZM n false (decide_eq_false hn)
       by_cases hp : 0 < m
       . rw [if_pos hp] at hu
         exact gauss_Text_Bp hM (ZN n d) (ZN m f) z0 z1 (sgn_up hp) d1 d2 (by rw [hu, show (⟨#[43]⟩ : ByteArray) = ⟨[43].toArray⟩ from rfl, ba_app, ba_app, List.append_assoc]; rfl) q1 q2 hne hl V v g ht
       . rw [if_neg hp] at hu
         exact gauss_Text_Bm hM (ZN n d) (ZN m f) z0 z1 (YW hp) d1 d2 (by rw [hu, ba_app]) q1 q2 hne hl V v g ht
 . rw [(txt_long hl).1, (txt_long hl).2]
   have hl : 65536 < u.size := by omega
   by_cases hm : m = 0
   . rw [if_pos hm] at hu
     have z1 := ZM m true (decide_eq_true hm)
     by_cases hn : n = 0
     . exact gauss_Text_A0_long (t2 := ⟨#[]⟩) hM (ZN n d) (ZN m f) (ZM n true (decide_eq_true hn)) z1 (YW (by omega)) d1 hu q1 (by decide) trivial hl V v g ht
     . exact gauss_Text_A_long (t2 := ⟨#[]⟩) hM (ZN n d) (ZN m f) (ZM n false (decide_eq_false hn)) z1 (YW (by omega)) d1 hu q1 (by decide) trivial hl V v g ht
   . rw [if_neg hm] at hu
     have z1 := ZM m false (decide_eq_false hm)
     by_cases hn : n = 0
     . rw [if_pos hn] at hu
       have z0 := ZM n true (decide_eq_true hn)
       by_cases hp : 0 < m
       . exact gauss_Text_Cp_long (t1 := ⟨#[]⟩) hM (ZN n d) (ZN m f) z0 z1 (sgn_up hp) d2 (by rw [e0]; exact hu) (by decide) q2 trivial hl V v g ht
       . exact gauss_Text_Cm_long (t1 := ⟨#[]⟩) hM (ZN n d) (ZN m f) z0 z1 (YW hp) d2 (by rw [e0]; exact hu) (by decide) q2 trivial hl V v g ht
     . rw [if_neg hn] at hu
       have z0 := ZM n false (decide_eq_false hn)
       by_cases hp : 0 < m
       . rw [if_pos hp] at hu
         exact gauss_Text_Bp_long hM (ZN n d) (ZN m f) z0 z1 (sgn_up hp) d1 d2 (by rw [hu, show (⟨#[43]⟩ : ByteArray) = ⟨[43].toArray⟩ from rfl, ba_app, ba_app, List.append_assoc]; rfl) q1 q2 hne hl V v g ht
       . rw [if_neg hp] at hu
         exact gauss_Text_Bm_long hM (ZN n d) (ZN m f) z0 z1 (YW hp) d1 d2 (by rw [hu, ba_app]) q1 q2 hne hl V v g ht
theorem gtext_only (n1 n2 n3 n4 : Bool) (xs ys us vs : List Nat) (h1 : Zj xs) (h2 : Zj ys) (h3 : Zj us) (h4 : Zj vs) : ∃ (t : ByteArray) (k : Int),
   (∀ (V : World) (v : Value), ZC V v n1 n2 n3 n4 xs ys us vs -> ZB V -> Calls Tryz.prog 8 #[v] V fun e w' => e = .returned (.tuple #[.string t, .int .i64 k]) /\ Below V.heap.size V w') /\
   (k = 0 -> ∃ n d m f, Jh n d /\ Jh m f /\ n1 = decide (n < 0) /\ n2 = decide (d < 0) /\ xs = Za n.natAbs /\ ys = Za d.natAbs /\ n3 = decide (m < 0) /\ n4 = decide (f < 0) /\ us = Za m.natAbs /\ vs = Za f.natAbs /\ t = Jc n d m f /\ t.size <= 65536) := by
 rcases may_cases (n1 := n1) (n2 := n2) (n3 := n3) (n4 := n4) h1 h2 h3 h4 with hc | ⟨n, d, m, f, f1, f2, rfl, rfl, rfl, rfl, rfl, rfl, rfl, rfl⟩
 . have a := may_raw n1 n2 n3 n4 xs ys us vs
   rw [hc] at a
   exact ⟨⟨#[]⟩, 1, fun V v g _ => gauss_Text_bad a V v g, fun h => by cases h⟩
 . refine ⟨_, _, fun V v g ht => gtext_r f1 f2 V v ht ⟨g.form⟩, fun h => ?_⟩
   by_cases hl : (Jc n d m f).size <= 65536
   . rw [(txt_good hl).1]
     exact ⟨n, d, m, f, f1, f2, rfl, rfl, rfl, rfl, rfl, rfl, rfl, rfl, rfl, hl⟩
   . rw [(txt_long hl).2] at h
     cases h

def YP (w : World) (b : Bool) (e : Ending) (w' : World) : Prop := ∃ n d v, e = .returned (.tuple #[v, .bool b]) /\ ZG w' 0 v n d /\ Below w.heap.size w w'
structure NoneOf (s : ByteArray) : Prop where
 a : ¬ s.toList = []
 b : s.toList.isEmpty = false
 c : (s.toList == []) = false
 d : ¬ s.toList = [45]
 e : (s.toList == [45]) = false
theorem NoneOf.of {s : ByteArray} (h1 : ¬ s.data.toList = []) (h2 : ¬ s.data.toList = [45]) : NoneOf s := by
 rw [<- ByteArray.toList_eq] at h1 h2
 exact ⟨h1, List.isEmpty_eq_false_iff.2 h1, beq_eq_false_iff_ne.2 h1, h2, beq_eq_false_iff_ne.2 h2⟩
structure NoneOf2 (s : ByteArray) : Prop where
 a : ¬ s.toList = [49]
 b : (s.toList == [49]) = false
 c : ¬ s.toList = [45, 49]
 d : (s.toList == [45, 49]) = false
theorem NoneOf2.of {s : ByteArray} (h1 : ¬ s.data.toList = [49]) (h2 : ¬ s.data.toList = [45, 49]) : NoneOf2 s := by
 rw [<- ByteArray.toList_eq] at h1 h2
 exact ⟨h1, beq_eq_false_iff_ne.2 h1, h2, beq_eq_false_iff_ne.2 h2⟩

theorem coef_empty {n d : Int} (C1 : ∀ V : World, Calls Tryz.prog 97 #[.int .i64 1, .int .i64 1] V (ZE V.heap.size V n d)) (w : World)   :
  Calls Tryz.prog 28 #[.string ⟨#[]⟩] w (ZF w n d true) := by
 have H1 := Hd C1
 clear C1
 go_enter Tryz.func28, Tryz.ntmps28
 go_upto_region 1 with fail
 refine Zy (P := fun W => Code.wp _ _ _ _ W) fun W p0 b0 => ?_
 have PR := Hd (Zw.mk p0)
 have HB := Hd b0
 clear b0 p0
 go_wp2_with fail
 refine (H1.out W).mono ?_
 rintro e w9 ⟨v, rfl, hI, hb⟩
 obtain ⟨A6, c6, A7, c7, rfl, -⟩ := hI.form
 have pr := PR.out.below hb
 have hb9 := Zb HB.out hb
 have hi := hI.base HB.out.size
 obtain ⟨l_r0, a_r0, b_r0, f_r0, g_r0⟩ := pr.facts
 have HQ := Hd (pr.store (.bool (decide (n < 0))) (.slice A6 (Za n.natAbs).length c6) (.bool (decide (d < 0))) (.slice A7 (Za d.natAbs).length c7))
 have HB9 := Hd (Yc hb9 (show w.heap.size <= w.heap.size by omega) (.bool (decide (n < 0))) (.slice A6 (Za n.natAbs).length c6) (.bool (decide (d < 0))) (.slice A7 (Za d.natAbs).length c7))
 have HF9 := Hd (hi.quad pr (.bool (decide (n < 0))) (.slice A6 (Za n.natAbs).length c6) (.bool (decide (d < 0))) (.slice A7 (Za d.natAbs).length c7))
 clear hi hb hb9 pr hI
 go_wp2_with fail
 obtain ⟨_, k0, k1, k2, k3, _, _, _, _⟩ := HQ.out.facts
 exact bodyPost_ret (by simp [results, Tryz.results28, go_sem, k0, k1, k2, k3]) rfl ⟨_, rfl, HF9.out, HB9.out⟩

theorem coef_minus {n d : Int} (C1 : ∀ V : World, Calls Tryz.prog 97 #[.int .i64 (-1), .int .i64 1] V (ZE V.heap.size V n d)) (w : World)   :
  Calls Tryz.prog 28 #[.string ⟨#[45]⟩] w (ZF w n d true) := by
 have H1 := Hd C1
 clear C1
 go_enter Tryz.func28, Tryz.ntmps28
 go_upto_region 1 with fail
 refine Zy (P := fun W => Code.wp _ _ _ _ W) fun W p0 b0 => ?_
 have PR := Hd (Zw.mk p0)
 have HB := Hd b0
 clear b0 p0
 go_wp2_with fail
 refine (H1.out W).mono ?_
 rintro e w9 ⟨v, rfl, hI, hb⟩
 obtain ⟨A6, c6, A7, c7, rfl, -⟩ := hI.form
 have pr := PR.out.below hb
 have hb9 := Zb HB.out hb
 have hi := hI.base HB.out.size
 obtain ⟨l_r0, a_r0, b_r0, f_r0, g_r0⟩ := pr.facts
 have HQ := Hd (pr.store (.bool (decide (n < 0))) (.slice A6 (Za n.natAbs).length c6) (.bool (decide (d < 0))) (.slice A7 (Za d.natAbs).length c7))
 have HB9 := Hd (Yc hb9 (show w.heap.size <= w.heap.size by omega) (.bool (decide (n < 0))) (.slice A6 (Za n.natAbs).length c6) (.bool (decide (d < 0))) (.slice A7 (Za d.natAbs).length c7))
 have HF9 := Hd (hi.quad pr (.bool (decide (n < 0))) (.slice A6 (Za n.natAbs).length c6) (.bool (decide (d < 0))) (.slice A7 (Za d.natAbs).length c7))
 clear hi hb hb9 pr hI
 go_wp2_with fail
 obtain ⟨_, k0, k1, k2, k3, _, _, _, _⟩ := HQ.out.facts
 exact bodyPost_ret (by simp [results, Tryz.results28, go_sem, k0, k1, k2, k3]) rfl ⟨_, rfl, HF9.out, HB9.out⟩

theorem coef_N  (s : ByteArray) (C1 : ∀ V : World, Calls Tryz.prog 27 #[.string s] V (YP V false)) (x1 : NoneOf s) (w : World)   :
   Calls Tryz.prog 28 #[.string s] w (YP w false) := by
 obtain ⟨xa, xb, xc, xd, xe⟩ := x1
 have H1 := Hd C1
 clear C1
 go_enter Tryz.func28, Tryz.ntmps28
 go_upto_region 1 with fail
 refine Zy (P := fun W => Code.wp _ _ _ _ W) fun W p0 b0 => ?_
 have PR := Hd (Zw.mk p0)
 have HB := Hd b0
 clear b0 p0
 go_wp2_with fail
 refine (H1.out W).mono ?_
 rintro e wx1 ⟨n, d, v, rfl, hI, hb⟩
 have hlt := (PR.out.below hb).blk.lt
 have hi := hI
 obtain ⟨Ax1, cx1, Ax2, cx2, rfl, -⟩ := hI.form
 have ha := (Below.refl wx1.heap.size wx1).alloc (Nat.le_refl _) (.cells #[.bool (decide (n < 0)), .slice Ax1 (Za n.natAbs).length cx1, .bool (decide (d < 0)), .slice Ax2 (Za d.natAbs).length cx2] 26)
 have hq := Zw.new wx1 (.bool (decide (n < 0))) (.slice Ax1 (Za n.natAbs).length cx1) (.bool (decide (d < 0))) (.slice Ax2 (Za d.natAbs).length cx2)
 have hi := hi.below ha
 have PR := Hd (PR.out.below hb)
 have HB := Hd (Zb HB.out hb)
 have PR := Hd (PR.out.below ha)
 have HB := Hd (Zb HB.out ha)
 go_upto_region 4 with fail
 obtain ⟨wy1, E⟩ : ∃ W, W = wx1.alloc (.cells #[.bool (decide (n < 0)), .slice Ax1 (Za n.natAbs).length cx1, .bool (decide (d < 0)), .slice Ax2 (Za d.natAbs).length cx2] 26) := ⟨_, rfl⟩
 obtain ⟨b_x, hbq⟩ : ∃ q, q = wx1.heap.size := ⟨_, rfl⟩
 rw [<- E] at hi PR HB
 rw [<- E, <- hbq] at hq ⊢
 have P_x := Hd hq
 have O_x := Hd hi
 have N_x := Hd (show b_x ≠ w.heap.size by rw [hbq]; omega)
 clear hlt
 clear hI hi hb ha hq hbq E
 have hsz := PR.out.blk.lt
 go_wp2_with fail
 refine Zf [.any false (fun u V => ZG V 0 u n d) [999], .val (.bool false) [], .val (.bool false) [], .skip, .skip, .skip, .val (.bool false) [], .val (.bool false) [], .skip, .skip, .val (.bool false) [], .val (.bool false) [], .skip, .skip, .val (.bool false) [], .old (w.heap.size) 26 #[.bool false, .slice none 0 0, .bool false, .slice none 0 0] 0 4 0 [], .val (.bool false) []] (w.heap.size) wy1 [26] (fun _ _ => False) _ Zg (by omega) (Below.refl _ _) (Zq.refl _ _ _) rfl ?_ ?_ ?_ ?_ ?_ ?_ ?_ ?_ rfl (by simp [ZH]) ?_ ?_ ?_ ?_
 iterate 8 kernel_rfl
 . simp only [Zu, and_true]
   exact fun u V V' h k => h.kept k (by decide)
 . simp only [ZR, and_true]
   exact ⟨Nat.le_refl _, PR.out.blk.lt, PR.out.blk, by simp⟩
 . simp (maxSteps := 4000000) [Zz, Yj, ZH, Zh, ZA, Zl]
   repeat' (first | apply And.intro | (intro (u : Value)) | (intro (u : Nat)))
   all_goals try exact ⟨_, _, _, rfl, rfl, rfl, rfl, YB⟩
   all_goals first
   | (intro V hV hK
      have o_x := Hd (O_x.out.kept hK (by decide))
      have hvb := HB.out.trans (hV.mono (by omega))
      have hvs := hvb.size
      clear hV hK 
      go_simp
      first
      | exact Below.refl _ _)
   | (intro V hV hK ho
      have qx := Zw.mk ((ho b_x P_x.out.blk.lt N_x.out).trans P_x.out.blk)
      obtain ⟨-, a_x0, a_x1, a_x2, a_x3, -, -, -, -⟩ := qx.facts
      have o_x := Hd (O_x.out.kept hK (by decide))
      clear hV hK ho qx
      go_simp
      first
      | exact Below.refl _ _
      | exact ⟨o_x.out, Below.refl _ _⟩)
   | exact fun _ _ _ (h : ZG _ _ _ _ _) => h.cells
 . simp [Yn, ZD, Zh, ZA, Zl]
   intro u1 V hV hK h1 bq _ _ _
   have HF := Hd h1
   obtain ⟨A6, c6, A7, c7, rfl, -⟩ := h1.form
   simp [Z9, Value.cells] at bq
   have k0 := bq.cell 0
   have k1 := bq.cell 1
   have k2 := bq.cell 2
   have k3 := bq.cell 3
   simp at k0 k1 k2 k3
   have HB9 := Hd (HB.out.trans (hV.mono (by omega)))
   clear h1 hV hK bq
   go_wp2_with fail
   exact bodyPost_ret (by simp [results, Tryz.results28, go_sem, k0, k1, k2, k3]) rfl ⟨n, d, _, rfl, HF.out, HB9.out⟩

theorem coef_Z {n d s0 : Int} (s : ByteArray) (C1 : ∀ V : World, Calls Tryz.prog 27 #[.string s] V (ZZ V n d true)) (C2 : Yg 21 n d s0) (z : (s0 != 0) = false) (x1 : NoneOf s) (w : World)   :
   Calls Tryz.prog 28 #[.string s] w (YP w false) := by
 obtain ⟨xa, xb, xc, xd, xe⟩ := x1
 have H1 := Hd C1
 have H2 := Hd C2
 clear C1 C2
 go_enter Tryz.func28, Tryz.ntmps28
 go_upto_region 1 with fail
 refine Zy (P := fun W => Code.wp _ _ _ _ W) fun W p0 b0 => ?_
 have PR := Hd (Zw.mk p0)
 have HB := Hd b0
 clear b0 p0
 go_wp2_with fail
 refine (H1.out W).mono ?_
 rintro e wx1 ⟨v, rfl, hI, hb⟩
 have hlt := (PR.out.below hb).blk.lt
 have hi := hI
 obtain ⟨Ax1, cx1, Ax2, cx2, rfl, -⟩ := hI.form
 have ha := (Below.refl wx1.heap.size wx1).alloc (Nat.le_refl _) (.cells #[.bool (decide (n < 0)), .slice Ax1 (Za n.natAbs).length cx1, .bool (decide (d < 0)), .slice Ax2 (Za d.natAbs).length cx2] 26)
 have hq := Zw.new wx1 (.bool (decide (n < 0))) (.slice Ax1 (Za n.natAbs).length cx1) (.bool (decide (d < 0))) (.slice Ax2 (Za d.natAbs).length cx2)
 have hi := hi.below ha
 have PR := Hd (PR.out.below hb)
 have HB := Hd (Zb HB.out hb)
 have PR := Hd (PR.out.below ha)
 have HB := Hd (Zb HB.out ha)
 go_upto_region 4 with fail
 obtain ⟨wy1, E⟩ : ∃ W, W = wx1.alloc (.cells #[.bool (decide (n < 0)), .slice Ax1 (Za n.natAbs).length cx1, .bool (decide (d < 0)), .slice Ax2 (Za d.natAbs).length cx2] 26) := ⟨_, rfl⟩
 obtain ⟨b_x, hbq⟩ : ∃ q, q = wx1.heap.size := ⟨_, rfl⟩
 rw [<- E] at hi PR HB
 rw [<- E, <- hbq] at hq ⊢
 have P_x := Hd hq
 have O_x := Hd hi
 have N_x := Hd (show b_x ≠ w.heap.size by rw [hbq]; omega)
 clear hlt
 clear hI hi hb ha hq hbq E
 have hsz := PR.out.blk.lt
 go_wp2_with fail
 refine Zf [.any false (fun u V => ZG V 0 u n d) [999], .val (.bool true) [], .val (.bool true) [], .val (.agg #[.bool (decide (n < 0)), .slice Ax1 (Za n.natAbs).length cx1, .bool (decide (d < 0)), .slice Ax2 (Za d.natAbs).length cx2]) [999], .val (.int .i64 s0) [], .val (.bool false) [], .val (.bool false) [], .val (.bool false) [], .skip, .skip, .val (.bool false) [], .val (.bool false) [], .skip, .skip, .val (.bool false) [], .old (w.heap.size) 26 #[.bool false, .slice none 0 0, .bool false, .slice none 0 0] 0 4 0 [], .val (.bool false) []] (w.heap.size) wy1 [26] (fun _ _ => False) _ Zg (by omega) (Below.refl _ _) (Zq.refl _ _ _) rfl ?_ ?_ ?_ ?_ ?_ ?_ ?_ ?_ rfl (by simp [ZH]) ?_ ?_ ?_ ?_
 iterate 8 kernel_rfl
 . simp only [Zu, and_true]
   exact fun u V V' h k => h.kept k (by decide)
 . simp only [ZR, and_true]
   exact ⟨Nat.le_refl _, PR.out.blk.lt, PR.out.blk, by simp⟩
 . simp (maxSteps := 4000000) [Zz, Yj, ZH, Zh, ZA, Zl]
   repeat' (first | apply And.intro | (intro (u : Value)) | (intro (u : Nat)))
   all_goals try exact ⟨_, _, _, rfl, rfl, rfl, rfl, YB⟩
   all_goals first
   | (intro V hV hK
      have o_x := Hd (O_x.out.kept hK (by decide))
      have hvb := HB.out.trans (hV.mono (by omega))
      have hvs := hvb.size
      clear hV hK 
      go_simp
      first
      | exact Below.refl _ _
      | ((with_reducible refine (H2.out V _ o_x.out.at_).mono ?_); rintro e w' ⟨rfl, hb⟩; exact ⟨rfl, hb⟩))
   | (intro V hV hK ho
      have qx := Zw.mk ((ho b_x P_x.out.blk.lt N_x.out).trans P_x.out.blk)
      obtain ⟨-, a_x0, a_x1, a_x2, a_x3, -, -, -, -⟩ := qx.facts
      have o_x := Hd (O_x.out.kept hK (by decide))
      clear hV hK ho qx
      go_simp
      first
      | exact Below.refl _ _
      | exact ⟨o_x.out, Below.refl _ _⟩)
   | exact fun _ _ _ (h : ZG _ _ _ _ _) => h.cells
 . simp [Yn, ZD, Zh, ZA, Zl]
   intro u1 V hV hK h1 bq _ _ _
   have HF := Hd h1
   obtain ⟨A6, c6, A7, c7, rfl, -⟩ := h1.form
   simp [Z9, Value.cells] at bq
   have k0 := bq.cell 0
   have k1 := bq.cell 1
   have k2 := bq.cell 2
   have k3 := bq.cell 3
   simp at k0 k1 k2 k3
   have HB9 := Hd (HB.out.trans (hV.mono (by omega)))
   clear h1 hV hK bq
   go_wp2_with fail
   exact bodyPost_ret (by simp [results, Tryz.results28, go_sem, k0, k1, k2, k3]) rfl ⟨n, d, _, rfl, HF.out, HB9.out⟩

theorem coef_1 {n d s0 : Int} (C1 : ∀ V : World, Calls Tryz.prog 27 #[.string ⟨#[49]⟩] V (ZZ V n d true)) (C2 : Yg 21 n d s0) (z : (s0 != 0) = true) (w : World)   :
   Calls Tryz.prog 28 #[.string ⟨#[49]⟩] w (YP w false) := by
 have H1 := Hd C1
 have H2 := Hd C2
 clear C1 C2
 go_enter Tryz.func28, Tryz.ntmps28
 go_upto_region 1 with fail
 refine Zy (P := fun W => Code.wp _ _ _ _ W) fun W p0 b0 => ?_
 have PR := Hd (Zw.mk p0)
 have HB := Hd b0
 clear b0 p0
 go_wp2_with fail
 refine (H1.out W).mono ?_
 rintro e wx1 ⟨v, rfl, hI, hb⟩
 have hlt := (PR.out.below hb).blk.lt
 have hi := hI
 obtain ⟨Ax1, cx1, Ax2, cx2, rfl, -⟩ := hI.form
 have ha := (Below.refl wx1.heap.size wx1).alloc (Nat.le_refl _) (.cells #[.bool (decide (n < 0)), .slice Ax1 (Za n.natAbs).length cx1, .bool (decide (d < 0)), .slice Ax2 (Za d.natAbs).length cx2] 26)
 have hq := Zw.new wx1 (.bool (decide (n < 0))) (.slice Ax1 (Za n.natAbs).length cx1) (.bool (decide (d < 0))) (.slice Ax2 (Za d.natAbs).length cx2)
 have hi := hi.below ha
 have PR := Hd (PR.out.below hb)
 have HB := Hd (Zb HB.out hb)
 have PR := Hd (PR.out.below ha)
 have HB := Hd (Zb HB.out ha)
 go_upto_region 4 with fail
 obtain ⟨wy1, E⟩ : ∃ W, W = wx1.alloc (.cells #[.bool (decide (n < 0)), .slice Ax1 (Za n.natAbs).length cx1, .bool (decide (d < 0)), .slice Ax2 (Za d.natAbs).length cx2] 26) := ⟨_, rfl⟩
 obtain ⟨b_x, hbq⟩ : ∃ q, q = wx1.heap.size := ⟨_, rfl⟩
 rw [<- E] at hi PR HB
 rw [<- E, <- hbq] at hq ⊢
 have P_x := Hd hq
 have O_x := Hd hi
 have N_x := Hd (show b_x ≠ w.heap.size by rw [hbq]; omega)
 clear hlt
 clear hI hi hb ha hq hbq E
 have hsz := PR.out.blk.lt
 go_wp2_with fail
 refine Zf [.any false (fun u V => ZG V 0 u n d) [999], .val (.bool true) [], .val (.bool true) [], .val (.agg #[.bool (decide (n < 0)), .slice Ax1 (Za n.natAbs).length cx1, .bool (decide (d < 0)), .slice Ax2 (Za d.natAbs).length cx2]) [999], .val (.int .i64 s0) [], .val (.bool true) [], .val (.bool true) [], .val (.bool true) [], .val (.string ⟨#[49]⟩) [], .val (.bool false) [], .val (.bool false) [], .val (.bool false) [], .skip, .skip, .val (.bool false) [], .old (w.heap.size) 26 #[.bool false, .slice none 0 0, .bool false, .slice none 0 0] 0 4 0 [], .val (.bool false) []] (w.heap.size) wy1 [26] (fun _ _ => False) _ Zg (by omega) (Below.refl _ _) (Zq.refl _ _ _) rfl ?_ ?_ ?_ ?_ ?_ ?_ ?_ ?_ rfl (by simp [ZH]) ?_ ?_ ?_ ?_
 iterate 8 kernel_rfl
 . simp only [Zu, and_true]
   exact fun u V V' h k => h.kept k (by decide)
 . simp only [ZR, and_true]
   exact ⟨Nat.le_refl _, PR.out.blk.lt, PR.out.blk, by simp⟩
 . simp (maxSteps := 4000000) [Zz, Yj, ZH, Zh, ZA, Zl]
   repeat' (first | apply And.intro | (intro (u : Value)) | (intro (u : Nat)))
   all_goals try exact ⟨_, _, _, rfl, rfl, rfl, rfl, YB⟩
   all_goals first
   | (intro V hV hK
      have o_x := Hd (O_x.out.kept hK (by decide))
      have hvb := HB.out.trans (hV.mono (by omega))
      have hvs := hvb.size
      clear hV hK 
      go_simp
      first
      | exact Below.refl _ _
      | ((with_reducible refine (H2.out V _ o_x.out.at_).mono ?_); rintro e w' ⟨rfl, hb⟩; exact ⟨rfl, hb⟩))
   | (intro V hV hK ho
      have qx := Zw.mk ((ho b_x P_x.out.blk.lt N_x.out).trans P_x.out.blk)
      obtain ⟨-, x0, x1, x2, x3, -, -, -, -⟩ := qx.facts
      have o_x := Hd (O_x.out.kept hK (by decide))
      clear hV hK ho qx
      go_simp
      first
      | exact Below.refl _ _
      | exact ⟨o_x.out, Below.refl _ _⟩)
   | exact fun _ _ _ (h : ZG _ _ _ _ _) => h.cells
 . simp [Yn, ZD, Zh, ZA, Zl]
   intro u1 V hV hK h1 bq _ _ _
   have HF := Hd h1
   obtain ⟨A6, c6, A7, c7, rfl, -⟩ := h1.form
   simp [Z9, Value.cells] at bq
   have k0 := bq.cell 0
   have k1 := bq.cell 1
   have k2 := bq.cell 2
   have k3 := bq.cell 3
   simp at k0 k1 k2 k3
   have HB9 := Hd (HB.out.trans (hV.mono (by omega)))
   clear h1 hV hK bq
   go_wp2_with fail
   exact bodyPost_ret (by simp [results, Tryz.results28, go_sem, k0, k1, k2, k3]) rfl ⟨n, d, _, rfl, HF.out, HB9.out⟩

theorem coef_M {n d s0 : Int} (C1 : ∀ V : World, Calls Tryz.prog 27 #[.string ⟨#[45, 49]⟩] V (ZZ V n d true)) (C2 : Yg 21 n d s0) (z : (s0 != 0) = true) (w : World)   :
   Calls Tryz.prog 28 #[.string ⟨#[45, 49]⟩] w (YP w false) := by
 have H1 := Hd C1
 have H2 := Hd C2
 clear C1 C2
 go_enter Tryz.func28, Tryz.ntmps28
 go_upto_region 1 with fail
 refine Zy (P := fun W => Code.wp _ _ _ _ W) fun W p0 b0 => ?_
 have PR := Hd (Zw.mk p0)
 have HB := Hd b0
 clear b0 p0
 go_wp2_with fail
 refine (H1.out W).mono ?_
 rintro e wx1 ⟨v, rfl, hI, hb⟩
 have hlt := (PR.out.below hb).blk.lt
 have hi := hI
 obtain ⟨Ax1, cx1, Ax2, cx2, rfl, -⟩ := hI.form
 have ha := (Below.refl wx1.heap.size wx1).alloc (Nat.le_refl _) (.cells #[.bool (decide (n < 0)), .slice Ax1 (Za n.natAbs).length cx1, .bool (decide (d < 0)), .slice Ax2 (Za d.natAbs).length cx2] 26)
 have hq := Zw.new wx1 (.bool (decide (n < 0))) (.slice Ax1 (Za n.natAbs).length cx1) (.bool (decide (d < 0))) (.slice Ax2 (Za d.natAbs).length cx2)
 have hi := hi.below ha
 have PR := Hd (PR.out.below hb)
 have HB := Hd (Zb HB.out hb)
 have PR := Hd (PR.out.below ha)
 have HB := Hd (Zb HB.out ha)
 go_upto_region 4 with fail
 obtain ⟨wy1, E⟩ : ∃ W, W = wx1.alloc (.cells #[.bool (decide (n < 0)), .slice Ax1 (Za n.natAbs).length cx1, .bool (decide (d < 0)), .slice Ax2 (Za d.natAbs).length cx2] 26) := ⟨_, rfl⟩
 obtain ⟨b_x, hbq⟩ : ∃ q, q = wx1.heap.size := ⟨_, rfl⟩
 rw [<- E] at hi PR HB
 rw [<- E, <- hbq] at hq ⊢
 have P_x := Hd hq
 have O_x := Hd hi
 have N_x := Hd (show b_x ≠ w.heap.size by rw [hbq]; omega)
 clear hlt
 clear hI hi hb ha hq hbq E
 have hsz := PR.out.blk.lt
 go_wp2_with fail
 refine Zf [.any false (fun u V => ZG V 0 u n d) [999], .val (.bool true) [], .val (.bool true) [], .val (.agg #[.bool (decide (n < 0)), .slice Ax1 (Za n.natAbs).length cx1, .bool (decide (d < 0)), .slice Ax2 (Za d.natAbs).length cx2]) [999], .val (.int .i64 s0) [], .val (.bool true) [], .val (.bool true) [], .val (.bool true) [], .val (.string ⟨#[45, 49]⟩) [], .val (.bool true) [], .val (.bool true) [], .val (.bool true) [], .val (.string ⟨#[45, 49]⟩) [], .val (.bool false) [], .val (.bool false) [], .old (w.heap.size) 26 #[.bool false, .slice none 0 0, .bool false, .slice none 0 0] 0 4 0 [], .val (.bool false) []] (w.heap.size) wy1 [26] (fun _ _ => False) _ Zg (by omega) (Below.refl _ _) (Zq.refl _ _ _) rfl ?_ ?_ ?_ ?_ ?_ ?_ ?_ ?_ rfl (by simp [ZH]) ?_ ?_ ?_ ?_
 iterate 8 kernel_rfl
 . simp only [Zu, and_true]
   exact fun u V V' h k => h.kept k (by decide)
 . simp only [ZR, and_true]
   exact ⟨Nat.le_refl _, PR.out.blk.lt, PR.out.blk, by simp⟩
 . simp (maxSteps := 4000000) [Zz, Yj, ZH, Zh, ZA, Zl]
   repeat' (first | apply And.intro | (intro (u : Value)) | (intro (u : Nat)))
   all_goals try exact ⟨_, _, _, rfl, rfl, rfl, rfl, YB⟩
   all_goals first
   | (intro V hV hK
      have o_x := Hd (O_x.out.kept hK (by decide))
      have hvb := HB.out.trans (hV.mono (by omega))
      have hvs := hvb.size
      clear hV hK 
      go_simp
      first
      | exact Below.refl _ _
      | ((with_reducible refine (H2.out V _ o_x.out.at_).mono ?_); rintro e w' ⟨rfl, hb⟩; exact ⟨rfl, hb⟩))
   | (intro V hV hK ho
      have qx := Zw.mk ((ho b_x P_x.out.blk.lt N_x.out).trans P_x.out.blk)
      obtain ⟨-, x0, x1, x2, x3, -, -, -, -⟩ := qx.facts
      have o_x := Hd (O_x.out.kept hK (by decide))
      clear hV hK ho qx
      go_simp
      first
      | exact Below.refl _ _
      | exact ⟨o_x.out, Below.refl _ _⟩)
   | exact fun _ _ _ (h : ZG _ _ _ _ _) => h.cells
 . simp [Yn, ZD, Zh, ZA, Zl]
   intro u1 V hV hK h1 bq _ _ _
   have HF := Hd h1
   obtain ⟨A6, c6, A7, c7, rfl, -⟩ := h1.form
   simp [Z9, Value.cells] at bq
   have k0 := bq.cell 0
   have k1 := bq.cell 1
   have k2 := bq.cell 2
   have k3 := bq.cell 3
   simp at k0 k1 k2 k3
   have HB9 := Hd (HB.out.trans (hV.mono (by omega)))
   clear h1 hV hK bq
   go_wp2_with fail
   exact bodyPost_ret (by simp [results, Tryz.results28, go_sem, k0, k1, k2, k3]) rfl ⟨n, d, _, rfl, HF.out, HB9.out⟩

theorem coef_G {n d s0 : Int} (s : ByteArray) (C1 : ∀ V : World, Calls Tryz.prog 27 #[.string s] V (ZF V n d true)) (C2 : Yg 21 n d s0) (z : (s0 != 0) = true) (x1 : NoneOf s) (x2 : NoneOf2 s) (w : World)   :
   Calls Tryz.prog 28 #[.string s] w (ZF w n d true) := by
 obtain ⟨xa, xb, xc, xd, xe⟩ := x1
 obtain ⟨ya, yb, yc, yd⟩ := x2
 have H1 := Hd C1
 have H2 := Hd C2
 clear C1 C2
 go_enter Tryz.func28, Tryz.ntmps28
 go_upto_region 1 with fail
 refine Zy (P := fun W => Code.wp _ _ _ _ W) fun W p0 b0 => ?_
 have PR := Hd (Zw.mk p0)
 have HB := Hd b0
 clear b0 p0
 go_wp2_with fail
 refine (H1.out W).mono ?_
 rintro e wx1 ⟨v, rfl, hI, hb⟩
 have hlt := (PR.out.below hb).blk.lt
 have hi := hI.in_
 obtain ⟨Ax1, cx1, Ax2, cx2, rfl, -⟩ := hI.form
 have HS_x := Hd HB.out.size
 have ha := (Below.refl wx1.heap.size wx1).alloc (Nat.le_refl _) (.cells #[.bool (decide (n < 0)), .slice Ax1 (Za n.natAbs).length cx1, .bool (decide (d < 0)), .slice Ax2 (Za d.natAbs).length cx2] 26)
 have hq := Zw.new wx1 (.bool (decide (n < 0))) (.slice Ax1 (Za n.natAbs).length cx1) (.bool (decide (d < 0))) (.slice Ax2 (Za d.natAbs).length cx2)
 have hi := hi.below ha
 have ho := hI.below ha
 have PR := Hd (PR.out.below hb)
 have HB := Hd (Zb HB.out hb)
 have PR := Hd (PR.out.below ha)
 have HB := Hd (Zb HB.out ha)
 go_upto_region 4 with fail
 obtain ⟨wy1, E⟩ : ∃ W, W = wx1.alloc (.cells #[.bool (decide (n < 0)), .slice Ax1 (Za n.natAbs).length cx1, .bool (decide (d < 0)), .slice Ax2 (Za d.natAbs).length cx2] 26) := ⟨_, rfl⟩
 obtain ⟨b_x, hbq⟩ : ∃ q, q = wx1.heap.size := ⟨_, rfl⟩
 rw [<- E] at hi ho PR HB
 rw [<- E, <- hbq] at hq ⊢
 have P_x := Hd hq
 have O_x := Hd hi
 have Q_x := Hd ho
 clear ho
 have N_x := Hd (show b_x ≠ w.heap.size by rw [hbq]; omega)
 clear hlt
 clear hI hi hb ha hq hbq E
 have O_x := Hd (Q_x.out.base HS_x.out)
 clear Q_x
 have hsz := PR.out.blk.lt
 go_wp2_with fail
 refine Zf [.any false (fun u V => Ze V w.heap.size u n d) [999], .val (.bool true) [], .val (.bool true) [], .val (.agg #[.bool (decide (n < 0)), .slice Ax1 (Za n.natAbs).length cx1, .bool (decide (d < 0)), .slice Ax2 (Za d.natAbs).length cx2]) [999], .val (.int .i64 s0) [], .val (.bool true) [], .val (.bool true) [], .val (.bool true) [], .val (.string s) [], .val (.bool true) [], .val (.bool true) [], .val (.bool true) [], .val (.string s) [], .val (.bool true) [], .val (.bool true) [], .old (w.heap.size) 26 #[.bool false, .slice none 0 0, .bool false, .slice none 0 0] 0 4 0 [], .val (.bool true) []] (w.heap.size) wy1 [26] Yp _ Zg (by omega) (Below.refl _ _) (Zq.refl _ _ _) rfl ?_ ?_ ?_ ?_ ?_ ?_ ?_ ?_ rfl (by simp [ZH]) ?_ ?_ ?_ ?_
 iterate 8 kernel_rfl
 . simp only [Zu, and_true]
   exact fun u V V' h k => h.kept k (by decide)
 . simp only [ZR, and_true]
   exact ⟨Nat.le_refl _, PR.out.blk.lt, PR.out.blk, by simp⟩
 . simp (maxSteps := 4000000) [Zz, Yj, ZH, Zh, ZA, Zl]
   repeat' (first | apply And.intro | (intro (u : Value)) | (intro (u : Nat)))
   all_goals try exact ⟨_, _, _, rfl, rfl, rfl, rfl, YB⟩
   all_goals first
   | (intro V hV hK
      have o_x := Hd (O_x.out.kept hK (by decide))
      have hvb := HB.out.trans (hV.mono (by omega))
      have hvs := hvb.size
      clear hV hK 
      go_simp
      first
      | exact Below.refl _ _
      | ((with_reducible refine (H2.out V _ o_x.out.at_).mono ?_); rintro e w' ⟨rfl, hb⟩; exact ⟨rfl, hb⟩))
   | (intro V hV hK ho
      have qx := Zw.mk ((ho b_x P_x.out.blk.lt N_x.out).trans P_x.out.blk)
      obtain ⟨-, a_x0, a_x1, a_x2, a_x3, -, -, -, -⟩ := qx.facts
      have o_x := Hd (O_x.out.kept hK (by decide))
      clear hV hK ho qx
      go_simp
      first
      | exact Below.refl _ _
      | exact ⟨o_x.out, Below.refl _ _⟩)
   | exact fun _ _ _ (h : Ze _ _ _ _ _) => h.cells
 . simp [Yn, ZD, Zh, ZA, Zl]
   intro u1 V hV hK h1 bq _ _ _
   have HF := Hd h1
   obtain ⟨A6, c6, A7, c7, rfl, -⟩ := h1.form
   simp [Z9, Value.cells] at bq
   have k0 := bq.cell 0
   have k1 := bq.cell 1
   have k2 := bq.cell 2
   have k3 := bq.cell 3
   simp at k0 k1 k2 k3
   have HB9 := Hd (HB.out.trans (hV.mono (by omega)))
   clear h1 hV hK bq
   go_wp2_with fail
   exact bodyPost_ret (by simp [results, Tryz.results28, go_sem, k0, k1, k2, k3]) rfl ⟨_, rfl, HF.out, HB9.out⟩

open Go.Lib

theorem decodeN_all (n b0 b1 b2 b3 : Nat) (h : (decodeN n b0 b1 b2 b3).2 = n) :
  (b0 < 128 /\ n = 1) ∨ (128 <= (decodeN n b0 b1 b2 b3).1 /\ 128 <= b0 /\ n <= 4 /\ (2 <= n -> 128 <= b1) /\ (3 <= n -> 128 <= b2) /\ (4 <= n -> 128 <= b3)) := by
 revert h
 unfold decodeN
 repeat' split
 all_goals (simp only; omega)
theorem last_low (l : List UInt8) (hne : l ≠ []) (h : (l.getD (l.length - 1) 0).toNat < 128) : decodeLastL l = ((l.getD (l.length - 1) 0).toNat, 1) := by
 unfold decodeLastL
 rw [if_neg hne, if_pos h]
theorem last_high (l : List UInt8) (hne : l ≠ []) (h : 128 <= (l.getD (l.length - 1) 0).toNat) :
   128 <= (decodeLastL l).1 /\ ∀ j, l.length - (decodeLastL l).2 <= j -> j < l.length -> 128 <= (l.getD j 0).toNat := by
 have hl : 0 < l.length := List.length_pos_iff.2 hne
 unfold decodeLastL
 rw [if_neg hne, if_neg (by omega)]
 simp only
 split
 . rename_i hd
   rw [decodeL_N, List.length_drop] at hd ⊢
   simp only [getD_dropU, Nat.add_zero] at hd ⊢
   obtain ⟨st, hst⟩ : ∃ k, k = lastStart l := ⟨_, rfl⟩
   rw [<- hst] at hd ⊢
   have h2 := decodeN_all (l.length - st) (l.getD st 0).toNat (l.getD (st + 1) 0).toNat (l.getD (st + 2) 0).toNat (l.getD (st + 3) 0).toNat (by omega)
   rcases h2 with ⟨h3, h4⟩ | ⟨h3, h4, h5, h6, h7, h8⟩
   . exfalso
     have e : l.length - 1 = st := by omega
     rw [e] at h
     omega
   . refine ⟨h3, fun j h1 hj => ?_⟩
     have h9 : st <= j := by omega
     rcases (by omega : j = st ∨ j = st + 1 ∨ j = st + 2 ∨ j = st + 3) with rfl | rfl | rfl | rfl
     . exact h4
     . exact h6 (by omega)
     . exact h7 (by omega)
     . exact h8 (by omega)
 . refine ⟨by decide, fun j h1 hj => ?_⟩
   simp only at h1
   have e : j = l.length - 1 := by omega
   rw [e]
   exact h
end Go.Proofs.YtdonecnhdkjniaaGreatDoor
