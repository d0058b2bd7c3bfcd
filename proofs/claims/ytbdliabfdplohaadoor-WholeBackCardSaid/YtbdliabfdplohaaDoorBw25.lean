/- Several texts in one: Nums, Alive, Answered. -/
import Derived.Test.YtbdliabfdplohaaDoorBw24
import Derived.Test.YtbdliabfdplohaaDoorBw16
import Derived.Test.YtbdliabfdplohaaDoorBwHd
import Derived.Test.YtbdliabfdplohaaDoorBw15
import Derived.Test.YtbdliabfdplohaaDoorBw20
import Derived.Test.YtbdliabfdplohaaDoorBw18
set_option maxRecDepth 100000
set_option maxHeartbeats 8000000
/- Variables that hold numbers; lists of numbers handed to may, small. -/
namespace Go.Proofs.YtbdliabfdplohaaDoor
open Go.RowKit

theorem reads_new (w : World) (t : TypeId) (size n : Nat) (cs : List Value) (h : cs.length = n * size) : Reads (w.alloc (.cells cs.toArray t)) (w.heap.size + 1) size (some ⟨w.heap.size, 0, none⟩) n cs :=
  ⟨h, fun _ => ⟨⟨w.heap.size, 0, none⟩, rfl, Nat.lt_succ_self _, fun j u hu => by
    rw [show (⟨w.heap.size, 0, none⟩ : Addr).add j = ⟨w.heap.size, j, none⟩ by unfold Addr.add; split <;> simp_all, (Blk.new w t cs.toArray).cell j, ← hu]
    simp⟩⟩
theorem may_list (l : List Num) (hl : l.length ≤ 1000) (V : World) (hr : ∀ m ∈ l, Raw V m.2.1 m.2.2.1 m.2.2.2) (t : TypeId) (b : Bool) (hb : b = l.all okNum) :
    Calls Tryd.prog 15 #[.slice (some ⟨V.heap.size, 0, none⟩) l.length l.length] (V.alloc (.cells (cellsNum l).toArray t)) fun e w' => e = .returned (.bool b) ∧ Below V.heap.size V w' := by
  have hlen : ∀ l : List Num, (cellsNum l).length = l.length * 2 := by
    intro l
    unfold cellsNum
    induction l with
    | nil => rfl
    | cons a r ih => rw [List.flatMap_cons, List.length_append, ih]; simp; omega
  have hn := reads_new V t 2 l.length (cellsNum l) (hlen l)
  refine (may_any (some ⟨V.heap.size, 0, none⟩) l.length l hl _ (fun m hm => (hr m hm).alloc _) (hn.more (by simp))).mono ?_
  rintro e w' ⟨rfl, h⟩
  exact ⟨by rw [hb], belowTo ((Below.refl _ _).alloc (Nat.le_refl _) _) h⟩
theorem okNum_fit {z : Int} {A : Option Addr} {c : Nat} (h : Fit z) : okNum (decide (z < 0), A, c, natL z.natAbs) = true := h.ok
theorem may1 (x : Int) (A : Option Addr) (c : Nat) (V : World) (h : Raw V A c (natL x.natAbs)) (t : TypeId) (b : Bool) (hb : b = decide (Fit x)) :
    Calls Tryd.prog 15 #[.slice (some ⟨V.heap.size, 0, none⟩) 1 1] (V.alloc (.cells #[.bool (decide (x < 0)), .slice A (natL x.natAbs).length c] t)) fun e w' => e = .returned (.bool b) ∧ Below V.heap.size V w' :=
  may_list [(decide (x < 0), A, c, natL x.natAbs)] (by simp) V (by intro m hm; simp at hm; subst hm; exact h) t b (by
    rw [hb]
    simp only [List.all_cons, List.all_nil, Bool.and_true]
    by_cases f : Fit x
    · rw [okNum_fit f]; simp [f]
    · have : okNum (decide (x < 0), A, c, natL x.natAbs) = false := by
        rw [Bool.eq_false_iff]; intro o; exact f (fit_of o)
      rw [this]; simp [f])
theorem may2 (x y : Int) (A B : Option Addr) (c d : Nat) (V : World) (h : Raw V A c (natL x.natAbs)) (g : Raw V B d (natL y.natAbs)) (fx : Fit x) (fy : Fit y) (t : TypeId) :
    Calls Tryd.prog 15 #[.slice (some ⟨V.heap.size, 0, none⟩) 2 2] (V.alloc (.cells #[.bool (decide (x < 0)), .slice A (natL x.natAbs).length c, .bool (decide (y < 0)), .slice B (natL y.natAbs).length d] t)) fun e w' => e = .returned (.bool true) ∧ Below V.heap.size V w' :=
  may_list [(decide (x < 0), A, c, natL x.natAbs), (decide (y < 0), B, d, natL y.natAbs)] (by simp) V (by intro m hm; simp at hm; rcases hm with rfl | rfl <;> first | exact h | exact g) t true (by simp [okNum_fit fx, okNum_fit fy])
theorem of_n (n z : Int) (h : z = n) (h1 : -9223372036854775808 ≤ n) (h2 : n ≤ 9223372036854775807) (w : World) : Calls Tryd.prog 26 #[.int .i64 n] w (RetN1 w z) := by
  rw [h]; exact of_z n h1 h2 w
/- Text of package whole; alive: the answers that the document fixes. (Written by wip/whole/genalive.py.) -/

theorem powTab.below {w w' : World} (h : powTab w) (hb : Below w.heap.size w w') : powTab w' := Lib.tabBelow_of_tabIs h w' hb

theorem text_z (x : Int) (A : Option Addr) (c : Nat) (t : ByteArray) (hx : Fit x) (w : World) (h : Raw w A c (natL x.natAbs)) (htab : powTab w) (ht : t = ⟨(Lib.itoa x).toArray⟩) :
    Calls Tryd.prog 8 #[.agg #[.bool (decide (x < 0)), .slice A (natL x.natAbs).length c]] w fun e w' => e = .returned (.tuple #[.string t, .int .i64 0]) ∧ Below w.heap.size w w' := by
  have px := Pair.new w 24 (.bool (decide (x < 0))) (.slice A (natL x.natAbs).length c)
  have b0 := (Below.refl w.heap.size w).alloc (Nat.le_refl _) (.cells #[.bool (decide (x < 0)), .slice A (natL x.natAbs).length c] 24)
  have rx := h.alloc (.cells #[.bool (decide (x < 0)), .slice A (natL x.natAbs).length c] 24)
  have C0 := Hd (fun (V : World) (a : Raw V A c (natL x.natAbs)) => show Calls Tryd.prog 17 #[.agg #[.bool (decide (x < 0)), .slice A (natL x.natAbs).length c]] V fun e w' => e = .returned (.int .i64 0) ∧ Below V.heap.size V w' from by
    have := exact_Check_any (decide (x < 0)) A c _ V a
    unfold errI at this
    rwa [hx.ok, if_pos rfl] at this)
  have C1 := Hd (fun (V : World) (a : Raw V A c (natL x.natAbs)) (b : powTab V) => show Calls Tryd.prog 18 #[.agg #[.bool (decide (x < 0)), .slice A (natL x.natAbs).length c]] V fun e w' => e = .returned (.string t) ∧ Below V.heap.size V w' from by
    have := exact_Digits (decide (x < 0)) A c (natL x.natAbs) (canon_natL _) (by unfold Fit at hx; omega) V a b
    rwa [ival_at, ← ht] at this)
  have HT := Hd (htab.below b0)
  clear h htab hx ht
  go_enter Tryd.func8, Tryd.ntmps8
  go_wp2_with fail
  obtain ⟨W, E⟩ : ∃ W, W = w.alloc (.cells #[.bool (decide (x < 0)), .slice A (natL x.natAbs).length c] 24) := ⟨_, rfl⟩
  rw [← E] at px b0 rx HT ⊢
  clear E
  refine (C0.out W rx).mono ?_
  rintro e w1 ⟨rfl, hb⟩
  have px1 := px.below hb
  have rx1 := rx.below hb
  have ht1 := HT.out.below hb
  have HB := Hd (belowTo b0 hb)
  obtain ⟨l1, x0, x1, -, -⟩ := px1.facts
  clear px rx HT hb b0 px1
  go_wp2_with fail
  refine (C1.out w1 rx1 ht1).mono ?_
  rintro e w2 ⟨rfl, hb⟩
  have HF := Hd (belowTo HB.out hb)
  clear hb rx1 ht1 l1 x0 x1
  go_wp2_with fail
  go_ret2
  exact ⟨rfl, HF.out⟩

theorem text_const : (⟨#[45, 49, 56, 52, 52, 54, 55, 52, 52, 48, 55, 51, 55, 48, 57, 53, 53, 49, 54, 49, 54]⟩ : ByteArray) = ⟨(Lib.itoa (-18446744073709551616)).toArray⟩ := by
  rw [show (-18446744073709551616 : Int) = -((18446744073709551616 : Nat) : Int) from rfl, Lib.itoa_neg _ (by decide), dec_nine (by decide)]
  rw [show 18446744073709551616 / 1000000000 = 18446744073 by decide, show 18446744073709551616 % 1000000000 = 709551616 by decide, dec_nine (by decide), show 18446744073 / 1000000000 = 18 by decide, show 18446744073 % 1000000000 = 446744073 by decide, Lib.decDigits_two (by decide) (by decide)]
  rfl
theorem alive_true (w : World) (htab : powTab w) :
    Calls Tryd.prog 14 #[] w fun e w' => e = .returned (.bool true) ∧ Below w.heap.size w w' := by
  obtain ⟨p, h_p⟩ : ∃ z : Int, z = -4294967296 := ⟨_, rfl⟩
  obtain ⟨q, h_q⟩ : ∃ z : Int, z = 4294967296 := ⟨_, rfl⟩
  obtain ⟨m, h_m⟩ : ∃ z : Int, z = -18446744073709551616 := ⟨_, rfl⟩
  obtain ⟨s, h_s⟩ : ∃ z : Int, z = -7 := ⟨_, rfl⟩
  obtain ⟨t, h_t⟩ : ∃ z : Int, z = 2 := ⟨_, rfl⟩
  obtain ⟨u, h_u⟩ : ∃ z : Int, z = -3 := ⟨_, rfl⟩
  obtain ⟨v, h_v⟩ : ∃ z : Int, z = -1 := ⟨_, rfl⟩
  obtain ⟨a, h_a⟩ : ∃ z : Int, z = 7 := ⟨_, rfl⟩
  obtain ⟨n, h_n⟩ : ∃ z : Int, z = 0 := ⟨_, rfl⟩
  obtain ⟨tx, h_tx⟩ : ∃ t : ByteArray, t = ⟨#[45, 49, 56, 52, 52, 54, 55, 52, 52, 48, 55, 51, 55, 48, 57, 53, 53, 49, 54, 49, 54]⟩ := ⟨_, rfl⟩
  have F_p := Hd (show Fit p from Fit.small (by rw [h_p]; decide))
  have F_q := Hd (show Fit q from Fit.small (by rw [h_q]; decide))
  have F_m := Hd (show Fit m from by rw [h_m]; decide)
  have F_s := Hd (show Fit s from Fit.small (by rw [h_s]; decide))
  have F_t := Hd (show Fit t from Fit.small (by rw [h_t]; decide))
  have F_u := Hd (show Fit u from Fit.small (by rw [h_u]; decide))
  have F_v := Hd (show Fit v from Fit.small (by rw [h_v]; decide))
  have F_a := Hd (show Fit a from Fit.small (by rw [h_a]; decide))
  have F_n := Hd (show Fit n from Fit.small (by rw [h_n]; decide))
  have O_p := Hd (fun (V : World) => of_n (-4294967296) p h_p (by decide) (by decide) V)
  have O_q := Hd (fun (V : World) => of_n (4294967296) q h_q (by decide) (by decide) V)
  have O_s := Hd (fun (V : World) => of_n (-7) s h_s (by decide) (by decide) V)
  have O_t := Hd (fun (V : World) => of_n (2) t h_t (by decide) (by decide) V)
  have O_u := Hd (fun (V : World) => of_n (-3) u h_u (by decide) (by decide) V)
  have O_v := Hd (fun (V : World) => of_n (-1) v h_v (by decide) (by decide) V)
  have O_a := Hd (fun (V : World) => of_n (7) a h_a (by decide) (by decide) V)
  have O_n := Hd (fun (V : World) => of_n (0) n h_n (by decide) (by decide) V)
  have HM := Hd (show m = p * q from by rw [h_m, h_p, h_q]; decide)
  have HQ := Hd (show u = s.tdiv t ∧ v = s.tmod t ∧ t ≠ 0 from ⟨by rw [h_u, h_s, h_t]; decide, by rw [h_v, h_s, h_t]; decide, by rw [h_t]; decide⟩)
  have HN := Hd h_n
  have HTX := Hd (show tx = ⟨(Lib.itoa m).toArray⟩ from by rw [h_tx, h_m]; exact text_const)
  have HC1 := Hd (show (0 : Int) = cmpz u u from by unfold cmpz; simp)
  have HC2 := Hd (show (0 : Int) = cmpz v v from by unfold cmpz; simp)
  have HC3 := Hd (show (-1 : Int) = cmpz u v from by rw [h_u, h_v]; decide)
  have h_tx2 := Hd h_tx
  clear h_p h_q h_m h_s h_t h_u h_v h_a h_n h_tx
  have HT := Hd htab
  have HBW := Hd (Below.refl w.heap.size w)
  clear htab
  go_enter Tryd.func14, Tryd.ntmps14
  go_wp2_with fail
  refine (O_p.out w).mono ?_
  rintro e x1 ⟨A1, c1, rfl, r1, hb⟩
  have HT := Hd (HT.out.below hb)
  have HBW := Hd (belowTo HBW.out hb)
  have R_1 := Hd r1
  clear hb r1
  go_wp2_with fail
  refine (O_q.out x1).mono ?_
  rintro e x2 ⟨A2, c2, rfl, r2, hb⟩
  have R_1 := Hd (R_1.out.below hb)
  have HT := Hd (HT.out.below hb)
  have HBW := Hd (belowTo HBW.out hb)
  have R_2 := Hd r2
  clear hb r2
  go_wp2_with fail
  refine (mul_z p q m A1 A2 c1 c2 F_p.out F_q.out x2 R_1.out R_2.out HM.out F_m.out).mono ?_
  rintro e x3 ⟨A3, c3, rfl, r3, hb⟩
  have R_1 := Hd (R_1.out.below hb)
  have R_2 := Hd (R_2.out.below hb)
  have HT := Hd (HT.out.below hb)
  have HBW := Hd (belowTo HBW.out hb)
  have R_3 := Hd r3
  clear hb r3
  go_upto_region 2 with fail
  have ha := ((Below.refl x3.heap.size x3).alloc (Nat.le_refl _) (.cells #[.bool (decide (m < 0)), .slice A3 (natL m.natAbs).length c3] 24))
  have p_3 := (Pair.new x3 24 (.bool (decide (m < 0))) (.slice A3 (natL m.natAbs).length c3))
  obtain ⟨y4, E⟩ : ∃ W, W = (x3.alloc (.cells #[.bool (decide (m < 0)), .slice A3 (natL m.natAbs).length c3] 24)) := ⟨_, rfl⟩
  rw [← E] at ha p_3 ⊢
  have V_3 := Hd (NV.of R_3.out ha p_3)
  have R_1 := Hd (R_1.out.below ha)
  have R_2 := Hd (R_2.out.below ha)
  have HT := Hd (HT.out.below ha)
  have HBW := Hd (belowTo HBW.out ha)
  obtain ⟨g4, hg⟩ : ∃ g, g = x3.heap.size := ⟨_, rfl⟩
  rw [← hg] at V_3 ⊢
  clear E ha hg p_3
  go_wp2_with fail
  refine (O_s.out y4).mono ?_
  rintro e x5 ⟨A4, c4, rfl, r4, hb⟩
  have V_3 := Hd (V_3.out.below hb)
  have R_1 := Hd (R_1.out.below hb)
  have R_2 := Hd (R_2.out.below hb)
  have HT := Hd (HT.out.below hb)
  have HBW := Hd (belowTo HBW.out hb)
  have R_4 := Hd r4
  clear hb r4
  go_wp2_with fail
  refine (O_t.out x5).mono ?_
  rintro e x6 ⟨A5, c5, rfl, r5, hb⟩
  have V_3 := Hd (V_3.out.below hb)
  have R_1 := Hd (R_1.out.below hb)
  have R_2 := Hd (R_2.out.below hb)
  have R_4 := Hd (R_4.out.below hb)
  have HT := Hd (HT.out.below hb)
  have HBW := Hd (belowTo HBW.out hb)
  have R_5 := Hd r5
  clear hb r5
  go_wp2_with fail
  refine (quorem_z s t A4 A5 c4 c5 F_s.out F_t.out x6 R_4.out R_5.out u v HQ.out.2.2 HQ.out.1 HQ.out.2.1).mono ?_
  rintro e x7 ⟨A6, c6, A7, c7, rfl, r6, r7, hb⟩
  have V_3 := Hd (V_3.out.below hb)
  have R_1 := Hd (R_1.out.below hb)
  have R_2 := Hd (R_2.out.below hb)
  have R_4 := Hd (R_4.out.below hb)
  have R_5 := Hd (R_5.out.below hb)
  have HT := Hd (HT.out.below hb)
  have HBW := Hd (belowTo HBW.out hb)
  have R_6 := Hd r6
  have R_7 := Hd r7
  clear hb r6 r7
  go_upto_region 3 with fail
  have ha := (((Below.refl x7.heap.size x7).alloc (Nat.le_refl _) (.cells #[.bool (decide (u < 0)), .slice A6 (natL u.natAbs).length c6] 24)).alloc (by simp) (.cells #[.bool (decide (v < 0)), .slice A7 (natL v.natAbs).length c7] 24))
  have p_6 := ((Pair.new x7 24 (.bool (decide (u < 0))) (.slice A6 (natL u.natAbs).length c6)).alloc (.cells #[.bool (decide (v < 0)), .slice A7 (natL v.natAbs).length c7] 24))
  have p_7 := (Pair.new (x7.alloc (.cells #[.bool (decide (u < 0)), .slice A6 (natL u.natAbs).length c6] 24)) 24 (.bool (decide (v < 0))) (.slice A7 (natL v.natAbs).length c7))
  simp only [World.size_alloc] at p_7
  obtain ⟨y8, E⟩ : ∃ W, W = ((x7.alloc (.cells #[.bool (decide (u < 0)), .slice A6 (natL u.natAbs).length c6] 24)).alloc (.cells #[.bool (decide (v < 0)), .slice A7 (natL v.natAbs).length c7] 24)) := ⟨_, rfl⟩
  rw [← E] at ha p_6 p_7 ⊢
  have V_6 := Hd (NV.of R_6.out ha p_6)
  have V_7 := Hd (NV.of R_7.out ha p_7)
  have V_3 := Hd (V_3.out.below ha)
  have R_1 := Hd (R_1.out.below ha)
  have R_2 := Hd (R_2.out.below ha)
  have R_4 := Hd (R_4.out.below ha)
  have R_5 := Hd (R_5.out.below ha)
  have HT := Hd (HT.out.below ha)
  have HBW := Hd (belowTo HBW.out ha)
  obtain ⟨g8, hg⟩ : ∃ g, g = x7.heap.size := ⟨_, rfl⟩
  rw [← hg] at V_6 V_7 ⊢
  clear E ha hg p_6 p_7
  go_wp2_with fail
  refine (O_a.out y8).mono ?_
  rintro e x9 ⟨A8, c8, rfl, r8, hb⟩
  have V_3 := Hd (V_3.out.below hb)
  have V_6 := Hd (V_6.out.below hb)
  have V_7 := Hd (V_7.out.below hb)
  have R_1 := Hd (R_1.out.below hb)
  have R_2 := Hd (R_2.out.below hb)
  have R_4 := Hd (R_4.out.below hb)
  have R_5 := Hd (R_5.out.below hb)
  have HT := Hd (HT.out.below hb)
  have HBW := Hd (belowTo HBW.out hb)
  have R_8 := Hd r8
  clear hb r8
  go_wp2_with fail
  refine (O_n.out x9).mono ?_
  rintro e x10 ⟨A9, c9, rfl, r9, hb⟩
  have V_3 := Hd (V_3.out.below hb)
  have V_6 := Hd (V_6.out.below hb)
  have V_7 := Hd (V_7.out.below hb)
  have R_1 := Hd (R_1.out.below hb)
  have R_2 := Hd (R_2.out.below hb)
  have R_4 := Hd (R_4.out.below hb)
  have R_5 := Hd (R_5.out.below hb)
  have R_8 := Hd (R_8.out.below hb)
  have HT := Hd (HT.out.below hb)
  have HBW := Hd (belowTo HBW.out hb)
  have R_9 := Hd r9
  clear hb r9
  go_wp2_with fail
  refine (quorem_nought a n n A8 A9 c8 c9 F_a.out F_n.out x10 R_8.out R_9.out HN.out HN.out).mono ?_
  rintro e x11 ⟨A10, c10, A11, c11, rfl, r10, r11, hb⟩
  have V_3 := Hd (V_3.out.below hb)
  have V_6 := Hd (V_6.out.below hb)
  have V_7 := Hd (V_7.out.below hb)
  have R_1 := Hd (R_1.out.below hb)
  have R_2 := Hd (R_2.out.below hb)
  have R_4 := Hd (R_4.out.below hb)
  have R_5 := Hd (R_5.out.below hb)
  have R_8 := Hd (R_8.out.below hb)
  have R_9 := Hd (R_9.out.below hb)
  have HT := Hd (HT.out.below hb)
  have HBW := Hd (belowTo HBW.out hb)
  have R_10 := Hd r10
  have R_11 := Hd r11
  clear hb r10 r11
  go_upto_region 4 with fail
  have ha := (((Below.refl x11.heap.size x11).alloc (Nat.le_refl _) (.cells #[.bool (decide (n < 0)), .slice A10 (natL n.natAbs).length c10] 24)).alloc (by simp) (.cells #[.bool (decide (n < 0)), .slice A11 (natL n.natAbs).length c11] 24))
  have p_10 := ((Pair.new x11 24 (.bool (decide (n < 0))) (.slice A10 (natL n.natAbs).length c10)).alloc (.cells #[.bool (decide (n < 0)), .slice A11 (natL n.natAbs).length c11] 24))
  have p_11 := (Pair.new (x11.alloc (.cells #[.bool (decide (n < 0)), .slice A10 (natL n.natAbs).length c10] 24)) 24 (.bool (decide (n < 0))) (.slice A11 (natL n.natAbs).length c11))
  simp only [World.size_alloc] at p_11
  obtain ⟨y12, E⟩ : ∃ W, W = ((x11.alloc (.cells #[.bool (decide (n < 0)), .slice A10 (natL n.natAbs).length c10] 24)).alloc (.cells #[.bool (decide (n < 0)), .slice A11 (natL n.natAbs).length c11] 24)) := ⟨_, rfl⟩
  rw [← E] at ha p_10 p_11 ⊢
  have V_10 := Hd (NV.of R_10.out ha p_10)
  have V_11 := Hd (NV.of R_11.out ha p_11)
  have V_3 := Hd (V_3.out.below ha)
  have V_6 := Hd (V_6.out.below ha)
  have V_7 := Hd (V_7.out.below ha)
  have R_1 := Hd (R_1.out.below ha)
  have R_2 := Hd (R_2.out.below ha)
  have R_4 := Hd (R_4.out.below ha)
  have R_5 := Hd (R_5.out.below ha)
  have R_8 := Hd (R_8.out.below ha)
  have R_9 := Hd (R_9.out.below ha)
  have HT := Hd (HT.out.below ha)
  have HBW := Hd (belowTo HBW.out ha)
  obtain ⟨g12, hg⟩ : ∃ g, g = x11.heap.size := ⟨_, rfl⟩
  rw [← hg] at V_10 V_11 ⊢
  clear E ha hg p_10 p_11
  obtain ⟨l_3, a_3, b_3, -, -⟩ := V_3.out.pair.facts
  go_wp2_with fail
  refine (text_z m A3 c3 tx F_m.out y12 V_3.out.raw HT.out HTX.out).mono ?_
  rintro e x13 ⟨rfl, hb⟩
  clear l_3 a_3 b_3
  have V_3 := Hd (V_3.out.below hb)
  have V_6 := Hd (V_6.out.below hb)
  have V_7 := Hd (V_7.out.below hb)
  have V_10 := Hd (V_10.out.below hb)
  have V_11 := Hd (V_11.out.below hb)
  have R_1 := Hd (R_1.out.below hb)
  have R_2 := Hd (R_2.out.below hb)
  have R_4 := Hd (R_4.out.below hb)
  have R_5 := Hd (R_5.out.below hb)
  have R_8 := Hd (R_8.out.below hb)
  have R_9 := Hd (R_9.out.below hb)
  have HT := Hd (HT.out.below hb)
  have HBW := Hd (belowTo HBW.out hb)
  clear hb
  clear R_1 R_2 R_4 R_5 R_8 R_9 V_3 V_10 V_11
  go_upto_region 5 with fail
  obtain ⟨W, hW⟩ : ∃ W, W = x13 := ⟨_, rfl⟩
  rw [← hW] at V_6 V_7 HBW ⊢
  clear hW
  have htx := h_tx2.out
  refine wp_region_free [.val (.int .i64 0) [], .val (.bool true) [], .val (.bool true) [], .val (.int .i64 0) [], .val (.bool true) [], .val (.bool true) [], .val (.bool true) [], .val (.int .i64 3) [], .val (.bool true) [], .val (.bool true) [], .val (.bool true) [], .val (.int .i64 0) [], .val (.bool true) [], .val (.bool true) [], .val (.bool true) [], .val (.string tx) [], .val (.bool true) [], .val (.bool true) [], .val (.bool true) [], .val (.agg #[.bool (decide (u < 0)), .slice A6 (natL u.natAbs).length c6]) [], .any false (fun u0 V => IntAt V u0 u) [], .val (.int .i64 0) [20], .val (.bool true) [], .val (.bool true) [], .val (.bool true) [], .val (.agg #[.bool (decide (v < 0)), .slice A7 (natL v.natAbs).length c7]) [], .any false (fun u0 V => IntAt V u0 v) [], .val (.int .i64 0) [26], .val (.bool true) [], .val (.bool true) [], .val (.bool true) [], .val (.agg #[.bool (decide (u < 0)), .slice A6 (natL u.natAbs).length c6]) [], .val (.agg #[.bool (decide (v < 0)), .slice A7 (natL v.natAbs).length c7]) [], .val (.int .i64 (-1)) [], .val (.bool true) [], .val (.bool true) [], .val (.bool true) []] W.heap.size W [] (fun _ _ => False) _ mixedOrders2 (Nat.le_refl _) (Below.refl _ _) (KeptV.refl _ _ _) rfl (by kernel_rfl) (by kernel_rfl) (by kernel_rfl) (by kernel_rfl) (by kernel_rfl) (by kernel_rfl) (by kernel_rfl) (by kernel_rfl) rfl (by simp [oldsF]) ?_ ?_ ?_ ?_
  · simp only [StableF, and_true]
    exact ⟨fun u0 V V' h k => h.keptNone k, fun u0 V V' h k => h.keptNone k⟩
  · simp only [OldsF]
  · simp (maxSteps := 4000000) [StepsF, DepF, freeAct, fill, pairs]
    repeat' (first | apply And.intro | (intro (u0 : Value)))
    all_goals first
    | (intro V hV hK
       obtain ⟨-, a6, b6, -, -⟩ := (V_6.out.below hV).pair.facts
       obtain ⟨-, a7, b7, -, -⟩ := (V_7.out.below hV).pair.facts
       have r6 := Hd (V_6.out.below hV).raw
       have r7 := Hd (V_7.out.below hV).raw
       clear hV hK
       go_simp
       first
       | exact Below.refl _ _
       | ((with_reducible refine (O_u.out V).mono ?_); rintro e w' ⟨A', c', rfl, hr, hb⟩; exact ⟨⟨A', c', rfl, hr⟩, hb⟩)
       | ((with_reducible refine (O_v.out V).mono ?_); rintro e w' ⟨A', c', rfl, hr, hb⟩; exact ⟨⟨A', c', rfl, hr⟩, hb⟩)
       | ((with_reducible refine (cmp_z u v A6 A7 c6 c7 F_u.out F_v.out V r6.out r7.out (-1) HC3.out).mono ?_); rintro e w' ⟨rfl, hb⟩; exact ⟨rfl, hb⟩))
    | (intro V hV hK hu
       obtain ⟨A', c', rfl, hr⟩ := hu.form
       have r6 := Hd (V_6.out.below hV).raw
       have r7 := Hd (V_7.out.below hV).raw
       have r' := Hd hr
       clear hV hK hu hr
       go_simp
       first
       | ((with_reducible refine (cmp_z u u A6 A' c6 c' F_u.out F_u.out V r6.out r'.out 0 HC1.out).mono ?_); rintro e w' ⟨rfl, hb⟩; exact ⟨rfl, hb⟩)
       | ((with_reducible refine (cmp_z v v A7 A' c7 c' F_v.out F_v.out V r7.out r'.out 0 HC2.out).mono ?_); rintro e w' ⟨rfl, hb⟩; exact ⟨rfl, hb⟩))
  · simp [EndF, FactsF, freeAct, fill, pairs]
    intro u1 u2 V hV hK h1 h2 _ _ _
    have HF := Hd (belowTo HBW.out hV)
    clear hV hK h1 h2
    go_wp2_with fail
    go_ret
    exact ⟨rfl, HF.out⟩
/- answered: the same number, the same error. -/

end Go.Proofs.YtbdliabfdplohaaDoor
