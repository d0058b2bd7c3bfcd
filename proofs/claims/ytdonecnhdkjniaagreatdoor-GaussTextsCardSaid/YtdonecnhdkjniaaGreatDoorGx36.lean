/- Several texts in one: Coef, DecodeLast, ShelfC, IndexRune, LastAny. -/
import Derived.Test.YtdonecnhdkjniaaGreatDoorGx35
import Derived.Lib.TrimUEq
import Derived.Laws.RangeString
import Derived.Shelf.Small.Utf8
import Derived.Shelf.Strings.Runes
import Derived.Shelf.Unicode.DecodeLast
import Derived.Shelf.Strings.AsciiSet
set_option maxRecDepth 100000
set_option maxHeartbeats 8000000
namespace Go.Proofs.YtdonecnhdkjniaaGreatDoor
open Go.RowKit

def RetAnyB (w : World) (b : Bool) (e : Ending) (w' : World) : Prop := ∃ n d v, e = .returned (.tuple #[v, .bool b]) /\ ZE w' 0 v n d /\ Below w.heap.size w w'
structure NoneOf (s : ByteArray) : Prop where
 a : ¬ s.toList = []
 b : s.toList.isEmpty = false
 c : (s.toList == []) = false
 d : ¬ s.toList = [45]
 e : (s.toList == [45]) = false
theorem NoneOf.of {s : ByteArray} (h1 : ¬ s.data.toList = []) (h2 : ¬ s.data.toList = [45]) : NoneOf s := by
 rw [<- ByteArray.toList_eq] at h1 h2
 exact ⟨h1, List.isEmpty_eq_false_iff.2 h1, beq_eq_false_iff_ne.2 h1, h2, beq_eq_false_iff_ne.2 h2⟩
structure NoneOf2 (s : ByteArray) : Prop where
 a : ¬ s.toList = [49]
 b : (s.toList == [49]) = false
 c : ¬ s.toList = [45, 49]
 d : (s.toList == [45, 49]) = false
theorem NoneOf2.of {s : ByteArray} (h1 : ¬ s.data.toList = [49]) (h2 : ¬ s.data.toList = [45, 49]) : NoneOf2 s := by
 rw [<- ByteArray.toList_eq] at h1 h2
 exact ⟨h1, beq_eq_false_iff_ne.2 h1, h2, beq_eq_false_iff_ne.2 h2⟩

theorem coef_empty {n d : Int} (C1 : ∀ V : World, Calls Tryz.prog 97 #[.int .i64 1, .int .i64 1] V (Z3 V.heap.size V n d)) (w : World)   :
  Calls Tryz.prog 28 #[.string ⟨#[]⟩] w (YT w n d true) := by
 have H1 := Hd C1
 clear C1
 go_enter Tryz.func28, Tryz.ntmps28
 go_upto_region 1 with fail
 refine Zp (P := fun W => Code.wp _ _ _ _ W) fun W p0 b0 => ?_
 have PR := Hd (Zz.mk p0)
 have HB := Hd b0
 clear b0 p0
 go_wp2_with fail
 refine (H1.out W).mono ?_
 rintro e w9 ⟨v, rfl, hI, hb⟩
 obtain ⟨A6, c6, A7, c7, rfl, -⟩ := hI.form
 have pr := PR.out.below hb
 have hb9 := Zb HB.out hb
 have hi := hI.base HB.out.size
 obtain ⟨l_r0, a_r0, b_r0, f_r0, g_r0⟩ := pr.facts
 have HQ := Hd (pr.store (.bool (decide (n < 0))) (.slice A6 (Za n.natAbs).length c6) (.bool (decide (d < 0))) (.slice A7 (Za d.natAbs).length c7))
 have HB9 := Hd (YR hb9 (show w.heap.size <= w.heap.size by omega) (.bool (decide (n < 0))) (.slice A6 (Za n.natAbs).length c6) (.bool (decide (d < 0))) (.slice A7 (Za d.natAbs).length c7))
 have HF9 := Hd (hi.quad pr (.bool (decide (n < 0))) (.slice A6 (Za n.natAbs).length c6) (.bool (decide (d < 0))) (.slice A7 (Za d.natAbs).length c7))
 clear hi hb hb9 pr hI
 go_wp2_with fail
 obtain ⟨_, k0, k1, k2, k3, _, _, _, _⟩ := HQ.out.facts
 exact bodyPost_ret (by simp [results, Tryz.results28, go_sem, k0, k1, k2, k3]) rfl ⟨_, rfl, HF9.out, HB9.out⟩

theorem coef_minus {n d : Int} (C1 : ∀ V : World, Calls Tryz.prog 97 #[.int .i64 (-1), .int .i64 1] V (Z3 V.heap.size V n d)) (w : World)   :
  Calls Tryz.prog 28 #[.string ⟨#[45]⟩] w (YT w n d true) := by
 have H1 := Hd C1
 clear C1
 go_enter Tryz.func28, Tryz.ntmps28
 go_upto_region 1 with fail
 refine Zp (P := fun W => Code.wp _ _ _ _ W) fun W p0 b0 => ?_
 have PR := Hd (Zz.mk p0)
 have HB := Hd b0
 clear b0 p0
 go_wp2_with fail
 refine (H1.out W).mono ?_
 rintro e w9 ⟨v, rfl, hI, hb⟩
 obtain ⟨A6, c6, A7, c7, rfl, -⟩ := hI.form
 have pr := PR.out.below hb
 have hb9 := Zb HB.out hb
 have hi := hI.base HB.out.size
 obtain ⟨l_r0, a_r0, b_r0, f_r0, g_r0⟩ := pr.facts
 have HQ := Hd (pr.store (.bool (decide (n < 0))) (.slice A6 (Za n.natAbs).length c6) (.bool (decide (d < 0))) (.slice A7 (Za d.natAbs).length c7))
 have HB9 := Hd (YR hb9 (show w.heap.size <= w.heap.size by omega) (.bool (decide (n < 0))) (.slice A6 (Za n.natAbs).length c6) (.bool (decide (d < 0))) (.slice A7 (Za d.natAbs).length c7))
 have HF9 := Hd (hi.quad pr (.bool (decide (n < 0))) (.slice A6 (Za n.natAbs).length c6) (.bool (decide (d < 0))) (.slice A7 (Za d.natAbs).length c7))
 clear hi hb hb9 pr hI
 go_wp2_with fail
 obtain ⟨_, k0, k1, k2, k3, _, _, _, _⟩ := HQ.out.facts
 exact bodyPost_ret (by simp [results, Tryz.results28, go_sem, k0, k1, k2, k3]) rfl ⟨_, rfl, HF9.out, HB9.out⟩

theorem coef_N  (s : ByteArray) (C1 : ∀ V : World, Calls Tryz.prog 27 #[.string s] V (RetAnyB V false)) (x1 : NoneOf s) (w : World)   :
   Calls Tryz.prog 28 #[.string s] w (RetAnyB w false) := by
 obtain ⟨xa, xb, xc, xd, xe⟩ := x1
 have H1 := Hd C1
 clear C1
 go_enter Tryz.func28, Tryz.ntmps28
 go_upto_region 1 with fail
 refine Zp (P := fun W => Code.wp _ _ _ _ W) fun W p0 b0 => ?_
 have PR := Hd (Zz.mk p0)
 have HB := Hd b0
 clear b0 p0
 go_wp2_with fail
 refine (H1.out W).mono ?_
 rintro e wx1 ⟨n, d, v, rfl, hI, hb⟩
 have hlt := (PR.out.below hb).blk.lt
 have hi := hI
 obtain ⟨Ax1, cx1, Ax2, cx2, rfl, -⟩ := hI.form
 go_upto_region 4 with fail
 refine Zp (P := fun W => Code.wp _ _ _ _ W) fun wy1 hq ha => ?_
 obtain ⟨b_x, hbq⟩ : ∃ q, q = wx1.heap.size := ⟨_, rfl⟩
 rw [<- hbq] at hq ⊢
 have P_x := Hd (Zz.mk hq)
 have O_x := Hd (hi.below ha)
 have hb := hb.trans (ha.mono hb.size)
 have PR := Hd (PR.out.below hb)
 have HB := Hd (Zb HB.out hb)
 have N_x := Hd (show b_x ≠ w.heap.size by rw [hbq]; omega)
 clear hlt
 clear hI hi hb ha hq hbq
 have hsz := PR.out.blk.lt
 go_wp2_with fail
 refine Zd [.any false (fun u V => ZE V 0 u n d) [999], .val (.bool false) [], .val (.bool false) [], .skip, .skip, .skip, .val (.bool false) [], .val (.bool false) [], .skip, .skip, .val (.bool false) [], .val (.bool false) [], .skip, .skip, .val (.bool false) [], .old (w.heap.size) 26 #[.bool false, .slice none 0 0, .bool false, .slice none 0 0] 0 4 0 [], .val (.bool false) []] (w.heap.size) wy1 [26] (fun _ _ => False) _ Zf (by omega) (Below.refl _ _) (Zu.refl _ _ _) rfl ?_ ?_ ?_ ?_ ?_ ?_ ?_ ?_ rfl (by simp [ZP]) ?_ ?_ ?_ ?_
 iterate 8 kernel_rfl
 . simp only [Zy, and_true]
   exact fun u V V' h k => h.kept k (by decide)
 . simp only [Z5, and_true]
   exact ⟨Nat.le_refl _, PR.out.blk.lt, PR.out.blk, by simp⟩
 . simp (maxSteps := 4000000) [ZH, YD, ZP, Zg, ZF, Zn]
   repeat' (first | apply And.intro | (intro (u : Value)) | (intro (u : Nat)))
   all_goals try exact ⟨_, _, _, rfl, rfl, rfl, rfl, YN⟩
   all_goals first
   | (intro V hV hK
      have o_x := Hd (O_x.out.kept hK (by decide))
      have hvb := HB.out.trans (hV.mono (by omega))
      have hvs := hvb.size
      clear hV hK 
      go_simp
      first
      | exact Below.refl _ _)
   | (intro V hV hK ho
      have qx := Zz.mk ((ho b_x P_x.out.blk.lt N_x.out).trans P_x.out.blk)
      obtain ⟨-, a_x0, a_x1, a_x2, a_x3, -, -, -, -⟩ := qx.facts
      have o_x := Hd (O_x.out.kept hK (by decide))
      clear hV hK ho qx
      go_simp
      first
      | exact Below.refl _ _
      | exact ⟨o_x.out, Below.refl _ _⟩)
   | exact fun _ _ _ (h : ZE _ _ _ _ _) => h.cells
 . simp [YH, ZK, Zg, ZF, Zn]
   intro u1 V hV hK h1 bq _ _ _
   have HF := Hd h1
   obtain ⟨A6, c6, A7, c7, rfl, -⟩ := h1.form
   simp [Yd, Value.cells] at bq
   have k0 := bq.cell 0
   have k1 := bq.cell 1
   have k2 := bq.cell 2
   have k3 := bq.cell 3
   simp at k0 k1 k2 k3
   have HB9 := Hd (HB.out.trans (hV.mono (by omega)))
   clear h1 hV hK bq
   go_wp2_with fail
   exact bodyPost_ret (by simp [results, Tryz.results28, go_sem, k0, k1, k2, k3]) rfl ⟨n, d, _, rfl, HF.out, HB9.out⟩

theorem coef_Z {n d s0 : Int} (s : ByteArray) (C1 : ∀ V : World, Calls Tryz.prog 27 #[.string s] V (Js V n d true)) (C2 : XE 21 n d s0) (z : (s0 != 0) = false) (x1 : NoneOf s) (w : World)   :
   Calls Tryz.prog 28 #[.string s] w (RetAnyB w false) := by
 obtain ⟨xa, xb, xc, xd, xe⟩ := x1
 have H1 := Hd C1
 have H2 := Hd C2
 clear C1 C2
 go_enter Tryz.func28, Tryz.ntmps28
 go_upto_region 1 with fail
 refine Zp (P := fun W => Code.wp _ _ _ _ W) fun W p0 b0 => ?_
 have PR := Hd (Zz.mk p0)
 have HB := Hd b0
 clear b0 p0
 go_wp2_with fail
 refine (H1.out W).mono ?_
 rintro e wx1 ⟨v, rfl, hI, hb⟩
 have hlt := (PR.out.below hb).blk.lt
 have hi := hI
 obtain ⟨Ax1, cx1, Ax2, cx2, rfl, -⟩ := hI.form
 go_upto_region 4 with fail
 refine Zp (P := fun W => Code.wp _ _ _ _ W) fun wy1 hq ha => ?_
 obtain ⟨b_x, hbq⟩ : ∃ q, q = wx1.heap.size := ⟨_, rfl⟩
 rw [<- hbq] at hq ⊢
 have P_x := Hd (Zz.mk hq)
 have O_x := Hd (hi.below ha)
 have hb := hb.trans (ha.mono hb.size)
 have PR := Hd (PR.out.below hb)
 have HB := Hd (Zb HB.out hb)
 have N_x := Hd (show b_x ≠ w.heap.size by rw [hbq]; omega)
 clear hlt
 clear hI hi hb ha hq hbq
 have hsz := PR.out.blk.lt
 go_wp2_with fail
 refine Zd [.any false (fun u V => ZE V 0 u n d) [999], .val (.bool true) [], .val (.bool true) [], .val (.agg #[.bool (decide (n < 0)), .slice Ax1 (Za n.natAbs).length cx1, .bool (decide (d < 0)), .slice Ax2 (Za d.natAbs).length cx2]) [999], .val (.int .i64 s0) [], .val (.bool false) [], .val (.bool false) [], .val (.bool false) [], .skip, .skip, .val (.bool false) [], .val (.bool false) [], .skip, .skip, .val (.bool false) [], .old (w.heap.size) 26 #[.bool false, .slice none 0 0, .bool false, .slice none 0 0] 0 4 0 [], .val (.bool false) []] (w.heap.size) wy1 [26] (fun _ _ => False) _ Zf (by omega) (Below.refl _ _) (Zu.refl _ _ _) rfl ?_ ?_ ?_ ?_ ?_ ?_ ?_ ?_ rfl (by simp [ZP]) ?_ ?_ ?_ ?_
 iterate 8 kernel_rfl
 . simp only [Zy, and_true]
   exact fun u V V' h k => h.kept k (by decide)
 . simp only [Z5, and_true]
   exact ⟨Nat.le_refl _, PR.out.blk.lt, PR.out.blk, by simp⟩
 . simp (maxSteps := 4000000) [ZH, YD, ZP, Zg, ZF, Zn]
   repeat' (first | apply And.intro | (intro (u : Value)) | (intro (u : Nat)))
   all_goals try exact ⟨_, _, _, rfl, rfl, rfl, rfl, YN⟩
   all_goals first
   | (intro V hV hK
      have o_x := Hd (O_x.out.kept hK (by decide))
      have hvb := HB.out.trans (hV.mono (by omega))
      have hvs := hvb.size
      clear hV hK 
      go_simp
      first
      | exact Below.refl _ _
      | ((with_reducible refine (H2.out V _ o_x.out.at_).mono ?_); rintro e w' ⟨rfl, hb⟩; exact ⟨rfl, hb⟩))
   | (intro V hV hK ho
      have qx := Zz.mk ((ho b_x P_x.out.blk.lt N_x.out).trans P_x.out.blk)
      obtain ⟨-, a_x0, a_x1, a_x2, a_x3, -, -, -, -⟩ := qx.facts
      have o_x := Hd (O_x.out.kept hK (by decide))
      clear hV hK ho qx
      go_simp
      first
      | exact Below.refl _ _
      | exact ⟨o_x.out, Below.refl _ _⟩)
   | exact fun _ _ _ (h : ZE _ _ _ _ _) => h.cells
 . simp [YH, ZK, Zg, ZF, Zn]
   intro u1 V hV hK h1 bq _ _ _
   have HF := Hd h1
   obtain ⟨A6, c6, A7, c7, rfl, -⟩ := h1.form
   simp [Yd, Value.cells] at bq
   have k0 := bq.cell 0
   have k1 := bq.cell 1
   have k2 := bq.cell 2
   have k3 := bq.cell 3
   simp at k0 k1 k2 k3
   have HB9 := Hd (HB.out.trans (hV.mono (by omega)))
   clear h1 hV hK bq
   go_wp2_with fail
   exact bodyPost_ret (by simp [results, Tryz.results28, go_sem, k0, k1, k2, k3]) rfl ⟨n, d, _, rfl, HF.out, HB9.out⟩

theorem coef_1 {n d s0 : Int} (C1 : ∀ V : World, Calls Tryz.prog 27 #[.string ⟨#[49]⟩] V (Js V n d true)) (C2 : XE 21 n d s0) (z : (s0 != 0) = true) (w : World)   :
   Calls Tryz.prog 28 #[.string ⟨#[49]⟩] w (RetAnyB w false) := by
 have H1 := Hd C1
 have H2 := Hd C2
 clear C1 C2
 go_enter Tryz.func28, Tryz.ntmps28
 go_upto_region 1 with fail
 refine Zp (P := fun W => Code.wp _ _ _ _ W) fun W p0 b0 => ?_
 have PR := Hd (Zz.mk p0)
 have HB := Hd b0
 clear b0 p0
 go_wp2_with fail
 refine (H1.out W).mono ?_
 rintro e wx1 ⟨v, rfl, hI, hb⟩
 have hlt := (PR.out.below hb).blk.lt
 have hi := hI
 obtain ⟨Ax1, cx1, Ax2, cx2, rfl, -⟩ := hI.form
 go_upto_region 4 with fail
 refine Zp (P := fun W => Code.wp _ _ _ _ W) fun wy1 hq ha => ?_
 obtain ⟨b_x, hbq⟩ : ∃ q, q = wx1.heap.size := ⟨_, rfl⟩
 rw [<- hbq] at hq ⊢
 have P_x := Hd (Zz.mk hq)
 have O_x := Hd (hi.below ha)
 have hb := hb.trans (ha.mono hb.size)
 have PR := Hd (PR.out.below hb)
 have HB := Hd (Zb HB.out hb)
 have N_x := Hd (show b_x ≠ w.heap.size by rw [hbq]; omega)
 clear hlt
 clear hI hi hb ha hq hbq
 have hsz := PR.out.blk.lt
 go_wp2_with fail
 refine Zd [.any false (fun u V => ZE V 0 u n d) [999], .val (.bool true) [], .val (.bool true) [], .val (.agg #[.bool (decide (n < 0)), .slice Ax1 (Za n.natAbs).length cx1, .bool (decide (d < 0)), .slice Ax2 (Za d.natAbs).length cx2]) [999], .val (.int .i64 s0) [], .val (.bool true) [], .val (.bool true) [], .val (.bool true) [], .val (.string ⟨#[49]⟩) [], .val (.bool false) [], .val (.bool false) [], .val (.bool false) [], .skip, .skip, .val (.bool false) [], .old (w.heap.size) 26 #[.bool false, .slice none 0 0, .bool false, .slice none 0 0] 0 4 0 [], .val (.bool false) []] (w.heap.size) wy1 [26] (fun _ _ => False) _ Zf (by omega) (Below.refl _ _) (Zu.refl _ _ _) rfl ?_ ?_ ?_ ?_ ?_ ?_ ?_ ?_ rfl (by simp [ZP]) ?_ ?_ ?_ ?_
 iterate 8 kernel_rfl
 . simp only [Zy, and_true]
   exact fun u V V' h k => h.kept k (by decide)
 . simp only [Z5, and_true]
   exact ⟨Nat.le_refl _, PR.out.blk.lt, PR.out.blk, by simp⟩
 . simp (maxSteps := 4000000) [ZH, YD, ZP, Zg, ZF, Zn]
   repeat' (first | apply And.intro | (intro (u : Value)) | (intro (u : Nat)))
   all_goals try exact ⟨_, _, _, rfl, rfl, rfl, rfl, YN⟩
   all_goals first
   | (intro V hV hK
      have o_x := Hd (O_x.out.kept hK (by decide))
      have hvb := HB.out.trans (hV.mono (by omega))
      have hvs := hvb.size
      clear hV hK 
      go_simp
      first
      | exact Below.refl _ _
      | ((with_reducible refine (H2.out V _ o_x.out.at_).mono ?_); rintro e w' ⟨rfl, hb⟩; exact ⟨rfl, hb⟩))
   | (intro V hV hK ho
      have qx := Zz.mk ((ho b_x P_x.out.blk.lt N_x.out).trans P_x.out.blk)
      obtain ⟨-, x0, x1, x2, x3, -, -, -, -⟩ := qx.facts
      have o_x := Hd (O_x.out.kept hK (by decide))
      clear hV hK ho qx
      go_simp
      first
      | exact Below.refl _ _
      | exact ⟨o_x.out, Below.refl _ _⟩)
   | exact fun _ _ _ (h : ZE _ _ _ _ _) => h.cells
 . simp [YH, ZK, Zg, ZF, Zn]
   intro u1 V hV hK h1 bq _ _ _
   have HF := Hd h1
   obtain ⟨A6, c6, A7, c7, rfl, -⟩ := h1.form
   simp [Yd, Value.cells] at bq
   have k0 := bq.cell 0
   have k1 := bq.cell 1
   have k2 := bq.cell 2
   have k3 := bq.cell 3
   simp at k0 k1 k2 k3
   have HB9 := Hd (HB.out.trans (hV.mono (by omega)))
   clear h1 hV hK bq
   go_wp2_with fail
   exact bodyPost_ret (by simp [results, Tryz.results28, go_sem, k0, k1, k2, k3]) rfl ⟨n, d, _, rfl, HF.out, HB9.out⟩

theorem coef_M {n d s0 : Int} (C1 : ∀ V : World, Calls Tryz.prog 27 #[.string ⟨#[45, 49]⟩] V (Js V n d true)) (C2 : XE 21 n d s0) (z : (s0 != 0) = true) (w : World)   :
   Calls Tryz.prog 28 #[.string ⟨#[45, 49]⟩] w (RetAnyB w false) := by
 have H1 := Hd C1
 have H2 := Hd C2
 clear C1 C2
 go_enter Tryz.func28, Tryz.ntmps28
 go_upto_region 1 with fail
 refine Zp (P := fun W => Code.wp _ _ _ _ W) fun W p0 b0 => ?_
 have PR := Hd (Zz.mk p0)
 have HB := Hd b0
 clear b0 p0
 go_wp2_with fail
 refine (H1.out W).mono ?_
 rintro e wx1 ⟨v, rfl, hI, hb⟩
 have hlt := (PR.out.below hb).blk.lt
 have hi := hI
 obtain ⟨Ax1, cx1, Ax2, cx2, rfl, -⟩ := hI.form
 go_upto_region 4 with fail
 refine Zp (P := fun W => Code.wp _ _ _ _ W) fun wy1 hq ha => ?_
 obtain ⟨b_x, hbq⟩ : ∃ q, q = wx1.heap.size := ⟨_, rfl⟩
 rw [<- hbq] at hq ⊢
 have P_x := Hd (Zz.mk hq)
 have O_x := Hd (hi.below ha)
 have hb := hb.trans (ha.mono hb.size)
 have PR := Hd (PR.out.below hb)
 have HB := Hd (Zb HB.out hb)
 have N_x := Hd (show b_x ≠ w.heap.size by rw [hbq]; omega)
 clear hlt
 clear hI hi hb ha hq hbq
 have hsz := PR.out.blk.lt
 go_wp2_with fail
 refine Zd [.any false (fun u V => ZE V 0 u n d) [999], .val (.bool true) [], .val (.bool true) [], .val (.agg #[.bool (decide (n < 0)), .slice Ax1 (Za n.natAbs).length cx1, .bool (decide (d < 0)), .slice Ax2 (Za d.natAbs).length cx2]) [999], .val (.int .i64 s0) [], .val (.bool true) [], .val (.bool true) [], .val (.bool true) [], .val (.string ⟨#[45, 49]⟩) [], .val (.bool true) [], .val (.bool true) [], .val (.bool true) [], .val (.string ⟨#[45, 49]⟩) [], .val (.bool false) [], .val (.bool false) [], .old (w.heap.size) 26 #[.bool false, .slice none 0 0, .bool false, .slice none 0 0] 0 4 0 [], .val (.bool false) []] (w.heap.size) wy1 [26] (fun _ _ => False) _ Zf (by omega) (Below.refl _ _) (Zu.refl _ _ _) rfl ?_ ?_ ?_ ?_ ?_ ?_ ?_ ?_ rfl (by simp [ZP]) ?_ ?_ ?_ ?_
 iterate 8 kernel_rfl
 . simp only [Zy, and_true]
   exact fun u V V' h k => h.kept k (by decide)
 . simp only [Z5, and_true]
   exact ⟨Nat.le_refl _, PR.out.blk.lt, PR.out.blk, by simp⟩
 . simp (maxSteps := 4000000) [ZH, YD, ZP, Zg, ZF, Zn]
   repeat' (first | apply And.intro | (intro (u : Value)) | (intro (u : Nat)))
   all_goals try exact ⟨_, _, _, rfl, rfl, rfl, rfl, YN⟩
   all_goals first
   | (intro V hV hK
      have o_x := Hd (O_x.out.kept hK (by decide))
      have hvb := HB.out.trans (hV.mono (by omega))
      have hvs := hvb.size
      clear hV hK 
      go_simp
      first
      | exact Below.refl _ _
      | ((with_reducible refine (H2.out V _ o_x.out.at_).mono ?_); rintro e w' ⟨rfl, hb⟩; exact ⟨rfl, hb⟩))
   | (intro V hV hK ho
      have qx := Zz.mk ((ho b_x P_x.out.blk.lt N_x.out).trans P_x.out.blk)
      obtain ⟨-, x0, x1, x2, x3, -, -, -, -⟩ := qx.facts
      have o_x := Hd (O_x.out.kept hK (by decide))
      clear hV hK ho qx
      go_simp
      first
      | exact Below.refl _ _
      | exact ⟨o_x.out, Below.refl _ _⟩)
   | exact fun _ _ _ (h : ZE _ _ _ _ _) => h.cells
 . simp [YH, ZK, Zg, ZF, Zn]
   intro u1 V hV hK h1 bq _ _ _
   have HF := Hd h1
   obtain ⟨A6, c6, A7, c7, rfl, -⟩ := h1.form
   simp [Yd, Value.cells] at bq
   have k0 := bq.cell 0
   have k1 := bq.cell 1
   have k2 := bq.cell 2
   have k3 := bq.cell 3
   simp at k0 k1 k2 k3
   have HB9 := Hd (HB.out.trans (hV.mono (by omega)))
   clear h1 hV hK bq
   go_wp2_with fail
   exact bodyPost_ret (by simp [results, Tryz.results28, go_sem, k0, k1, k2, k3]) rfl ⟨n, d, _, rfl, HF.out, HB9.out⟩

theorem coef_G {n d s0 : Int} (s : ByteArray) (C1 : ∀ V : World, Calls Tryz.prog 27 #[.string s] V (YT V n d true)) (C2 : XE 21 n d s0) (z : (s0 != 0) = true) (x1 : NoneOf s) (x2 : NoneOf2 s) (w : World)   :
   Calls Tryz.prog 28 #[.string s] w (YT w n d true) := by
 obtain ⟨xa, xb, xc, xd, xe⟩ := x1
 obtain ⟨ya, yb, yc, yd⟩ := x2
 have H1 := Hd C1
 have H2 := Hd C2
 clear C1 C2
 go_enter Tryz.func28, Tryz.ntmps28
 go_upto_region 1 with fail
 refine Zp (P := fun W => Code.wp _ _ _ _ W) fun W p0 b0 => ?_
 have PR := Hd (Zz.mk p0)
 have HB := Hd b0
 clear b0 p0
 go_wp2_with fail
 refine (H1.out W).mono ?_
 rintro e wx1 ⟨v, rfl, hI, hb⟩
 have hlt := (PR.out.below hb).blk.lt
 have hi := hI.in_
 obtain ⟨Ax1, cx1, Ax2, cx2, rfl, -⟩ := hI.form
 have HS_x := Hd HB.out.size
 go_upto_region 4 with fail
 refine Zp (P := fun W => Code.wp _ _ _ _ W) fun wy1 hq ha => ?_
 obtain ⟨b_x, hbq⟩ : ∃ q, q = wx1.heap.size := ⟨_, rfl⟩
 rw [<- hbq] at hq ⊢
 have P_x := Hd (Zz.mk hq)
 have O_x := Hd (hi.below ha)
 have Q_x := Hd (hI.below ha)
 have hb := hb.trans (ha.mono hb.size)
 have PR := Hd (PR.out.below hb)
 have HB := Hd (Zb HB.out hb)
 have N_x := Hd (show b_x ≠ w.heap.size by rw [hbq]; omega)
 clear hlt
 clear hI hi hb ha hq hbq
 have O_x := Hd (Q_x.out.base HS_x.out)
 clear Q_x
 have hsz := PR.out.blk.lt
 go_wp2_with fail
 refine Zd [.any false (fun u V => Zl V w.heap.size u n d) [999], .val (.bool true) [], .val (.bool true) [], .val (.agg #[.bool (decide (n < 0)), .slice Ax1 (Za n.natAbs).length cx1, .bool (decide (d < 0)), .slice Ax2 (Za d.natAbs).length cx2]) [999], .val (.int .i64 s0) [], .val (.bool true) [], .val (.bool true) [], .val (.bool true) [], .val (.string s) [], .val (.bool true) [], .val (.bool true) [], .val (.bool true) [], .val (.string s) [], .val (.bool true) [], .val (.bool true) [], .old (w.heap.size) 26 #[.bool false, .slice none 0 0, .bool false, .slice none 0 0] 0 4 0 [], .val (.bool true) []] (w.heap.size) wy1 [26] Yj _ Zf (by omega) (Below.refl _ _) (Zu.refl _ _ _) rfl ?_ ?_ ?_ ?_ ?_ ?_ ?_ ?_ rfl (by simp [ZP]) ?_ ?_ ?_ ?_
 iterate 8 kernel_rfl
 . simp only [Zy, and_true]
   exact fun u V V' h k => h.kept k (by decide)
 . simp only [Z5, and_true]
   exact ⟨Nat.le_refl _, PR.out.blk.lt, PR.out.blk, by simp⟩
 . simp (maxSteps := 4000000) [ZH, YD, ZP, Zg, ZF, Zn]
   repeat' (first | apply And.intro | (intro (u : Value)) | (intro (u : Nat)))
   all_goals try exact ⟨_, _, _, rfl, rfl, rfl, rfl, YN⟩
   all_goals first
   | (intro V hV hK
      have o_x := Hd (O_x.out.kept hK (by decide))
      have hvb := HB.out.trans (hV.mono (by omega))
      have hvs := hvb.size
      clear hV hK 
      go_simp
      first
      | exact Below.refl _ _
      | ((with_reducible refine (H2.out V _ o_x.out.at_).mono ?_); rintro e w' ⟨rfl, hb⟩; exact ⟨rfl, hb⟩))
   | (intro V hV hK ho
      have qx := Zz.mk ((ho b_x P_x.out.blk.lt N_x.out).trans P_x.out.blk)
      obtain ⟨-, a_x0, a_x1, a_x2, a_x3, -, -, -, -⟩ := qx.facts
      have o_x := Hd (O_x.out.kept hK (by decide))
      clear hV hK ho qx
      go_simp
      first
      | exact Below.refl _ _
      | exact ⟨o_x.out, Below.refl _ _⟩)
   | exact fun _ _ _ (h : Zl _ _ _ _ _) => h.cells
 . simp [YH, ZK, Zg, ZF, Zn]
   intro u1 V hV hK h1 bq _ _ _
   have HF := Hd h1
   obtain ⟨A6, c6, A7, c7, rfl, -⟩ := h1.form
   simp [Yd, Value.cells] at bq
   have k0 := bq.cell 0
   have k1 := bq.cell 1
   have k2 := bq.cell 2
   have k3 := bq.cell 3
   simp at k0 k1 k2 k3
   have HB9 := Hd (HB.out.trans (hV.mono (by omega)))
   clear h1 hV hK bq
   go_wp2_with fail
   exact bodyPost_ret (by simp [results, Tryz.results28, go_sem, k0, k1, k2, k3]) rfl ⟨_, rfl, HF.out, HB9.out⟩

theorem ref03_imag_E {n d : Int} (s : ByteArray) (n0 : Nat) (hs : s.size = n0 + 1) (hi : (s[n0]'(by omega)).toNat = 105) (hu : s.extract 0 n0 = ⟨#[]⟩) (hl : n0 <= 65536) (C1 : ∀ V : World, Calls Tryz.prog 191 #[] V (Ya V n d)) (w : World)   :
  Calls Tryz.prog 117 #[.string s] w (Js w n d true) := by
 have hz : (s.size : Int) = (n0 : Int) + 1 := by omega
 have hz2 : ((s.size : Int) == 0) = false := beq_eq_false_iff_ne.2 (by omega)
 have hp : (0 : Int) <= (n0 : Int) := by omega
 have hq : (n0 : Int) < (s.size : Int) := by omega
 have hq2 : (n0 : Int) <= (s.size : Int) := by omega
 have H1 := Hd C1
 clear C1
 go_enter Tryz.func117, Tryz.ntmps117
 go_upto_region 1 with fail
 refine Zp (P := fun W => Code.wp _ _ _ _ W) fun W p0 b0 => ?_
 have PR := Hd (Zz.mk p0)
 have HB := Hd b0
 clear b0 p0
 go_wp2_with fail
 refine (H1.out W).mono ?_
 rintro e w9 ⟨v, rfl, hI, hb⟩
 obtain ⟨A6, c6, A7, c7, rfl, -⟩ := hI.form
 have pr := PR.out.below hb
 have hb9 := Zb HB.out hb
 have hi := hI
 obtain ⟨l_r0, a_r0, b_r0, f_r0, g_r0⟩ := pr.facts
 have HQ := Hd (pr.store (.bool (decide (n < 0))) (.slice A6 (Za n.natAbs).length c6) (.bool (decide (d < 0))) (.slice A7 (Za d.natAbs).length c7))
 have HB9 := Hd (YR hb9 (show w.heap.size <= w.heap.size by omega) (.bool (decide (n < 0))) (.slice A6 (Za n.natAbs).length c6) (.bool (decide (d < 0))) (.slice A7 (Za d.natAbs).length c7))
 have HF9 := Hd (hi.quad pr (.bool (decide (n < 0))) (.slice A6 (Za n.natAbs).length c6) (.bool (decide (d < 0))) (.slice A7 (Za d.natAbs).length c7))
 clear hi hb hb9 pr hI
 go_wp2_with fail
 obtain ⟨_, k0, k1, k2, k3, _, _, _, _⟩ := HQ.out.facts
 exact bodyPost_ret (by simp [results, Tryz.results117, go_sem, k0, k1, k2, k3]) rfl ⟨_, rfl, HF9.out, HB9.out⟩

theorem ref03_imag_M {n d : Int} (s : ByteArray) (n0 : Nat) (hs : s.size = n0 + 1) (hi : (s[n0]'(by omega)).toNat = 105) (hu : s.extract 0 n0 = ⟨#[45]⟩) (hl : n0 <= 65536) (C1 : ∀ V : World, Calls Tryz.prog 192 #[.int .i64 (-1), .int .i64 1] V (Ya V n d)) (w : World)   :
  Calls Tryz.prog 117 #[.string s] w (Js w n d true) := by
 have hz : (s.size : Int) = (n0 : Int) + 1 := by omega
 have hz2 : ((s.size : Int) == 0) = false := beq_eq_false_iff_ne.2 (by omega)
 have hp : (0 : Int) <= (n0 : Int) := by omega
 have hq : (n0 : Int) < (s.size : Int) := by omega
 have hq2 : (n0 : Int) <= (s.size : Int) := by omega
 have H1 := Hd C1
 clear C1
 go_enter Tryz.func117, Tryz.ntmps117
 go_upto_region 1 with fail
 refine Zp (P := fun W => Code.wp _ _ _ _ W) fun W p0 b0 => ?_
 have PR := Hd (Zz.mk p0)
 have HB := Hd b0
 clear b0 p0
 go_wp2_with fail
 refine (H1.out W).mono ?_
 rintro e w9 ⟨v, rfl, hI, hb⟩
 obtain ⟨A6, c6, A7, c7, rfl, -⟩ := hI.form
 have pr := PR.out.below hb
 have hb9 := Zb HB.out hb
 have hi := hI
 obtain ⟨l_r0, a_r0, b_r0, f_r0, g_r0⟩ := pr.facts
 have HQ := Hd (pr.store (.bool (decide (n < 0))) (.slice A6 (Za n.natAbs).length c6) (.bool (decide (d < 0))) (.slice A7 (Za d.natAbs).length c7))
 have HB9 := Hd (YR hb9 (show w.heap.size <= w.heap.size by omega) (.bool (decide (n < 0))) (.slice A6 (Za n.natAbs).length c6) (.bool (decide (d < 0))) (.slice A7 (Za d.natAbs).length c7))
 have HF9 := Hd (hi.quad pr (.bool (decide (n < 0))) (.slice A6 (Za n.natAbs).length c6) (.bool (decide (d < 0))) (.slice A7 (Za d.natAbs).length c7))
 clear hi hb hb9 pr hI
 go_wp2_with fail
 obtain ⟨_, k0, k1, k2, k3, _, _, _, _⟩ := HQ.out.facts
 exact bodyPost_ret (by simp [results, Tryz.results117, go_sem, k0, k1, k2, k3]) rfl ⟨_, rfl, HF9.out, HB9.out⟩

theorem ref03_imag_R  (s : ByteArray) (n0 : Nat) (u : ByteArray) (hs : s.size = n0 + 1) (hi : (s[n0]'(by omega)).toNat = 105) (hu : s.extract 0 n0 = u) (hl : n0 <= 65536) (x1 : NoneOf u) (o9 : Option (Int × Int)) (C1 : ∀ V : World, Calls Tryz.prog 114 #[.string u] V (Xt V o9)) (w : World)   :
  Calls Tryz.prog 117 #[.string s] w (Xt w o9) := by
 have hz : (s.size : Int) = (n0 : Int) + 1 := by omega
 have hz2 : ((s.size : Int) == 0) = false := beq_eq_false_iff_ne.2 (by omega)
 have hp : (0 : Int) <= (n0 : Int) := by omega
 have hq : (n0 : Int) < (s.size : Int) := by omega
 have hq2 : (n0 : Int) <= (s.size : Int) := by omega
 obtain ⟨xa, xb, xc, xd, xe⟩ := x1
 have H1 := Hd C1
 clear C1
 go_enter Tryz.func117, Tryz.ntmps117
 go_upto_region 1 with fail
 refine Zp (P := fun W => Code.wp _ _ _ _ W) fun W p0 b0 => ?_
 have PR := Hd (Zz.mk p0)
 have HB := Hd b0
 clear b0 p0
 go_wp2_with fail
 refine (H1.out W).mono ?_
 rintro e w9 ⟨n, d, ⟨v, rfl, hI, hb⟩, hp9⟩
 obtain ⟨A6, c6, A7, c7, rfl, -⟩ := hI.form
 have pr := PR.out.below hb
 have hb9 := Zb HB.out hb
 have hi := hI
 obtain ⟨l_r0, a_r0, b_r0, f_r0, g_r0⟩ := pr.facts
 have HQ := Hd (pr.store (.bool (decide (n < 0))) (.slice A6 (Za n.natAbs).length c6) (.bool (decide (d < 0))) (.slice A7 (Za d.natAbs).length c7))
 have HB9 := Hd (YR hb9 (show w.heap.size <= w.heap.size by omega) (.bool (decide (n < 0))) (.slice A6 (Za n.natAbs).length c6) (.bool (decide (d < 0))) (.slice A7 (Za d.natAbs).length c7))
 have HF9 := Hd (hi.quad pr (.bool (decide (n < 0))) (.slice A6 (Za n.natAbs).length c6) (.bool (decide (d < 0))) (.slice A7 (Za d.natAbs).length c7))
 have HP := Hd hp9
 clear hp9
 clear hi hb hb9 pr hI
 go_wp2_with fail
 obtain ⟨_, k0, k1, k2, k3, _, _, _, _⟩ := HQ.out.facts
 exact bodyPost_ret (by simp [results, Tryz.results117, go_sem, k0, k1, k2, k3]) rfl ⟨n, d, ⟨_, rfl, HF9.out, HB9.out⟩, HP.out⟩
open Go.Lib

theorem decodeN_all (n b0 b1 b2 b3 : Nat) (h : (decodeN n b0 b1 b2 b3).2 = n) :
  (b0 < 128 /\ n = 1) ∨ (128 <= (decodeN n b0 b1 b2 b3).1 /\ 128 <= b0 /\ n <= 4 /\ (2 <= n -> 128 <= b1) /\ (3 <= n -> 128 <= b2) /\ (4 <= n -> 128 <= b3)) := by
 revert h
 unfold decodeN
 repeat' split
 all_goals (simp only; omega)
theorem last_low (l : List UInt8) (hne : l ≠ []) (h : (l.getD (l.length - 1) 0).toNat < 128) : decodeLastL l = ((l.getD (l.length - 1) 0).toNat, 1) := by
 unfold decodeLastL
 rw [if_neg hne, if_pos h]
theorem last_high (l : List UInt8) (hne : l ≠ []) (h : 128 <= (l.getD (l.length - 1) 0).toNat) :
   128 <= (decodeLastL l).1 /\ ∀ j, l.length - (decodeLastL l).2 <= j -> j < l.length -> 128 <= (l.getD j 0).toNat := by
 have hl : 0 < l.length := List.length_pos_iff.2 hne
 unfold decodeLastL
 rw [if_neg hne, if_neg (by omega)]
 simp only
 split
 . rename_i hd
   rw [decodeL_N, List.length_drop] at hd ⊢
   simp only [getD_dropU, Nat.add_zero] at hd ⊢
   obtain ⟨st, hst⟩ : ∃ k, k = lastStart l := ⟨_, rfl⟩
   rw [<- hst] at hd ⊢
   have h2 := decodeN_all (l.length - st) (l.getD st 0).toNat (l.getD (st + 1) 0).toNat (l.getD (st + 2) 0).toNat (l.getD (st + 3) 0).toNat (by omega)
   rcases h2 with ⟨h3, h4⟩ | ⟨h3, h4, h5, h6, h7, h8⟩
   . exfalso
     have e : l.length - 1 = st := by omega
     rw [e] at h
     omega
   . refine ⟨h3, fun j h1 hj => ?_⟩
     have h9 : st <= j := by omega
     rcases (by omega : j = st ∨ j = st + 1 ∨ j = st + 2 ∨ j = st + 3) with rfl | rfl | rfl | rfl
     . exact h4
     . exact h6 (by omega)
     . exact h7 (by omega)
     . exact h8 (by omega)
 . refine ⟨by decide, fun j h1 hj => ?_⟩
   simp only at h1
   have e : j = l.length - 1 := by omega
   rw [e]
   exact h

theorem index_rune_err (s : ByteArray) (hs : s = ⟨#[43, 45]⟩) (w : World) : Calls Tryz.prog 99 #[.string s, .int .i32 65533] w fun e w' => e = .returned (.int .i64 (-1)) /\ Below w.heap.size w w' := by
 have hsz : s.size = 2 := by rw [hs]; rfl
 have HA := Hd (show ∀ (i : Nat) (hi : i < s.size), (s[i]'hi).toNat < 128 /\ ((((s[i]'hi).toNat : Nat) : Int) == 65533) = false from by
  subst hs
  intro i hi
  have hi2 : i < 2 := hi
  rcases (by omega : i = 0 ∨ i = 1) with rfl | rfl
  . rw [show (⟨#[43, 45]⟩ : ByteArray)[0]'hi = 43 from rfl]; decide
  . rw [show (⟨#[43, 45]⟩ : ByteArray)[1]'hi = 45 from rfl]; decide)
 clear hs hsz
 go_enter Tryz.func99, Tryz.ntmps99
 go_wp2_with fail
 go_loopg [5] s.size (fun g s5 wx => ∃ i : Nat, i + g = s.size /\ wx = w.iter s i)
 case atStart => exact ⟨0, by omega, rfl⟩
 case round =>
  obtain ⟨i, hig, rfl⟩ := hrel
  cases gk with
  | zero =>
    obtain rfl : i = s.size := by omega
    have hnx := run_next_end (P := Tryz.prog) w s s.size
    go_wp2_with fail
    go_ret
    exact ⟨rfl, (Below.refl _ _).alloc (Nat.le_refl _) _⟩
  | succ g =>
    have hi : i < s.size := by omega
    obtain ⟨ha, hb⟩ := HA.out i hi
    have hnx := fun ty => run_next_ascii (P := Tryz.prog) w s i ty hi ha
    go_wp2_with fail
    go_roundg g
    case measure => omega
    case rel => exact ⟨i + 1, by omega, rfl⟩
theorem encode_form {r : Int} (h : 128 <= r) : ∃ (t : ByteArray) (n : Nat), Utf8.encode r = t /\ t.size = n /\ 2 <= n /\ n <= 4 /\ (∀ h2 : 1 < t.size, 128 <= (t[1]'h2).toNat) := by
 have hc : 128 <= (if Utf8.valid r then r.toNat else Utf8.runeError) := by
   split
   . omega
   . decide
 refine ⟨_, _, rfl, rfl, ?_⟩
 unfold Utf8.encode
 obtain ⟨c, e⟩ : ∃ c, c = (if Utf8.valid r then r.toNat else Utf8.runeError) := ⟨_, rfl⟩
 rw [<- e] at hc ⊢
 clear e
 dsimp only
 rw [if_neg (by omega)]
 split
 . refine ⟨Nat.le_refl 2, show 2 <= 4 by decide, fun h2 => ?_⟩
   show 128 <= (UInt8.ofNat (128 + c % 64)).toNat
   rw [UInt8.toNat_ofNat']
   omega
 . split
   . refine ⟨show 2 <= 3 by decide, show 3 <= 4 by decide, fun h2 => ?_⟩
     show 128 <= (UInt8.ofNat (128 + c / 64 % 64)).toNat
     rw [UInt8.toNat_ofNat']
     omega
   . refine ⟨show 2 <= 4 by decide, show 4 <= 4 by decide, fun h2 => ?_⟩
     show 128 <= (UInt8.ofNat (128 + c / 4096 % 64)).toNat
     rw [UInt8.toNat_ofNat']
     omega
theorem index_rune_rest (s : ByteArray) (hs : s = ⟨#[43, 45]⟩) (r : Int) (h : 128 <= r) (hr : r ≠ 65533) (w : World) : Calls Tryz.prog 99 #[.string s, .int .i32 r] w fun e w' => e = .returned (.int .i64 (-1)) /\ Below w.heap.size w w' := by
 have C1 := fun (V : World) => Any.utf8_ValidRune (P := Tryz.prog) (ρ := Tryz.lays160_ren) { Tryz.lays160 with } r V
 obtain ⟨b, hb⟩ : ∃ b, b = Lib.validRune r := ⟨_, rfl⟩
 rw [<- hb] at C1
 clear hb
 have h1 : ¬ (r < 128) := by omega
 have h2 : (r == 65533) = false := by simpa using hr
 have h3 : (0 : Int) <= r := by omega
 obtain ⟨t, n, ht, htn, hn2, hn4, hlast⟩ := encode_form h
 go_enter Tryz.func99, Tryz.ntmps99
 go_wp2_with fail
 refine (C1 w).mono ?_
 rintro e w1 ⟨rfl, rfl⟩
 cases b
 case false =>
  go_wp2_with fail
  go_ret
  exact ⟨rfl, Below.refl _ _⟩
 case true =>
  clear C1
  rcases (by omega : n = 2 ∨ n = 3 ∨ n = 4) with rfl | rfl | rfl
  . go_wp2_with fail
    go_step3
    go_wp2_with fail
    go_loopg [9] 1 (fun g s9 wx => g = 1 /\ s9 = .int .i64 1 /\ wx = w1)
    case atStart => exact ⟨rfl, rfl, rfl⟩
    case round =>
     obtain ⟨-, rfl, rfl⟩ := hrel
     have C2 : ∀ (V : World) (c : Int), Calls Tryz.prog 171 #[.string ByteArray.empty, .int .u8 c] V fun e w' => e = .returned (.int .i64 (-1)) /\ w' = V := fun V c => Any.strings_IndexByte (P := Tryz.prog) (ρ := Tryz.lays160_ren) { Tryz.lays160 with } ByteArray.empty c V
     have hne : ((((⟨#[43, 45]⟩ : ByteArray)[1]'(by decide)).toNat : Int) != ((t[1]'(by omega)).toNat : Int)) = true := by
      have := hlast (by omega)
      rw [show (⟨#[43, 45]⟩ : ByteArray)[1]'(by decide) = 45 from rfl]
      simp
      omega
     go_wp2_with fail
     go_step3
     go_wp2_with fail
     go_quiet (fail)
     go_wp2_with fail
     go_quiet ((exact (C2 _ _).mono (fun e w'' h => ⟨h.1, _, h.2⟩)))
     go_wp2_with fail
     rw [Exit.noGoto_ret]
     go_wp2_with fail
     rw [Exit.noGoto_ret]
     go_ret
     exact ⟨rfl, ZT (Below.refl _ _) _⟩
  . go_wp2_with fail
    go_step3
    go_wp2_with fail
    go_loopg [9] 1 (fun g s9 wx => g = 1 /\ s9 = .int .i64 2 /\ wx = w1)
    case atStart => exact ⟨rfl, rfl, rfl⟩
    case round =>
     obtain ⟨-, rfl, rfl⟩ := hrel
     go_wp2_with fail
     rw [Exit.noGoto_ret]
     go_ret
     exact ⟨rfl, Below.refl _ _⟩
  . go_wp2_with fail
    go_step3
    go_wp2_with fail
    go_loopg [9] 1 (fun g s9 wx => g = 1 /\ s9 = .int .i64 3 /\ wx = w1)
    case atStart => exact ⟨rfl, rfl, rfl⟩
    case round =>
     obtain ⟨-, rfl, rfl⟩ := hrel
     go_wp2_with fail
     rw [Exit.noGoto_ret]
     go_ret
     exact ⟨rfl, Below.refl _ _⟩
def XY (r : Int) : Int := if r = 43 then 0 else if r = 45 then 1 else -1
theorem index_rune (s : ByteArray) (hs : s = ⟨#[43, 45]⟩) (r : Int) (h0 : 0 <= r) (w : World) : Calls Tryz.prog 99 #[.string s, .int .i32 r] w fun e w' => e = .returned (.int .i64 (XY r)) /\ Below w.heap.size w w' := by
 by_cases h : r < 128
 . refine (Any.strings_IndexRune_ascii (P := Tryz.prog) (ρ := Tryz.lays160_ren) { Tryz.lays160 with } s r w h0 h).mono ?_
   rintro e w' ⟨rfl, rfl⟩
   refine ⟨?_, Below.refl _ _⟩
   rw [hs]
   obtain ⟨n, rfl⟩ : ∃ n : Nat, r = n := ⟨r.toNat, by omega⟩
   have hn : n < 128 := by omega
   unfold XY
   show Ending.returned (.int .i64 (Lib.indexByte [43, 45] n.toUInt8)) = _
   have e1 : n.toUInt8.toNat = n := by rw [show n.toUInt8 = UInt8.ofNat n from rfl, UInt8.toNat_ofNat']; omega
   have k1 : ((43 : UInt8) == n.toUInt8) = decide (n = 43) := by
     rw [Bool.eq_iff_iff]
     simp only [beq_iff_eq, decide_eq_true_eq]
     exact ⟨fun h => by rw [<- e1, <- h]; rfl, fun h => by rw [h]; rfl⟩
   have k2 : ((45 : UInt8) == n.toUInt8) = decide (n = 45) := by
     rw [Bool.eq_iff_iff]
     simp only [beq_iff_eq, decide_eq_true_eq]
     exact ⟨fun h => by rw [<- e1, <- h]; rfl, fun h => by rw [h]; rfl⟩
   unfold Lib.indexByte Lib.indexByte Lib.indexByte
   rw [k1, k2]
   by_cases a : n = 43
   . simp [a]
   . by_cases b : n = 45
     . simp [b]
     . have a2 : ¬ ((n : Int) = 43) := by omega
       have b2 : ¬ ((n : Int) = 45) := by omega
       simp [a, b, a2, b2]
 . have e : XY r = -1 := by unfold XY; rw [if_neg (by omega), if_neg (by omega)]
   rw [e]
   by_cases hr : r = 65533
   . subst hr
     exact index_rune_err s hs w
   . exact index_rune_rest s hs r (by omega) hr w

theorem pmAt_tail : ∀ (a : List UInt8) {b : List UInt8}, (∀ x ∈ b, pm x = false) -> Yv (a ++ b) = Yv a
 | [], b, h => by rw [List.nil_append, pmAt_none h]; rfl
 | x :: r, b, h => by rw [List.cons_append, XP, XP, pmAt_tail r h]
theorem mem_drop_getD {l : List UInt8} {i : Nat} {x : UInt8} (h : x ∈ l.drop i) : ∃ j, i <= j /\ j < l.length /\ l.getD j 0 = x := by
 obtain ⟨k, hk, e⟩ := List.mem_iff_getElem.1 h
 rw [List.length_drop] at hk
 refine ⟨i + k, by omega, by omega, ?_⟩
 rw [List.getElem_drop] at e
 rw [List.getD_eq_getElem?_getD, List.getElem?_eq_getElem (by omega), e]
 rfl
theorem pmAt_take {l : List UInt8} {i : Nat} (h : ∀ j, i <= j -> j < l.length -> pm (l.getD j 0) = false) : Yv (l.take i) = Yv l := by
 have := pmAt_tail (l.take i) (b := l.drop i) fun x hx => by
  obtain ⟨j, h1, h2, h3⟩ := mem_drop_getD hx
  rw [<- h3]
  exact h j h1 h2
 rw [List.take_append_drop] at this
 exact this.symm
theorem pmAt_found {l : List UInt8} {i : Nat} (hi : i < l.length) (hp : pm (l.getD i 0) = true) (h : ∀ j, i + 1 <= j -> j < l.length -> pm (l.getD j 0) = false) : Yv l = i := by
 rw [<- pmAt_take (i := i + 1) h]
 have e : l.take (i + 1) = l.take i ++ l.getD i 0 :: [] := by
  rw [List.take_add_one, List.getElem?_eq_getElem hi, List.getD_eq_getElem?_getD, List.getElem?_eq_getElem hi]
  rfl
 rw [e, pmAt_here hp (fun b hb => by cases hb), List.length_take]
 omega
theorem pm_high {b : UInt8} (h : 128 <= b.toNat) : pm b = false := by
 unfold pm
 have h1 : b ≠ 43 := fun e => by subst e; exact absurd h (by decide)
 have h2 : b ≠ 45 := fun e => by subst e; exact absurd h (by decide)
 simp [h1, h2]
theorem pmRune_high {r : Int} (h : 128 <= r) : XY r = -1 := by unfold XY; rw [if_neg (by omega), if_neg (by omega)]
theorem pmRune_byte (b : UInt8) : (0 <= XY (b.toNat : Int)) ↔ pm b = true := by
 have k1 : (b = 43) ↔ b.toNat = 43 := by rw [<- UInt8.toNat_inj]; rfl
 have k2 : (b = 45) ↔ b.toNat = 45 := by rw [<- UInt8.toNat_inj]; rfl
 unfold XY pm
 rw [Bool.or_eq_true, beq_iff_eq, beq_iff_eq, k1, k2]
 constructor
 . intro h
   split at h
   . omega
   . split at h
     . omega
     . omega
 . rintro (h | h)
   . rw [if_pos (by omega)]; decide
   . rw [if_neg (by omega), if_pos (by omega)]; decide
theorem last_rune_of (s : ByteArray) (w : World) (hs : s.size <= 9223372036854775807) (hT : Lib.Utf8Tabs 2 3 w) :
  Calls Tryz.prog 103 #[.string s] w fun e w' => e = .returned (.tuple #[.int .i32 (Lib.decodeLastL s.data.toList).1, .int .i64 (Lib.decodeLastL s.data.toList).2]) /\ Below w.heap.size w w' :=
 Any.utf8_DecodeLastRuneInString (P := Tryz.prog) (ρ := Tryz.lays160_ren) { Tryz.lays160 with } s w hs hT
theorem ext_list (s : ByteArray) (i : Nat) : (s.extract 0 i).data.toList = s.data.toList.take i := by
 rw [Lib.extract_eq]
 simp
theorem last_round {l : List UInt8} {i : Nat} (h0 : 0 < i) (hi : i <= l.length) (h : ∀ j, i <= j -> j < l.length -> pm (l.getD j 0) = false) :
   ∃ (r : Int) (k : Nat), Lib.decodeLastL (l.take i) = (r.toNat, k) /\ 0 <= r /\ 1 <= k /\ k <= i /\ (0 <= XY r -> Yv l = ((i - k : Nat) : Int)) /\ (XY r < 0 -> ∀ j, i - k <= j -> j < l.length -> pm (l.getD j 0) = false) := by
 have hl : (l.take i).length = i := by rw [List.length_take]; omega
 have hne : l.take i ≠ [] := fun e => by rw [e] at hl; simp at hl; omega
 have hg : ∀ j, j < i -> (l.take i).getD j 0 = l.getD j 0 := fun j hj => by
   rw [List.getD_eq_getElem?_getD, List.getD_eq_getElem?_getD, List.getElem?_take, if_pos hj]
 have hb := hg (i - 1) (by omega)
 by_cases hlow : (l.getD (i - 1) 0).toNat < 128
 . refine ⟨((l.getD (i - 1) 0).toNat : Int), 1, ?_, by omega, by omega, by omega, ?_, ?_⟩
   . rw [last_low _ hne (by rw [hl, hb]; exact hlow), hl, hb]
     simp
   . intro hp
     rw [pmRune_byte] at hp
     exact pmAt_found (by omega) hp (fun j h1 h2 => h j (by omega) h2)
   . intro hp j h1 h2
     by_cases e : j = i - 1
     . rw [e]
       cases hq : pm (l.getD (i - 1) 0) with
       | false => rfl
       | true => have := (pmRune_byte _).2 hq; omega
     . exact h j (by omega) h2
 . have hw := Lib.decodeLastL_width (l.take i) (by omega)
   obtain ⟨h1, h2⟩ := last_high (l.take i) hne (by rw [hl, hb]; omega)
   rw [hl] at hw h2
   refine ⟨((Lib.decodeLastL (l.take i)).1 : Int), (Lib.decodeLastL (l.take i)).2, by simp, by omega, hw.1, hw.2, ?_, ?_⟩
   . intro hp
     rw [pmRune_high (by omega)] at hp
     omega
   . intro _ j h3 h4
     by_cases hj : j < i
     . have := h2 j h3 hj
       rw [hg j hj] at this
       exact pm_high this
     . exact h j (by omega) h4
theorem should_set (n : Int) (w : World) : Calls Tryz.prog 100 #[.int .i64 n] w fun e w' => e = .returned (.bool (decide (8 < n))) /\ w' = w := by
 go_enter Tryz.func100, Tryz.ntmps100
 go_wp2_with fail
 go_ret
 exact ⟨rfl, rfl⟩
theorem last_any_short (s : ByteArray) (h1 : s.size ≠ 1) (h8 : s.size <= 8) (w : World) (hT : Lib.Utf8Tabs 2 3 w) :
  Calls Tryz.prog 26 #[.string s, .string ⟨#[43, 45]⟩] w fun e w' => e = .returned (.int .i64 (Yv s.data.toList)) /\ Below w.heap.size w w' := by
 have hl : s.data.toList.length = s.size := (Lib.size_eq s).symm
 have hk : decide (8 < (s.size : Int)) = false := by simp; omega
 have hq : ((s.size : Int) == 1) = false := by simp; omega
 have C1 : Calls Tryz.prog 100 #[.int .i64 s.size] w fun e w' => e = .returned (.bool false) /\ w' = w := by
  have := should_set s.size w
  rw [hk] at this
  exact this
 go_enter Tryz.func26, Tryz.ntmps26
 go_wp2_with fail
 refine C1.mono ?_
 rintro e w1 ⟨rfl, rfl⟩
 clear C1
 go_wp2_with fail
 go_loopg [13] s.size (fun g s13 wx => g <= s.size /\ s13 = .int .i64 g /\ (∀ j, g <= j -> j < s.size -> pm (s.data.toList.getD j 0) = false) /\ Below w1.heap.size w1 wx)
 case atStart => exact ⟨Nat.le_refl _, rfl, fun j h2 h3 => by omega, Below.refl _ _⟩
 case round =>
  obtain ⟨hg, rfl, hn, hb⟩ := hrel
  by_cases h0 : gk = 0
  . subst h0
    have e : Yv s.data.toList = -1 := by
      rw [<- pmAt_take (i := 0) fun j h2 h3 => hn j h2 (by omega)]
      rfl
    go_wp2_with fail
    go_ret
    exact ⟨by rw [e]; rfl, hb⟩
  . obtain ⟨r, k, hr, hr0, hk1, hk2, hf, hc⟩ := last_round (l := s.data.toList) (i := gk) (by omega) (by omega) (fun j h2 h3 => hn j h2 (by omega))
    have C2 := last_rune_of (s.extract 0 gk) wr (by rw [Lib.size_eq, ext_list, List.length_take]; omega) (Utf8Tabs_below hT hb)
    rw [ext_list, hr] at C2
    simp only [Int.toNat_of_nonneg hr0] at C2
    have C3 := fun (V : World) => index_rune ⟨#[43, 45]⟩ rfl r hr0 V
    have h7 : (0 : Int) < (gk : Int) := by omega
    go_wp2_with fail
    refine C2.mono ?_
    rintro e w2 ⟨rfl, hb2⟩
    have h9 : ((gk - k : Nat) : Int) = (gk : Int) - (k : Int) := by omega
    clear C2
    by_cases hp : 0 <= XY r
    . have ep := hf hp
      clear hf hc
      go_wp2_with fail
      refine (C3 w2).mono ?_
      rintro e w3 ⟨rfl, hb3⟩
      go_wp2_with fail
      go_ret

      exact ⟨by rw [ep, h9]; rfl, Below.trans (Below.trans hb (hb2.mono (by have := hb.size; omega))) (hb3.mono (by have := hb.size; have := hb2.size; omega))⟩
    . have hc2 := hc (by omega)
      have hp2 : XY r < 0 := by omega
      clear hf hc
      go_wp2_with fail
      refine (C3 w2).mono ?_
      rintro e w3 ⟨rfl, hb3⟩
      go_wp2_with fail
      go_roundg (gk - k)
      case measure => omega
      case rel => exact ⟨by omega, by rw [h9], fun j h2 h3 => hc2 j h2 (by omega), Below.trans (Below.trans hb (hb2.mono (by have := hb.size; omega))) (hb3.mono (by have := hb.size; have := hb2.size; omega))⟩
theorem last_any_one (s : ByteArray) (h1 : s.size = 1) (w : World) :
   Calls Tryz.prog 26 #[.string s, .string ⟨#[43, 45]⟩] w fun e w' => e = .returned (.int .i64 (Yv s.data.toList)) /\ Below w.heap.size w w' := by
 obtain ⟨c, hc⟩ : ∃ c, c = s[0]'(by omega) := ⟨_, rfl⟩
 have hs : s.data.toList = [c] := by
   have h2 := Lib.data_getElem? s 0 (by omega)
   rw [<- hc] at h2
   have h3 : s.data.toList.length = 1 := by rw [<- Lib.size_eq]; exact h1
   cases hd : s.data.toList with
   | nil => rw [hd] at h3; cases h3
   | cons a t =>
     rw [hd] at h2 h3
     simp at h2 h3
     rw [h2, h3]
 have hv : Yv s.data.toList = if pm c then 0 else -1 := by rw [hs]; rfl
 have C3 := fun (V : World) => index_rune ⟨#[43, 45]⟩ rfl (c.toNat : Int) (by omega) V
 have C4 := fun (V : World) => index_rune ⟨#[43, 45]⟩ rfl 65533 (by omega) V
 rw [show XY 65533 = -1 from rfl] at C4
 have hp := pmRune_byte c
 rw [hv]
 clear hs hv
 have hq : ((s.size : Int) == 1) = true := by simp [h1]
 have hw : wrap32 (((s[0]'(by omega)).toNat : Nat) : Int) = (c.toNat : Int) := by
   rw [<- hc]
   have := UInt8.toNat_lt c
   unfold wrap32
   omega
 clear hc
 by_cases hh : (128 : Int) <= (c.toNat : Int)
 . have e0 : pm c = false := pm_high (by omega)
   rw [e0]
   clear C3 hp e0
   go_enter Tryz.func26, Tryz.ntmps26
   go_wp2_with fail
   refine (C4 w).mono ?_
   rintro e w1 ⟨rfl, hb⟩
   go_wp2_with fail
   go_ret
   exact ⟨rfl, hb⟩
 . clear C4
   by_cases hz : 0 <= XY (c.toNat : Int)
   . rw [hp.1 hz]
     clear hp
     go_enter Tryz.func26, Tryz.ntmps26
     go_wp2_with fail
     refine (C3 w).mono ?_
     rintro e w1 ⟨rfl, hb⟩
     go_wp2_with fail
     go_ret
     exact ⟨rfl, hb⟩
   . have e0 : pm c = false := by
      cases h : pm c with
      | false => rfl
      | true => exact absurd (hp.2 h) hz
     rw [e0]
     clear hp e0
     go_enter Tryz.func26, Tryz.ntmps26
     go_wp2_with fail
     refine (C3 w).mono ?_
     rintro e w1 ⟨rfl, hb⟩
     go_wp2_with fail
     go_ret
     exact ⟨rfl, hb⟩
theorem last_any_long (s : ByteArray) (h8 : 8 < s.size) (hs : s.size <= 9223372036854775807) (w : World) :
  Calls Tryz.prog 26 #[.string s, .string ⟨#[43, 45]⟩] w fun e w' => e = .returned (.int .i64 (Yv s.data.toList)) /\ Below w.heap.size w w' := by
 have hl : s.data.toList.length = s.size := (Lib.size_eq s).symm
 have hk : decide (8 < (s.size : Int)) = true := by simp; omega
 have hq : ((s.size : Int) == 1) = false := by simp; omega
 have C1 := should_set s.size w
 rw [hk] at C1
 obtain ⟨cs, hcs⟩ : ∃ cs, cs = Lib.setCells [43, 45] := ⟨_, rfl⟩
 have CM : Calls Tryz.prog 101 #[.string ⟨#[43, 45]⟩] w fun e w' => e = .returned (.tuple #[.agg cs, .bool true]) /\ w' = w.alloc (.cells cs 89) := by
  rw [hcs]
  exact Any.strings_makeASCIISet (P := Tryz.prog) (ρ := Tryz.lays160_ren) { Tryz.lays160 with } (fun _ => by kernel_rfl) (by kernel_rfl) ⟨#[43, 45]⟩ w (by decide) (by
    intro j b hb
    have hb2 : ([43, 45] : List UInt8)[j]? = some b := hb
    rcases j with _ | _ | j
    . cases hb2; decide
    . cases hb2; decide
    . cases hb2)
 have hsz : cs.size = 256 := by rw [hcs]; exact Lib.setCells_size _
 have hsc : (storeCells ⟨w.heap.size + 1, 0, none⟩ cs.toList 0).run Tryz.prog ((w.alloc (.cells cs 89)).alloc (.cells (Array.replicate 256 (.bool false)) 89)) = .ok () ((w.alloc (.cells cs 89)).alloc (.cells cs 89)) := by
  have := run_storeCells_new (P := Tryz.prog) (w.alloc (.cells cs 89)) 89 (Array.replicate 256 (.bool false)) cs (by rw [hsz]; kernel_rfl) (by rw [hsz, Array.size_replicate]) (by rw [hcs]; exact Lib.setCells_one _)
  simpa using this
 have HSC := Hd hsc
 have hcs0 := Hd (show ∀ x : UInt8, cs[x.toNat]? = some (.bool (pm x)) from fun x => by
  rw [hcs, Lib.setCells_at]
  rw [show ([43, 45] : List UInt8).contains x = pm x from by
    unfold pm
    simp [List.contains, List.elem, Bool.beq_eq_decide_eq]
    cases decide (x = 43) <;> cases decide (x = 45) <;> rfl])
 clear hsc hcs
 go_enter Tryz.func26, Tryz.ntmps26
 go_wp2_with fail
 refine C1.mono ?_
 rintro e w1 ⟨rfl, rfl⟩
 clear C1
 go_wp2_with fail
 refine CM.mono ?_
 rintro e w2 ⟨rfl, rfl⟩
 clear CM
 go_wp2_with fail
 rw [show Tryz.zeroCells89 = Array.replicate 256 (.bool false) from by kernel_rfl, HSC.out]
 simp only [Result.andThen]
 rw [Oper.upon_skip]
 clear HSC hsz
 obtain ⟨W, hW⟩ : ∃ W, W = (w1.alloc (.cells cs 89)).alloc (.cells cs 89) := ⟨_, rfl⟩
 rw [<- hW]
 have hbW : Below w1.heap.size w1 W := by rw [hW]; exact ((Below.refl _ _).alloc (Nat.le_refl _) _).alloc (by simp) _
 have HC := Hd (show ∀ x : UInt8, W.cell? ⟨w1.heap.size + 1, x.toNat, none⟩ = some (.bool (pm x)) from fun x => by
  rw [hW, World.cell?_alloc_at _ _ _ _ (by simp), hcs0.out x])
 clear hW
 go_wp2_with fail
 go_loopg [8] s.size (fun g s8 wx => g <= s.size /\ s8 = .int .i64 ((g : Int) - 1) /\ (∀ j, g <= j -> j < s.size -> pm (s.data.toList.getD j 0) = false) /\ wx = W)
 case atStart => exact ⟨Nat.le_refl _, by first | rfl | (rw [show wrap64 ((s.size : Int) - 1) = (s.size : Int) - 1 from by unfold wrap64; omega]), fun j h2 h3 => by omega, rfl⟩
 case round =>
  obtain ⟨hg, rfl, hn, rfl⟩ := hrel
  by_cases h0 : gk = 0
  . subst h0
    have e : Yv s.data.toList = -1 := by
      rw [<- pmAt_take (i := 0) fun j h2 h3 => hn j h2 (by omega)]
      rfl
    go_wp2_with fail
    go_ret
    exact ⟨by rw [e]; rfl, hbW⟩
  . obtain ⟨i, rfl⟩ : ∃ i, gk = i + 1 := ⟨gk - 1, by omega⟩
    have hi : i < s.size := by omega
    have e1 : (((i + 1 : Nat) : Int) - 1) = (i : Int) := by omega
    rw [e1]
    obtain ⟨x, hx⟩ : ∃ x, x = s[i]'hi := ⟨_, rfl⟩
    have hg2 : s.data.toList.getD i 0 = x := by
      rw [List.getD_eq_getElem?_getD, Lib.data_getElem? s i hi, <- hx]
      rfl
    have C6 : Calls Tryz.prog 102 #[.pointer (some ⟨w1.heap.size + 1, 0, none⟩), .int .u8 (((s[i]'hi).toNat : Nat) : Int)] wr fun e w' => e = .returned (.bool (pm x)) /\ w' = wr := by
      rw [<- hx]
      exact Any.asciiSet_contains (P := Tryz.prog) (ρ := Tryz.lays160_ren) { Tryz.lays160 with } (w1.heap.size + 1) x (pm x) wr (HC.out x)
    have h7 : (0 : Int) <= (i : Int) := by omega
    have hi2 : (i : Int) < (s.size : Int) := by omega
    clear hx
    cases hp : pm x with
    | true =>
      rw [hp] at C6
      have ep := pmAt_found (l := s.data.toList) (i := i) (by omega) (by rw [hg2]; exact hp) (fun j h2 h3 => hn j h2 (by omega))
      go_wp2_with fail
      refine C6.mono ?_
      rintro e w2 ⟨rfl, rfl⟩
      go_wp2_with fail
      go_ret
      exact ⟨by rw [ep]; rfl, hbW⟩
    | false =>
      rw [hp] at C6
      have hn2 : ∀ j, i <= j -> j < s.size -> pm (s.data.toList.getD j 0) = false := fun j h2 h3 => by
       by_cases e : j = i
       . rw [e, hg2]; exact hp
       . exact hn j (by omega) h3
      go_wp2_with fail
      refine C6.mono ?_
      rintro e w2 ⟨rfl, rfl⟩
      go_wp2_with fail
      go_roundg i
      case measure => omega
      case rel => exact ⟨by omega, by first | rfl | (rw [show wrap64 ((i : Int) - 1) = (i : Int) - 1 from by unfold wrap64; omega]), hn2, rfl⟩
theorem last_any (s : ByteArray) (hs : s.size <= 9223372036854775807) (w : World) (hT : Lib.Utf8Tabs 2 3 w) :
   Calls Tryz.prog 26 #[.string s, .string ⟨#[43, 45]⟩] w fun e w' => e = .returned (.int .i64 (Yv s.data.toList)) /\ Below w.heap.size w w' := by
 by_cases h8 : 8 < s.size
 . exact last_any_long s h8 hs w
 . by_cases h1 : s.size = 1
   . exact last_any_one s h1 w
   . exact last_any_short s h1 (by omega) w hT
end Go.Proofs.YtdonecnhdkjniaaGreatDoor
