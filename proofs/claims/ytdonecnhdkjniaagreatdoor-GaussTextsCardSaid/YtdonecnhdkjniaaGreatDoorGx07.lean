/- Several texts in one: Plus, Twin2, DivRows, Divide, RefPlus. -/
import Derived.Test.YtdonecnhdkjniaaGreatDoorGx06
import Derived.WalkMore
import Derived.Deep.RegionWith
import Derived.Deep.DeepCutAuto
import Derived.Deep.CutBlock
set_option maxRecDepth 100000
set_option maxHeartbeats 8000000
namespace Go.Proofs.YtdonecnhdkjniaaGreatDoor
open Go.RowKit

theorem Zf : Tryz.prog.follows .mixedOrders = true := by kernel_rfl
theorem len_of_val {xs ys : List Nat} (hx : Zj xs) (hy : Zj ys) (hc : ZU xs) (h : val xs <= val ys) : xs.length <= ys.length := by
 have e := YU hx hc
 rw [<- e]
 exact ZN.2 (Nat.lt_of_le_of_lt h (Y7 hy))
theorem Xi (A B : Option Addr) (c d : Nat) (xs ys : List Nat) (hcx : ZU xs) (hcy : ZU ys) (hn : xs.length <= 4611686018427387904) (hm : ys.length <= 4611686018427387904) (w : World) (h : Zm w A c xs) (g : Zm w B d ys) :
   Calls Tryz.prog 160 #[.slice A xs.length c, .slice B ys.length d] w fun e w' => ∃ k : Int, e = .returned (.int .i64 k) /\ ((val ys <= val xs -> 0 <= k) /\ (val xs < val ys -> k < 0)) /\ Below w.heap.size w w' := by
 refine (exact_size_any A B c d xs ys hcx hcy hn hm w h g).mono ?_
 rintro e w' ⟨k, rfl, h1, h2, h3, h4, h5, hb⟩
 refine ⟨k, rfl, ⟨fun h => ?_, h3⟩, hb⟩
 rcases Nat.lt_or_eq_of_le h with h | h
 . exact Int.le_of_lt (h5 h)
 . rw [h4 h.symm]; omega

theorem exact_Plus_like (n1 : Bool) (A B : Option Addr) (c d : Nat) (xs ys : List Nat) (hlx : xs.length <= 536870912) (hly : ys.length <= 536870912) (z : Int) (HZV : Hid (z = if n1 then -((val xs + val ys : Nat) : Int) else ((val xs + val ys : Nat) : Int))) (w : World) (h : Zm w A c xs) (g : Zm w B d ys) :
   Calls Tryz.prog 238 #[.agg #[.bool n1, .slice A xs.length c], .agg #[.bool n1, .slice B ys.length d]] w (ZY w.heap.size w z) := by
 have px := ((Zr.new w 24 (.bool n1) (.slice A xs.length c)).alloc (.cells #[.bool n1, .slice B ys.length d] 24)).alloc (.cells #[.bool false, .slice none 0 0] 24)
 have py := (Zr.new (w.alloc (.cells #[.bool n1, .slice A xs.length c] 24)) 24 (.bool n1) (.slice B ys.length d)).alloc (.cells #[.bool false, .slice none 0 0] 24)
 have pr := Zr.new ((w.alloc (.cells #[.bool n1, .slice A xs.length c] 24)).alloc (.cells #[.bool n1, .slice B ys.length d] 24)) 24 (.bool false) (.slice none 0 0)
 have rx := (((h.alloc (.cells #[.bool n1, .slice A xs.length c] 24)).alloc (.cells #[.bool n1, .slice B ys.length d] 24)).alloc (.cells #[.bool false, .slice none 0 0] 24))
 have ry := (((g.alloc (.cells #[.bool n1, .slice A xs.length c] 24)).alloc (.cells #[.bool n1, .slice B ys.length d] 24)).alloc (.cells #[.bool false, .slice none 0 0] 24))
 have b0 := (((Below.refl w.heap.size w).alloc (Nat.le_refl _) (.cells #[.bool n1, .slice A xs.length c] 24)).alloc (by simp) (.cells #[.bool n1, .slice B ys.length d] 24)).alloc (by simp; omega) (.cells #[.bool false, .slice none 0 0] 24)
 simp only [World.size_alloc] at py pr
 clear h g
 go_enter Tryz.func238, Tryz.ntmps238
 go_wp2_with fail
 obtain ⟨W, E⟩ : ∃ W, W = ((w.alloc (.cells #[.bool n1, .slice A xs.length c] 24)).alloc (.cells #[.bool n1, .slice B ys.length d] 24)).alloc (.cells #[.bool false, .slice none 0 0] 24) := ⟨_, rfl⟩
 rw [<- E] at px py pr b0 rx ry ⊢
 clear E
 have PX := Hd px
 have PY := Hd py
 have PR := Hd pr
 have B0 := Hd b0
 have RX := Hd rx
 have RY := Hd ry
 have hlr := pr.blk.lt
 have hsz := b0.size
 obtain ⟨l1, x0, x1, -, -⟩ := px.facts
 obtain ⟨l2, y0, y1, -, -⟩ := py.facts
 clear px py pr rx ry b0
 have C1 := Hd (fun (V : World) (hV : Below W.heap.size W V) => exact_add A B c d xs ys (by omega) (by omega) V (RX.out.below hV) (RY.out.below hV))
 have C2 := Hd (fun (V : World) (v : Value) (hV : XF V W.heap.size v (val xs + val ys) (max xs.length ys.length + 1)) => show Calls Tryz.prog 161 #[.bool n1, v] V (ZY W.heap.size V z) from by rw [HZV.out]; exact Y4 n1 v _ _ _ V hV)
 have HW := Hd (Below.refl W.heap.size W)
 refine YS [.val (.pointer (some ⟨w.heap.size, 0, none⟩)), .val (.bool n1), .val (.pointer (some ⟨w.heap.size, 1, none⟩)), .val (.slice A xs.length c), .val (.pointer (some ⟨w.heap.size + 1, 1, none⟩)), .val (.slice B ys.length d), .step, .step, .step] 2 3 W
   (fun us V => match us with
     | [] => True
     | [va] => XF V W.heap.size va (val xs + val ys) (max xs.length ys.length + 1)
     | [_, vb] => Zc V W.heap.size vb z
     | _ => False)
   (fun _ V => ∃ A1 c1, Zc V W.heap.size (.agg #[.bool (decide (z < 0)), .slice A1 (Za z.natAbs).length c1]) z /\ Zr V (w.heap.size + 1 + 1) 24 (.bool (decide (z < 0))) (.slice A1 (Za z.natAbs).length c1) /\ Below w.heap.size w V)
   _ Zf ?_ ?_ ?_ ?_ ?_ ?_ ?_ ?_ ?_ rfl ?_ HW.out trivial ?_ ?_ ?_
 iterate 9 kernel_rfl
 . intro us V V' hg hb
   match us, hg with
   | [], _ => trivial
   | [va], hg => exact hg.below hb
   | [va, vb], hg => exact hg.below hb
 . simp [XD, ZO, ZF, Zn, Yc]
   repeat' apply And.intro
   all_goals
     intro V hV
     obtain ⟨-, e0, e1, -, -⟩ := (PX.out.below hV).facts
     obtain ⟨-, f0, f1, -, -⟩ := (PY.out.below hV).facts
     clear hV
     go_simp
     exact Below.refl _ _
 . simp [Y1, ZO, ZF, Zn, Yc, Yp, List.filter, Ks.isStep]
   refine ⟨fun V hV => ?_, fun va => ⟨fun V hV hva => ?_, fun vb V hV hvb => ?_⟩⟩
   . go_simp
     refine (C1.out V hV).mono ?_
     rintro e w' ⟨v, rfl, hv, hb⟩
     exact ⟨Zb hV hb, hv.base hV.size⟩
   . go_simp
     refine (C2.out V va hva).mono ?_
     rintro e w' ⟨v, rfl, hv, hb⟩
     exact ⟨Zb hV hb, hv⟩
   . obtain ⟨A1, c1, rfl, -⟩ := hvb.form
     have pr := PR.out.below hV
     obtain ⟨p1, p2, p3, p4, p5⟩ := pr.facts
     go_simp
     exact ⟨A1, c1, hvb.pair (by omega), pr.store _ _, ZW (Zb B0.out hV) (by omega) _ _⟩
 . intro us V hus hF
   simp only [show ¬ (3 <= 2) by decide, if_false] at hF
   obtain ⟨A1, c1, hI, pr, hb⟩ := hF
   obtain ⟨u0, u1, u2, rfl⟩ : ∃ u0 u1 u2, us = [u0, u1, u2] := by
     match us, hus with
     | [u0, u1, u2], _ => exact ⟨u0, u1, u2, rfl⟩
   simp [ZO, ZF, Zn, Yc, Yp, List.filter, Ks.isStep]
   obtain ⟨_, k0, k1, _, _⟩ := pr.facts
   clear PX PY RX RY l1 x0 x1 l2 y0 y1
   go_wp2_with fail
   exact bodyPost_ret (by simp [results, Tryz.results238, go_sem, k0, k1]) rfl ⟨_, rfl, hI.base hsz, hb⟩

theorem exact_Plus_x (n1 n2 : Bool) (hne : (n1 == n2) = false) (A B : Option Addr) (c d : Nat) (xs ys : List Nat) (hcx : ZU xs) (hcy : ZU ys) (hle : val ys <= val xs) (hlx : xs.length <= 536870912) (hly : ys.length <= 536870912) (z : Int) (HZV : Hid (z = if n1 then -((val xs - val ys : Nat) : Int) else ((val xs - val ys : Nat) : Int))) (w : World) (h : Zm w A c xs) (g : Zm w B d ys) :
   Calls Tryz.prog 238 #[.agg #[.bool n1, .slice A xs.length c], .agg #[.bool n2, .slice B ys.length d]] w (ZY w.heap.size w z) := by
 have hlen : ys.length <= xs.length := len_of_val g.limbs h.limbs hcy (by omega)
 have HLE := Hd (show val ys <= val xs by omega)
 have px := ((Zr.new w 24 (.bool n1) (.slice A xs.length c)).alloc (.cells #[.bool n2, .slice B ys.length d] 24)).alloc (.cells #[.bool false, .slice none 0 0] 24)
 have py := (Zr.new (w.alloc (.cells #[.bool n1, .slice A xs.length c] 24)) 24 (.bool n2) (.slice B ys.length d)).alloc (.cells #[.bool false, .slice none 0 0] 24)
 have pr := Zr.new ((w.alloc (.cells #[.bool n1, .slice A xs.length c] 24)).alloc (.cells #[.bool n2, .slice B ys.length d] 24)) 24 (.bool false) (.slice none 0 0)
 have rx := (((h.alloc (.cells #[.bool n1, .slice A xs.length c] 24)).alloc (.cells #[.bool n2, .slice B ys.length d] 24)).alloc (.cells #[.bool false, .slice none 0 0] 24))
 have ry := (((g.alloc (.cells #[.bool n1, .slice A xs.length c] 24)).alloc (.cells #[.bool n2, .slice B ys.length d] 24)).alloc (.cells #[.bool false, .slice none 0 0] 24))
 have b0 := (((Below.refl w.heap.size w).alloc (Nat.le_refl _) (.cells #[.bool n1, .slice A xs.length c] 24)).alloc (by simp) (.cells #[.bool n2, .slice B ys.length d] 24)).alloc (by simp; omega) (.cells #[.bool false, .slice none 0 0] 24)
 simp only [World.size_alloc] at py pr
 clear h g
 go_enter Tryz.func238, Tryz.ntmps238
 go_wp2_with fail
 obtain ⟨W, E⟩ : ∃ W, W = ((w.alloc (.cells #[.bool n1, .slice A xs.length c] 24)).alloc (.cells #[.bool n2, .slice B ys.length d] 24)).alloc (.cells #[.bool false, .slice none 0 0] 24) := ⟨_, rfl⟩
 rw [<- E] at px py pr b0 rx ry ⊢
 clear E
 have PX := Hd px
 have PY := Hd py
 have PR := Hd pr
 have B0 := Hd b0
 have RX := Hd rx
 have RY := Hd ry
 have hlr := pr.blk.lt
 have hsz := b0.size
 obtain ⟨l1, x0, x1, -, -⟩ := px.facts
 obtain ⟨l2, y0, y1, -, -⟩ := py.facts
 clear px py pr rx ry b0
 have C0 := Hd (fun (V : World) (hV : Below W.heap.size W V) => Xi A B c d xs ys hcx hcy (by omega) (by omega) V (RX.out.below hV) (RY.out.below hV))
 have C1 := Hd (fun (V : World) (hV : Below W.heap.size W V) => exact_sub A B c d xs ys hlen HLE.out (by omega) V (RX.out.below hV) (RY.out.below hV))
 have C2 := Hd (fun (V : World) (v : Value) (hV : XF V W.heap.size v (val xs - val ys) xs.length) => show Calls Tryz.prog 161 #[.bool n1, v] V (ZY W.heap.size V z) from by rw [HZV.out]; exact Y4 n1 v _ _ _ V hV)
 refine (C0.out W (Below.refl _ _)).mono ?_
 rintro e wz ⟨k, rfl, hk, hbz⟩
 have HW := Hd hbz
 have hk2 := hk.1 hle
 have hdk : decide ((0 : Int) <= k) = true := by simp; omega
 obtain ⟨-, xz0, xz1, -, -⟩ := (PX.out.below hbz).facts
 obtain ⟨-, yz0, yz1, -, -⟩ := (PY.out.below hbz).facts
 clear hk hbz C0 hle hcx hcy hne
 go_wp2_with fail
 refine YS [.val (.pointer (some ⟨w.heap.size, 0, none⟩)), .val (.bool n1), .val (.pointer (some ⟨w.heap.size, 1, none⟩)), .val (.slice A xs.length c), .val (.pointer (some ⟨w.heap.size + 1, 1, none⟩)), .val (.slice B ys.length d), .step, .step, .step] 2 3 W
   (fun us V => match us with
     | [] => True
     | [va] => XF V W.heap.size va (val xs - val ys) (xs.length)
     | [_, vb] => Zc V W.heap.size vb z
     | _ => False)
   (fun _ V => ∃ A1 c1, Zc V W.heap.size (.agg #[.bool (decide (z < 0)), .slice A1 (Za z.natAbs).length c1]) z /\ Zr V (w.heap.size + 1 + 1) 24 (.bool (decide (z < 0))) (.slice A1 (Za z.natAbs).length c1) /\ Below w.heap.size w V)
   _ Zf ?_ ?_ ?_ ?_ ?_ ?_ ?_ ?_ ?_ rfl ?_ HW.out trivial ?_ ?_ ?_
 iterate 9 kernel_rfl
 . intro us V V' hg hb
   match us, hg with
   | [], _ => trivial
   | [va], hg => exact hg.below hb
   | [va, vb], hg => exact hg.below hb
 . simp [XD, ZO, ZF, Zn, Yc]
   repeat' apply And.intro
   all_goals
     intro V hV
     obtain ⟨-, e0, e1, -, -⟩ := (PX.out.below hV).facts
     obtain ⟨-, f0, f1, -, -⟩ := (PY.out.below hV).facts
     clear hV
     go_simp
     exact Below.refl _ _
 . simp [Y1, ZO, ZF, Zn, Yc, Yp, List.filter, Ks.isStep]
   refine ⟨fun V hV => ?_, fun va => ⟨fun V hV hva => ?_, fun vb V hV hvb => ?_⟩⟩
   . go_simp
     refine (C1.out V hV).mono ?_
     rintro e w' ⟨v, rfl, hv, hb⟩
     exact ⟨Zb hV hb, hv.base hV.size⟩
   . go_simp
     refine (C2.out V va hva).mono ?_
     rintro e w' ⟨v, rfl, hv, hb⟩
     exact ⟨Zb hV hb, hv⟩
   . obtain ⟨A1, c1, rfl, -⟩ := hvb.form
     have pr := PR.out.below hV
     obtain ⟨p1, p2, p3, p4, p5⟩ := pr.facts
     go_simp
     exact ⟨A1, c1, hvb.pair (by omega), pr.store _ _, ZW (Zb B0.out hV) (by omega) _ _⟩
 . intro us V hus hF
   simp only [show ¬ (3 <= 2) by decide, if_false] at hF
   obtain ⟨A1, c1, hI, pr, hb⟩ := hF
   obtain ⟨u0, u1, u2, rfl⟩ : ∃ u0 u1 u2, us = [u0, u1, u2] := by
     match us, hus with
     | [u0, u1, u2], _ => exact ⟨u0, u1, u2, rfl⟩
   simp [ZO, ZF, Zn, Yc, Yp, List.filter, Ks.isStep]
   obtain ⟨_, k0, k1, _, _⟩ := pr.facts
   clear PX PY RX RY l1 x0 x1 l2 y0 y1 xz0 xz1 yz0 yz1
   go_wp2_with fail
   exact bodyPost_ret (by simp [results, Tryz.results238, go_sem, k0, k1]) rfl ⟨_, rfl, hI.base hsz, hb⟩

theorem exact_Plus_y (n1 n2 : Bool) (hne : (n1 == n2) = false) (A B : Option Addr) (c d : Nat) (xs ys : List Nat) (hcx : ZU xs) (hcy : ZU ys) (hle : val xs < val ys) (hlx : xs.length <= 536870912) (hly : ys.length <= 536870912) (z : Int) (HZV : Hid (z = if n2 then -((val ys - val xs : Nat) : Int) else ((val ys - val xs : Nat) : Int))) (w : World) (h : Zm w A c xs) (g : Zm w B d ys) :
   Calls Tryz.prog 238 #[.agg #[.bool n1, .slice A xs.length c], .agg #[.bool n2, .slice B ys.length d]] w (ZY w.heap.size w z) := by
 have hlen : xs.length <= ys.length := len_of_val h.limbs g.limbs hcx (by omega)
 have HLE := Hd (show val xs <= val ys by omega)
 have px := ((Zr.new w 24 (.bool n1) (.slice A xs.length c)).alloc (.cells #[.bool n2, .slice B ys.length d] 24)).alloc (.cells #[.bool false, .slice none 0 0] 24)
 have py := (Zr.new (w.alloc (.cells #[.bool n1, .slice A xs.length c] 24)) 24 (.bool n2) (.slice B ys.length d)).alloc (.cells #[.bool false, .slice none 0 0] 24)
 have pr := Zr.new ((w.alloc (.cells #[.bool n1, .slice A xs.length c] 24)).alloc (.cells #[.bool n2, .slice B ys.length d] 24)) 24 (.bool false) (.slice none 0 0)
 have rx := (((h.alloc (.cells #[.bool n1, .slice A xs.length c] 24)).alloc (.cells #[.bool n2, .slice B ys.length d] 24)).alloc (.cells #[.bool false, .slice none 0 0] 24))
 have ry := (((g.alloc (.cells #[.bool n1, .slice A xs.length c] 24)).alloc (.cells #[.bool n2, .slice B ys.length d] 24)).alloc (.cells #[.bool false, .slice none 0 0] 24))
 have b0 := (((Below.refl w.heap.size w).alloc (Nat.le_refl _) (.cells #[.bool n1, .slice A xs.length c] 24)).alloc (by simp) (.cells #[.bool n2, .slice B ys.length d] 24)).alloc (by simp; omega) (.cells #[.bool false, .slice none 0 0] 24)
 simp only [World.size_alloc] at py pr
 clear h g
 go_enter Tryz.func238, Tryz.ntmps238
 go_wp2_with fail
 obtain ⟨W, E⟩ : ∃ W, W = ((w.alloc (.cells #[.bool n1, .slice A xs.length c] 24)).alloc (.cells #[.bool n2, .slice B ys.length d] 24)).alloc (.cells #[.bool false, .slice none 0 0] 24) := ⟨_, rfl⟩
 rw [<- E] at px py pr b0 rx ry ⊢
 clear E
 have PX := Hd px
 have PY := Hd py
 have PR := Hd pr
 have B0 := Hd b0
 have RX := Hd rx
 have RY := Hd ry
 have hlr := pr.blk.lt
 have hsz := b0.size
 obtain ⟨l1, x0, x1, -, -⟩ := px.facts
 obtain ⟨l2, y0, y1, -, -⟩ := py.facts
 clear px py pr rx ry b0
 have C0 := Hd (fun (V : World) (hV : Below W.heap.size W V) => Xi A B c d xs ys hcx hcy (by omega) (by omega) V (RX.out.below hV) (RY.out.below hV))
 have C1 := Hd (fun (V : World) (hV : Below W.heap.size W V) => exact_sub B A d c ys xs hlen HLE.out (by omega) V (RY.out.below hV) (RX.out.below hV))
 have C2 := Hd (fun (V : World) (v : Value) (hV : XF V W.heap.size v (val ys - val xs) ys.length) => show Calls Tryz.prog 161 #[.bool n2, v] V (ZY W.heap.size V z) from by rw [HZV.out]; exact Y4 n2 v _ _ _ V hV)
 refine (C0.out W (Below.refl _ _)).mono ?_
 rintro e wz ⟨k, rfl, hk, hbz⟩
 have HW := Hd hbz
 have hk2 := hk.2 hle
 have hdk : decide ((0 : Int) <= k) = false := by simp; omega
 obtain ⟨-, xz0, xz1, -, -⟩ := (PX.out.below hbz).facts
 obtain ⟨-, yz0, yz1, -, -⟩ := (PY.out.below hbz).facts
 clear hk hbz C0 hle hcx hcy hne
 go_wp2_with fail
 refine YS [.val (.pointer (some ⟨w.heap.size + 1, 0, none⟩)), .val (.bool n2), .val (.pointer (some ⟨w.heap.size + 1, 1, none⟩)), .val (.slice B ys.length d), .val (.pointer (some ⟨w.heap.size, 1, none⟩)), .val (.slice A xs.length c), .step, .step, .step] 2 3 W
   (fun us V => match us with
     | [] => True
     | [va] => XF V W.heap.size va (val ys - val xs) (ys.length)
     | [_, vb] => Zc V W.heap.size vb z
     | _ => False)
   (fun _ V => ∃ A1 c1, Zc V W.heap.size (.agg #[.bool (decide (z < 0)), .slice A1 (Za z.natAbs).length c1]) z /\ Zr V (w.heap.size + 1 + 1) 24 (.bool (decide (z < 0))) (.slice A1 (Za z.natAbs).length c1) /\ Below w.heap.size w V)
   _ Zf ?_ ?_ ?_ ?_ ?_ ?_ ?_ ?_ ?_ rfl ?_ HW.out trivial ?_ ?_ ?_
 iterate 9 kernel_rfl
 . intro us V V' hg hb
   match us, hg with
   | [], _ => trivial
   | [va], hg => exact hg.below hb
   | [va, vb], hg => exact hg.below hb
 . simp [XD, ZO, ZF, Zn, Yc]
   repeat' apply And.intro
   all_goals
     intro V hV
     obtain ⟨-, e0, e1, -, -⟩ := (PX.out.below hV).facts
     obtain ⟨-, f0, f1, -, -⟩ := (PY.out.below hV).facts
     clear hV
     go_simp
     exact Below.refl _ _
 . simp [Y1, ZO, ZF, Zn, Yc, Yp, List.filter, Ks.isStep]
   refine ⟨fun V hV => ?_, fun va => ⟨fun V hV hva => ?_, fun vb V hV hvb => ?_⟩⟩
   . go_simp
     refine (C1.out V hV).mono ?_
     rintro e w' ⟨v, rfl, hv, hb⟩
     exact ⟨Zb hV hb, hv.base hV.size⟩
   . go_simp
     refine (C2.out V va hva).mono ?_
     rintro e w' ⟨v, rfl, hv, hb⟩
     exact ⟨Zb hV hb, hv⟩
   . obtain ⟨A1, c1, rfl, -⟩ := hvb.form
     have pr := PR.out.below hV
     obtain ⟨p1, p2, p3, p4, p5⟩ := pr.facts
     go_simp
     exact ⟨A1, c1, hvb.pair (by omega), pr.store _ _, ZW (Zb B0.out hV) (by omega) _ _⟩
 . intro us V hus hF
   simp only [show ¬ (3 <= 2) by decide, if_false] at hF
   obtain ⟨A1, c1, hI, pr, hb⟩ := hF
   obtain ⟨u0, u1, u2, rfl⟩ : ∃ u0 u1 u2, us = [u0, u1, u2] := by
     match us, hus with
     | [u0, u1, u2], _ => exact ⟨u0, u1, u2, rfl⟩
   simp [ZO, ZF, Zn, Yc, Yp, List.filter, Ks.isStep]
   obtain ⟨_, k0, k1, _, _⟩ := pr.facts
   clear PX PY RX RY l1 x0 x1 l2 y0 y1 xz0 xz1 yz0 yz1
   go_wp2_with fail
   exact bodyPost_ret (by simp [results, Tryz.results238, go_sem, k0, k1]) rfl ⟨_, rfl, hI.base hsz, hb⟩

theorem exact_Plus (n1 n2 : Bool) (A B : Option Addr) (c d : Nat) (xs ys : List Nat) (hcx : ZU xs) (hcy : ZU ys) (hlx : xs.length <= 536870912) (hly : ys.length <= 536870912) (w : World) (h : Zm w A c xs) (g : Zm w B d ys) :
   Calls Tryz.prog 238 #[.agg #[.bool n1, .slice A xs.length c], .agg #[.bool n2, .slice B ys.length d]] w (ZY w.heap.size w (Zv n1 xs + Zv n2 ys)) := by
 by_cases hn : (n1 == n2) = true
 . obtain rfl : n1 = n2 := by simpa using hn
   exact exact_Plus_like n1 A B c d xs ys hlx hly _ (by unfold Zv; show _ = _; cases n1 <;> simp <;> omega) w h g
 . have hn' : (n1 == n2) = false := by simpa using hn
   have hn2 : n2 = !n1 := by cases n1 <;> cases n2 <;> simp_all
   by_cases hle : val ys <= val xs
   . exact exact_Plus_x n1 n2 hn' A B c d xs ys hcx hcy hle hlx hly _ (by unfold Zv; show _ = _; subst hn2; cases n1 <;> simp <;> omega) w h g
   . exact exact_Plus_y n1 n2 hn' A B c d xs ys hcx hcy (by omega) hlx hly _ (by unfold Zv; show _ = _; subst hn2; cases n1 <;> simp <;> omega) w h g

theorem keep_of {W w' : World} (q : Below W.heap.size W w') : Below W.heap.size W w' /\ ∀ b o, b < W.heap.size -> w'.cell? ⟨b, o, none⟩ = W.cell? ⟨b, o, none⟩ :=
 ⟨q, fun b o h => q.cell (p := ⟨b, o, none⟩) h⟩


theorem bits_Lead (t b : Nat) (ht : t < 4294967296) (hb : b = 32 - Lib.bitLen t) (hb2 : Lib.bitLen t <= 32) (w : World) :
  Calls Tryz.prog 252 #[.int .u32 t] w fun e w' => e = .returned (.int .i64 b) /\ w = w' := by
 refine (Tryz.bits_LeadingZeros32 t w (by omega) (by omega)).mono ?_
 rintro e w' ⟨rfl, rfl⟩
 refine ⟨?_, rfl⟩
 rw [Int.toNat_natCast, hb]
 have : (32 : Int) - (Lib.bitLen t : Int) = ((32 - Lib.bitLen t : Nat) : Int) := by omega
 rw [this]
theorem bitLen32 (t : Nat) (ht : t < 4294967296) (h0 : t ≠ 0) : Lib.bitLen t <= 32 /\ 1 <= Lib.bitLen t /\ 2 ^ Lib.bitLen t <= 2 * t /\ t < 2 ^ Lib.bitLen t := by
 have h1 : t < 2 ^ Lib.bitLen t := bla_lt 64 t (by omega)
 have hpos : 1 <= Lib.bitLen t := by
   rcases Nat.eq_zero_or_pos (Lib.bitLen t) with h | h
   . rw [h] at h1; omega
   . exact h
 have h2 := bla_ge 64 t (Lib.bitLen t - 1) (by show Lib.bitLen t - 1 < Lib.bitLen t; omega)
 have e : 2 ^ Lib.bitLen t = 2 * 2 ^ (Lib.bitLen t - 1) := by
   rw [<- Nat.pow_succ', show (Lib.bitLen t - 1).succ = Lib.bitLen t by omega]
 refine ⟨?_, hpos, by omega, h1⟩
 rcases Nat.lt_or_ge 32 (Lib.bitLen t) with h | h
 . have : 2 ^ 32 <= 2 ^ (Lib.bitLen t - 1) := Nat.pow_le_pow_right (by omega) (by omega)
   omega
 . exact h

theorem cut_top {zd : List Nat} {k : Nat} (h : zd.length = k + 1) (hl : Zj zd) (hv : val zd < 4294967296 ^ k) : ∃ ds, zd = ds ++ [0] /\ ds.length = k /\ Zj ds /\ val ds = val zd := by
 have e := List.take_append_drop k zd
 have e2 : zd.drop k = [zd[k]] := by
  rw [List.drop_eq_getElem_cons (by omega), List.drop_of_length_le (by omega)]
 have hv2 := Zx (xs := zd) (k := k) (by omega)
 rw [List.take_of_length_le (by omega)] at hv2
 have h0 : zd[k] = 0 := by
  rcases Nat.eq_zero_or_pos zd[k] with h | h
  . exact h
  . exfalso
    have := Nat.le_mul_of_pos_right (4294967296 ^ k) h
    generalize 4294967296 ^ k = P at *
    omega
 rw [h0, Nat.mul_zero, Nat.add_zero] at hv2
 rw [h0] at e2
 refine ⟨zd.take k, by rw [<- e2, e], by simp [List.length_take]; omega, YG hl k, hv2.symm⟩
theorem top_big {ds : List Nat} {k : Nat} (h : ds.length = k + 1) (hl : Zj ds) (hv : 2147483648 * 4294967296 ^ k <= val ds) : 2147483648 <= ds[k] := by
 have hv2 := Zx (xs := ds) (k := k) (by omega)
 rw [List.take_of_length_le (by omega)] at hv2
 have h1 := Y7 (YG hl k)
 rw [List.length_take, Nat.min_eq_left (by omega)] at h1
 generalize ds[k] = t at *
 rcases Nat.lt_or_ge t 2147483648 with h2 | h2
 . exfalso
   have h3 := Nat.mul_le_mul_left (4294967296 ^ k) (show t + 1 <= 2147483648 from h2)
   rw [Nat.mul_add, Nat.mul_one, Nat.mul_comm _ 2147483648] at h3
   generalize 4294967296 ^ k * t = a at *
   generalize 4294967296 ^ k = P at *
   omega
 . exact h2
theorem split3 (zs : List Nat) (i n : Nat) (h : i + n <= zs.length) : ∃ pre ps post, zs = pre ++ ps ++ post /\ pre.length = i /\ ps.length = n :=
 ⟨zs.take i, (zs.drop i).take n, (zs.drop i).drop n, by rw [List.append_assoc, List.take_append_drop, List.take_append_drop], by simp [List.length_take]; omega, by simp [List.length_take]; omega⟩

theorem Jp {w0 w : World} {row : Option Nat} (h : w0.grownBy w row) (n : Nat) : w0.grownBy (w.drewN n) row := ⟨h.os, h.tape, h.output, h.size, h.block⟩

theorem down_digit (N n : Nat) : (N : Int) / 2 ^ n % 4294967296 = ((N / 2 ^ n % 4294967296 : Nat) : Int) := by simp
theorem YJ.far {w : World} {g : Nat} {zs : List Nat} (h : YJ w g zs) {p : Addr} (hp : g ≠ p.block) (u : Value) : YJ (w.setCell p u) g zs := ⟨h.blk.far hp u⟩

structure JS (w wr : World) (gl gq gd : Nat) (zs qs ds : List Nat) : Prop where
 rl : YJ wr gl zs
 rq : YJ wr gq qs
 rd : YJ wr gd (ds ++ [0])
 low : Below w.heap.size w wr
 nlq : gl ≠ gq
 ndq : gd ≠ gq
 nld : gl ≠ gd
 bl : w.heap.size <= gl
 bq : w.heap.size <= gq
section
variable {w wr wr' : World} {gl gq gd : Nat} {zs qs ds : List Nat}
theorem JS.stays (h : JS w wr gl gq gd zs qs ds) (hg : wr.grownBy wr' none) : JS w wr' gl gq gd zs qs ds :=
 ⟨h.rl.stays hg (by simp), h.rq.stays hg (by simp), h.rd.stays hg (by simp), h.low.grown hg h.low.size (fun k hk => by cases hk), h.nlq, h.ndq, h.nld, h.bl, h.bq⟩
theorem JS.lessed {zs' : List Nat} (h : JS w wr gl gq gd zs qs ds) (hg : wr.grownBy wr' (some gl)) (hr : YJ wr' gl zs') : JS w wr' gl gq gd zs' qs ds :=
 ⟨hr, h.rq.stays hg (by have := h.nlq; simp; omega), h.rd.stays hg (by have := h.nld; simp; omega), h.low.grown hg h.low.size (fun k hk => by injection hk with hk; rw [<- hk]; exact h.bl), h.nlq, h.ndq, h.nld, h.bl, h.bq⟩
theorem JS.setq (h : JS w wr gl gq gd zs qs ds) (i d : Nat) : JS w (wr.setCell ⟨gq, i, none⟩ (.int .u32 (d : Int))) gl gq gd zs (qs.set i d) ds :=
 ⟨h.rl.far h.nlq _, h.rq.set i d, h.rd.far h.ndq _, h.low.setCell (p := ⟨gq, i, none⟩) h.bq _, h.nlq, h.ndq, h.nld, h.bl, h.bq⟩
theorem JS.setl {pre ps post : List Nat} (h : JS w wr gl gq gd (pre ++ ps ++ post) qs ds) {k : Nat} (hk : k < ps.length) (d : Nat) : JS w (wr.setCell ⟨gl, pre.length + k, none⟩ (.int .u32 (d : Int))) gl gq gd (pre ++ ps.set k d ++ post) qs ds :=
 ⟨h.rl.mid_set hk d, h.rq.far (Ne.symm h.nlq) _, h.rd.far (Ne.symm h.nld) _, h.low.setCell (p := ⟨gl, pre.length + k, none⟩) h.bl _, h.nlq, h.ndq, h.nld, h.bl, h.bq⟩
end

structure Dw (w wr : World) (gl gq gd r : Nat) (zl0 ds : List Nat) (Y k : Nat) (zs qs : List Nat) : Prop where
 dv : Dv zl0 zs qs Y k
 rows : JS w wr gl gq gd zs qs ds
 qlen : qs.length = r

structure Backed (w wv : World) (gl gq gd : Nat) (pre ps' post qs ds : List Nat) (k c : Nat) (ps'' : List Nat) : Prop where
 len : ps''.length = ps'.length
 limbs : Zj ps''
 rows : JS w wv gl gq gd (pre ++ ps'' ++ post) qs ds
 rest : ps''.drop k = ps'.drop k
 done : val (ps''.take k) + 4294967296 ^ k * c = val (ps'.take k) + val (ds.take k)
theorem Backed.step {w wv : World} {gl gq gd : Nat} {pre ps' post qs ds ps'' : List Nat} {k c : Nat} (h : Backed w wv gl gq gd pre ps' post qs ds k c ps'') (hk : k < ps'.length) (hkd : k < ds.length) (s : Nat) (hs : s = ps'[k] + ds[k] + c) :
  Backed w (wv.setCell ⟨gl, pre.length + k, none⟩ (.int .u32 ((s % 4294967296 : Nat) : Int))) gl gq gd pre ps' post qs ds (k + 1) (s / 4294967296) (ps''.set k (s % 4294967296)) := by
 have hk2 : k < ps''.length := by rw [h.len]; exact hk
 refine ⟨by simp [h.len], Yn h.limbs (Nat.mod_lt _ (by omega)), h.rows.setl hk2 _, J9 h.rest, ?_⟩
 rw [Z7 hk2, add_step (zs := ps''.take k) (k := k) (by rw [List.length_take]; omega) s h.done (ps'[k] + ds[k]) (by rw [hs]), Zx hk, Zx hkd, Nat.mul_add]
 omega
theorem back_val {F V U Y P g cc : Nat} (h1 : F + P * cc = V + Y) (h2 : V + g * Y = U + P) (hF : F < P) (hV : V < P) (hlow : g * Y < U + Y) (hcc : cc <= 1) : 1 <= g /\ F + (g - 1) * Y = U /\ F < Y := by
 have hg : 1 <= g := by
  rcases Nat.eq_zero_or_pos g with rfl | h
  . simp at h2; omega
  . exact h
 obtain ⟨g, rfl⟩ : ∃ g', g = g' + 1 := ⟨g - 1, by omega⟩
 rw [Nat.add_mul, Nat.one_mul] at h2 hlow
 have hc : cc = 1 := by
  rcases (by omega : cc = 0 ∨ cc = 1) with rfl | rfl
  . exfalso
    rw [Nat.mul_zero] at h1
    omega
  . rfl
 subst hc
 rw [Nat.mul_one] at h1
 simp only [Nat.add_sub_cancel]
 omega
theorem Backed.stop {w wv : World} {gl gq gd : Nat} {pre ps' post qs ds ps'' : List Nat} {c : Nat} (h : Backed w wv gl gq gd pre ps' post qs ds ds.length c ps'') (hl : ps'.length = ds.length + 1) (x : Nat) (hx : x = JU ps' ds.length) :
  (ps''.set ds.length ((x + c) % 4294967296)).length = ps'.length /\ Zj (ps''.set ds.length ((x + c) % 4294967296)) /\ JS w (wv.setCell ⟨gl, pre.length + ds.length, none⟩ (.int .u32 (((x + c) % 4294967296 : Nat) : Int))) gl gq gd (pre ++ ps''.set ds.length ((x + c) % 4294967296) ++ post) qs ds /\
   val (ps''.set ds.length ((x + c) % 4294967296)) + 4294967296 ^ (ds.length + 1) * ((x + c) / 4294967296) = val ps' + val ds := by
 have hk2 : ds.length < ps''.length := by rw [h.len]; omega
 have hk3 : ds.length < ps'.length := by omega
 refine ⟨by simp [h.len], Yn h.limbs (Nat.mod_lt _ (by omega)), h.rows.setl hk2 _, ?_⟩
 have e := Z7 (zs := ps'') (k := ds.length) (d := (x + c) % 4294967296) hk2
 rw [List.take_of_length_le (by simp [h.len]; omega)] at e
 have e3 := h.done
 rw [Z4 (xs := ds) (k := ds.length) (Nat.le_refl _)] at e3
 have e2 := Zx hk3
 rw [List.take_of_length_le (by omega), <- Yk hk3, <- hx] at e2
 rw [e, add_step (zs := ps''.take ds.length) (k := ds.length) (by rw [List.length_take]; omega) (x + c) e3 x rfl, e2]
 omega


theorem exact_divide (A B : Option Addr) (c d : Nat) (xs ys : List Nat) (m k r : Nat) (hkm : k = m + 1) (hxl : xs.length = k + r) (hr : 1 <= r) (hyl : ys.length = k + 1) (h0 : JU ys k ≠ 0) (hl : xs.length <= 536870912) (w : World) (h : Zm w A c xs) (g : Zm w B d ys) :
  Calls Tryz.prog 222 #[.slice A (k + r) c, .slice B (k + 1) d] w fun e w' => ∃ gl gq cl zl zq, e = .returned (.tuple #[.slice (some ⟨gq, 0, none⟩) zq.length zq.length, .slice (some ⟨gl, 0, none⟩) zl.length cl]) /\ gl ≠ gq /\ w.heap.size <= gl /\ w.heap.size <= gq /\ YJ w' gq zq /\ Yg w' gl cl zl /\ Zj zq /\ Zj zl /\ val zq = val xs / val ys /\ val zl = val xs % val ys /\ zq.length <= xs.length /\ zl.length = ys.length /\ cl <= 9223372036854775807 /\ Below w.heap.size w w' := by
 have HX := Hd h
 have HY := Hd g
 have HLX := Hd h.limbs
 have hc := h.cap
 have hm := h.most
 have hd := g.cap
 have hn := g.most
 rw [Yk (by omega)] at h0
 obtain ⟨ad, rfl, hbl, hcell⟩ := g.reads.get (k := k) (by omega)
 have hbk : (ad.add k).block < w.heap.size := by rw [Z9]; exact hbl
 have hty := Zs g.limbs (k := k) (by omega)
 obtain ⟨b1, b2, b3, b4⟩ := bitLen32 _ hty h0
 have hL := lifted (n := 32 - Lib.bitLen ys[k]) (m := k) g.limbs (by omega) (Lib.bitLen ys[k]) (by omega) b3 b4 b2
 have C0 := Hd (fun V => bits_Lead ys[k] _ hty rfl b1 V)
 generalize hnn : 32 - Lib.bitLen ys[k] = n at hL C0
 have hn31 := hL.hn
 have HL := Hd hL
 generalize ys[k] = t at hcell C0 hty
 have C1 := Hd (fun (V : World) (hV : Below w.heap.size w V) => by have := exact_up A c n xs hn31 (by omega) V (HX.out.below hV); rwa [hxl] at this)
 have C2 := Hd (fun (V : World) (hV : Below w.heap.size w V) => by have := exact_up (some ad) d n ys hn31 (by omega) V (HY.out.below hV); rwa [hyl] at this)
 clear h g h0 b1 b2 b3 b4 hL hnn
 rw [hxl] at hc hl
 rw [hyl] at hd
 have hkm2 : (k : Int) + 1 - 2 = (m : Int) := by omega
 have HKM := Hd hkm
 have HXL := Hd hxl
 have HYL := Hd hyl
 have hmax : max 0 ((k : Int) + (r : Int) + 1 - ((k : Int) + 1)) = (r : Int) := by omega
 have hs0 : (0 : Int) <= (k : Int) + 1 := by omega
 have hs1 : (k : Int) + 1 <= (k : Int) + 1 + 1 := by omega
 clear hkm hxl hyl
 obtain ⟨i0, hi, hz0, hz1, hz2⟩ := info_parts YC
 have hmk : ∀ W : World, (Instr.makeSlice 22 (.int .i64 (r : Int)) (.int .i64 (r : Int))).run Tryz.prog W = .ok (.slice (some ⟨W.heap.size, 0, none⟩) r r) (W.alloc (.cells (madeCells #[.int .u32 0] r) 109)) := fun W => by
  have h := Ye (P := Tryz.prog) 22 109 i0 _ Tryz.underlying22 hi hz0 .i64 .i64 r r (by omega) (by rw [hz2]; omega) (by omega) W
  rw [hz1, Nat.mul_one] at h
  exact h
 go_enter Tryz.func222, Tryz.ntmps222
 go_wp2_with fail
 go_step3
 go_wp2_with (first | (go_at_call 252; with_reducible refine (C0.out _).mono ?_; rintro e w' ⟨rfl, rfl⟩))
 go_upto_region 2 with fail
 go_cut [1, 7] (fun s1 s7 wx => ∃ gl gd, s7 = .slice (some ⟨gl, 0, none⟩) (k + r + 1) (k + r + 1) /\ s1 = .slice (some ⟨gd, 0, none⟩) (k + 1) (k + 1 + 1) /\ w.heap.size <= gl /\ gl < gd /\ Below w.heap.size w wx /\
  Hid (∃ zs, zs.length = k + r + 1 /\ Zj zs /\ val zs = val xs * 2 ^ n /\ YJ wx gl zs) /\ Hid (∃ zs, zs.length = k + 1 + 1 /\ Zj zs /\ val zs = val ys * 2 ^ n /\ YJ wx gd zs))
 case first =>
  have qq : Below w.heap.size w w := Below.refl _ _
  clear hmk hz0 hz1 hz2 hi
  go_region_held3 (fun w' => Below w.heap.size w w' /\ ∀ b o, b < w.heap.size -> w'.cell? ⟨b, o, none⟩ = w.cell? ⟨b, o, none⟩)
   (((with_reducible refine keep_of ?_); (repeat' (with_reducible first | exact qb | exact qa | exact qq | refine Below.drew ?_))))
   (first
   | (go_at_call 253
      with_reducible refine (C1.out _ ?_).mono ?_
      with_reducible first | exact qq.drew
      rintro e wa ⟨gl, zl, rfl, n1, l1, m1, v1, r1, hba⟩
      have qa : Below w.heap.size w wa := by with_reducible first | exact Zb qq.drew hba)
   | (go_at_call 253
      with_reducible refine (C2.out _ ?_).mono ?_
      with_reducible first | exact qa
      rintro e wb ⟨gd, zd, rfl, n2, l2, m2, v2, r2, hbb⟩
      have qb : Below w.heap.size w wb := by with_reducible first | exact Zb qa hbb))
  all_goals (go_wp2_with fail; go_meet)
  all_goals exact ⟨gl, gd, rfl, rfl, n1, by have := r1.lt; omega, qb, Hd ⟨zl, l1, m1, v1, r1.below hbb⟩, Hd ⟨zd, l2, m2, v2, r2⟩⟩
 case rest =>
  obtain ⟨gl, gd, rfl, rfl, hgl, hgd, hb, HL0, HD0⟩ := hcut
  clear hcell hbk hbl C0 C1 C2 HX HY
  obtain ⟨zl0, hl1, hl2, hl3, hl4⟩ := HL0.out
  obtain ⟨zd, hd1, hd2, hd3, hd4⟩ := HD0.out
  clear HL0 HD0
  obtain ⟨ds, rfl, hdl, hdm, hdv⟩ := cut_top hd1 hd2 (by rw [hd3]; exact HL.out.high)
  rw [hd3] at hdv
  have htop := top_big hdl hdm (by rw [hdv]; exact HL.out.low)
  have hdc := hd4.head_cell (k := k) (by omega)
  have hgdlt := hd4.lt
  have hbt := Zs hdm (k := k) (by omega)
  rw [<- Yk (by omega)] at htop hdc hbt
  have I0 : Dw w (wc.alloc (.cells (madeCells #[.int .u32 0] r) 109)) gl wc.heap.size gd r zl0 ds (val ys * 2 ^ n) r zl0 (List.replicate r 0) :=
   ⟨by have := Dv.start HL.out (xs := xs) (zl0 := zl0) HLX.out (by rw [HXL.out]; omega) (by rw [HXL.out]; exact hl1) hl2 hl3 (List.replicate r 0) (Yr _) (by rw [HXL.out]; simp); rw [HXL.out, Nat.add_sub_cancel_left] at this; exact this, ⟨hl4.alloc _, YJ.made _ _, hd4.alloc _, hb.alloc hb.size _, by have := hl4.lt; omega, by omega, by omega, hgl, hb.size⟩, by simp⟩
  have H0 := Hd (⟨_, _, I0⟩ : ∃ zs qs, Dw w (wc.alloc (.cells (madeCells #[.int .u32 0] r) 109)) gl wc.heap.size gd r zl0 ds (val ys * 2 ^ n) r zs qs)
  have HDL := Hd hdl
  have HDM := Hd hdm
  have HDV := Hd hdv
  have HTOP := Hd htop
  have HL1 := Hd hl1
  have HL2 := Hd hl2
  have HL3 := Hd hl3
  have HNE : gl ≠ wc.heap.size /\ gd ≠ wc.heap.size /\ gl ≠ gd /\ w.heap.size <= wc.heap.size := by have := hl4.lt; have := hb.size; omega
  have htop0 : (0 : Int) < ((JU ds k : Nat) : Int) := by omega
  generalize htt : JU ds k = tp at htop hdc hbt HTOP htop0
  have HTT := Hd htt
  clear I0 hd4 hl1 hl2 hl3 hl4 hdl hdm hdv hd1 hd2 hd3 htop htt
  go_wp2_with fail
  go_step3
  go_wp2_with fail
  have HGL : Hid (w.heap.size <= gl /\ w.heap.size <= gd) := Hd ⟨hgl, by omega⟩
  clear hmax hs0 hs1 hmk hdc hgdlt hb hgl hgd
  generalize wc.heap.size = gq at HNE H0
  go_loopw [10] (fun s wr => ∃ (j : Nat) (i : Int), s = .int .i64 i /\ i = (j : Int) - 1 /\ j <= r /\ Hid (∃ zs qs, Dw w wr gl gq gd r zl0 ds (val ys * 2 ^ n) j zs qs)) (fun s _ => (intOf s + 1).toNat)
  case atStart => exact ⟨r, _, rfl, rfl, Nat.le_refl _, H0⟩
  case round =>
   obtain ⟨j, i, rfl, hij, hj, HR⟩ := hrel
   clear H0
   obtain ⟨zs, qs, hdw⟩ := HR.out
   clear HR
   cases j with
   | zero =>
    obtain rfl : i = -1 := by omega
    clear hij
    obtain ⟨z1, z2⟩ := hdw.dv.stop HL3.out
    obtain ⟨zl, hzl, hzlen, hzm, hzv⟩ : ∃ zl, zs = zl ++ zs.drop (k + 1) /\ zl.length = k + 1 /\ Zj zl /\ val zl = val xs % val ys * 2 ^ n := by
       have hlt := hdw.dv.lt
       simp only [List.drop_zero] at hlt
       have hlen := hdw.dv.len
       rw [HL1.out] at hlen
       have e := val_part zs (k + 1) (by omega)
       refine ⟨zs.take (k + 1), (List.take_append_drop _ _).symm, by rw [List.length_take]; omega, YG hdw.dv.limbs _, ?_⟩
       rw [<- z2, e]
       rcases Nat.eq_zero_or_pos (val (zs.drop (k + 1))) with h | h
       . rw [h, Nat.mul_zero]; rfl
       . exfalso
         have h3 := Nat.le_mul_of_pos_right (4294967296 ^ (k + 1)) h
         have := HL.out.high
         omega
    have fr : Yg wr gl (k + r + 1) zl := by
       have e := hdw.rows.rl.front
       rw [hdw.dv.len, HL1.out] at e
       have := e.cut (k + 1)
       have e3 : zs.take (k + 1) = zl := by rw [hzl, List.take_left' hzlen]
       rwa [e3] at this
    have D0 := Hd (⟨zl, Jx.start zl hzm n, fr, hdw.rows.rq, hdw.rows.low⟩ : ∃ zt, Jx zl zt n 0 /\ Yg wr gl (k + r + 1) zt /\ YJ wr gq qs /\ Below w.heap.size w wr)
    have HZM := Hd hzm
    have HZV := Hd hzv
    have HZ1 := Hd z1
    have HQL := Hd (And.intro hdw.qlen hdw.dv.limbsq)
    have HZL := Hd hzlen
    have hs0 : (0 : Int) <= (k : Int) + 1 := by omega
    have hs1 : (k : Int) + 1 <= (k : Int) + (r : Int) + 1 := by omega
    clear hzl z1 z2 fr hdw hzm hzv hzlen
    go_wp2_with fail
    go_loopw [169] (fun s wv => ∃ kk : Nat, s = .int .i64 kk /\ kk <= k + 1 /\ Hid (∃ zt, Jx zl zt n kk /\ Yg wv gl (k + r + 1) zt /\ YJ wv gq qs /\ Below w.heap.size w wv)) (fun s _ => k + 1 - (intOf s).toNat)
    case atStart => exact ⟨0, rfl, by omega, D0⟩
    case round =>
       obtain ⟨kk, rfl, hkk, HR⟩ := hrel
       clear D0
       obtain ⟨zt, dn, fr, rq, lo⟩ := HR.out
       clear HR
       by_cases hlt : kk < k + 1
       . have hk1 : kk < zl.length := by rw [HZL.out]; exact hlt
         have hk2 : kk < zt.length := by rw [dn.len]; exact hk1
         have c1 := fr.cell hk2
         have f1 := fr.frozen kk
         have q1 := fr.lt
         rw [JE dn.rest hk2 hk1] at c1
         have x1 := Zs HZM.out hk1
         have st := dn.step HZM.out (by omega) hk1
         have x2 := JQ HZM.out (kk + 1)
         have c2 : kk + 1 < k + 1 -> wr.cell? ⟨gl, kk + 1, none⟩ = some (.int .u32 ((JU zl (kk + 1) : Nat) : Int)) := fun h => by
           have h1 : kk + 1 < zl.length := by rw [HZL.out]; exact h
           have h2 : kk + 1 < zt.length := by rw [dn.len]; exact h1
           have e := congrArg (List.drop 1) dn.rest
           rw [List.drop_drop, List.drop_drop] at e
           rw [fr.cell h2, JE e h2 h1, Yk h1]
         have hz : ¬ kk + 1 < k + 1 -> JU zl (kk + 1) = 0 := fun h => Je (by rw [HZL.out]; omega)
         have S := Hd (fun d => (⟨zt.set kk d, ·, fr.set hk2 d, rq.far (Ne.symm HNE.1) _, lo.setCell (p := ⟨gl, kk, none⟩) HGL.out.1 _⟩) : ∀ d, Jx zl (zt.set kk d) n (kk + 1) -> ∃ zt', Jx zl zt' n (kk + 1) /\ Yg (wr.setCell ⟨gl, kk, none⟩ (.int .u32 (d : Int))) gl (k + r + 1) zt' /\ YJ (wr.setCell ⟨gl, kk, none⟩ (.int .u32 (d : Int))) gq qs /\ Below w.heap.size w (wr.setCell ⟨gl, kk, none⟩ (.int .u32 (d : Int))))
         have S2 := Hd (S.out _ st)
         generalize zl[kk] = x at c1 x1 S2
         generalize JU zl (kk + 1) = y at c2 x2 hz S2
         have a0 : (0 : Int) <= (kk : Int) := by omega
         have a1 : (kk : Int) < (k : Int) + 1 := by omega
         have a3 : (n : Int) <= 64 := by omega
         clear S st dn fr rq lo
         by_cases hh : kk + 1 < k + 1
         . have c3 := c2 hh
           have a4 : (kk : Int) + 1 < (k : Int) + 1 := by omega
           have a5 : (0 : Int) <= (kk : Int) + 1 := by omega
           have ej := or_join y x x2 x1
           have en := down_digit (y * 4294967296 + x) n
           have hN : y * 4294967296 + x < 18446744073709551616 := by omega
           generalize (y * 4294967296 + x) / 2 ^ n % 4294967296 = d9 at en S2
           generalize y * 4294967296 + x = N at ej en hN
           have EN := Hd en
           clear c2 hz en
           go_wp2_with fail
           rw [EN.out]
           go_roundw
           case rel => exact ⟨kk + 1, by go_num, by omega, S2⟩
           case measure => simp [intOf]; omega
         . obtain rfl := hz hh
           have a4 : (k : Int) + 1 <= (kk : Int) + 1 := by omega
           have ej := or_join 0 x x2 x1
           have en := down_digit (0 * 4294967296 + x) n
           simp only [Int.ofNat_zero, Nat.zero_mul, Int.zero_mul, Nat.zero_add] at ej en S2
           generalize x / 2 ^ n % 4294967296 = d9 at en S2
           have EN := Hd en
           clear c2 hz en
           go_wp2_with fail
           rw [EN.out]
           go_roundw
           case rel => exact ⟨kk + 1, by go_num, by omega, S2⟩
           case measure => simp [intOf]; omega
       . obtain rfl : kk = k + 1 := by omega
         have e := dn
         rw [<- HZL.out] at e
         have hv := e.val_end HZM.out
         rw [HZV.out, Nat.mul_div_cancel _ (Nat.two_pow_pos n)] at hv
         have HV := Hd hv
         have HDN := Hd dn
         have HFR := Hd fr
         have HRQ := Hd rq
         have HLO := Hd lo
         clear e hv dn fr rq lo
         go_wp2_with fail
         rw [Exit.noGoto_ret]
         have hlen : zt.length = k + 1 := by rw [HDN.out.len, HZL.out]
         go_ret2
         exact ⟨gl, gq, k + r + 1, zt, qs, by rw [hlen, HQL.out.1]; rfl, HNE.1, HGL.out.1, HNE.2.2.2, HRQ.out, HFR.out, HQL.out.2, HDN.out.limbs, HZ1.out, HV.out, by rw [HQL.out.1, HXL.out]; omega, by rw [hlen, HYL.out], by omega, HLO.out⟩
   | succ i0 =>
    obtain rfl : i = (i0 : Int) := by omega
    clear hij
    obtain ⟨pre, ps, post, rfl, hpre, hps⟩ := split3 zs i0 (k + 2) (by rw [hdw.dv.len, HL1.out]; omega)
    subst hpre
    obtain ⟨p1, p2, p3, p4⟩ := hdw.dv.part rfl (D := k + 1) hps HL.out.high
    have HP := Hd (And.intro p1 p4)
    have hpl : pre.length + (k + 1) + 1 - pre.length = k + 1 + 1 := by omega
    have HDW := Hd hdw
    have a0 : (0 : Int) <= (pre.length : Int) := by omega
    have a1 : (pre.length : Int) <= (pre.length : Int) + ((k : Int) + 1) + 1 := by omega
    have a2 : (pre.length : Int) + ((k : Int) + 1) + 1 <= (k : Int) + (r : Int) + 1 := by omega
    go_wp2_with fail
    have c1 := hdw.rows.rl.mid_cell (k := k + 1) (by omega)
    have c2 := hdw.rows.rl.mid_cell (k := k) (by omega)
    have c3 := hdw.rows.rl.mid_cell (k := m) (by have := HKM.out; omega)
    have d3 := hdw.rows.rd.head_cell (k := m) (by rw [HDL.out]; have := HKM.out; omega)
    have hgl2 := hdw.rows.rl.lt
    have hgd2 := hdw.rows.rd.lt
    rw [<- Yk (by omega)] at c1 c2
    rw [<- Yk (by have := HKM.out; omega)] at c3
    rw [<- Yk (by have := HKM.out; have := HDL.out; omega)] at d3
    have t1 := JQ p3 (k + 1)
    have t2 := JQ p3 k
    have t3 := JQ p3 m
    have t4 := JQ HDM.out m
    have hdg : Yo tp (JU ds m) (4294967296 ^ m) (val (ds.take m)) (JU ps (k + 1) * 4294967296 + JU ps k) (JU ps m) (val (ps.take m)) (val ds) (val ps) := by
       have e := HKM.out
       subst e
       have hd1 := HDL.out
       have := digits_of (ds := ds) (ps := ps) (m := m) (by omega) (by omega) HDM.out p3 (by rw [<- Yk (by omega), HTT.out]; exact HTOP.out) (by rw [HDV.out]; exact p2)
       rw [<- Yk (by omega), HTT.out, <- Yk (by omega), <- Yk (by omega), <- Yk (by omega), <- Yk (by omega)] at this
       exact this
    generalize JU ps (k + 1) = uh at c1 t1 hdg
    generalize JU ps k = ul at c2 t2 hdg
    generalize JU ps m = u2 at c3 t3 hdg
    generalize JU ds m = d2 at d3 t4 hdg
    have ej := or_join uh ul t1 t2
    have hMb : uh * 4294967296 + ul < 18446744073709551616 := by omega
    generalize hM : uh * 4294967296 + ul = M at ej hdg hMb
    have G0 := Hd hdg.guess0
    have hdiv : (M : Int) / (tp : Int) = ((M / tp : Nat) : Int) := by rw [<- Int.natCast_ediv]
    have hmod : (M : Int) % (tp : Int) = ((M % tp : Nat) : Int) := by rw [<- Int.natCast_emod]
    have hq0 : M / tp < 18446744073709551616 := Nat.lt_of_le_of_lt (Nat.div_le_self _ _) hMb
    have hr0 : M % tp < tp := Nat.mod_lt _ (by omega)
    generalize M / tp = g0 at hdiv G0 hq0
    generalize M % tp = r0 at hmod G0 hr0
    have hq0' : (g0 : Int) < 18446744073709551616 := by omega
    have HDG := Hd hdg
    clear hM hdg p1 p2 p3 p4
    clear hdw
    go_quiet (fail)
    go_wp2_with fail
    go_quiet (fail)
    go_upto_block 2 with fail
    rw [hpl, hmod]
    have hg1 : ∀ V : World, wr.grownBy V none -> YJ V gl (pre ++ ps ++ post) /\ YJ V gd (ds ++ [0]) := fun V hV => ⟨HDW.out.rows.rl.stays hV (by simp), HDW.out.rows.rd.stays hV (by simp)⟩
    go_cut [13] (fun s wx => ∃ g : Nat, s = .int .u64 g /\ wr.grownBy wx none /\ Hid (Guessed (val ds) (val ps) g))
    case first =>
       go_wp2_with fail
       go_loopw [13, 14] (fun s t wv => ∃ g rr : Nat, s = .int .u64 g /\ t = .int .u64 rr /\ g < 18446744073709551616 /\ wr.grownBy wv none /\ Hid (Guess tp M (val ds) (val ps) g rr)) (fun s _ _ => (intOf s).toNat)
       case atStart => exact ⟨g0, r0, rfl, rfl, hq0, ⟨rfl, rfl, rfl, Nat.le_refl _, fun _ _ _ => rfl⟩, G0⟩
       case round =>
         obtain ⟨g, rr, rfl, rfl, hgl64, hgx, HG⟩ := hrel
         have hrr := HG.out.small
         have c4 := hgx.cell c3 (by simp)
         have d4 := hgx.cell d3 (by simp)
         have hgl3 : gl < _ := Nat.lt_of_lt_of_le hgl2 hgx.size
         have hgd3 : gd < _ := Nat.lt_of_lt_of_le hgd2 hgx.size
         have ht : (rr : Int) + (tp : Int) < 18446744073709551616 := by omega
         clear G0 hdiv hmod hq0 hr0 c1 c2 c3 d3 hgl2 hgd2 ej hMb hq0' hpl
         by_cases hgB : 4294967296 <= g
         . obtain ⟨e1, e2, e3⟩ := HDG.out.down HG.out (.inl hgB)
           have hb1 : decide ((4294967296 : Int) <= (g : Int)) = true := by simp; omega
           have E2 := Hd e2
           have E3 := Hd e3
           have hg1 : (1 : Int) <= (g : Int) := by omega
           have hsub : (g : Int) - 1 = ((g - 1 : Nat) : Int) := by omega
           clear e2 e3
           by_cases hrB : 4294967296 <= rr + tp
           . have hb2 : decide ((4294967296 : Int) <= (rr : Int) + (tp : Int)) = true := by simp; omega
             go_wp2_with fail
             go_quiet (fail)
             go_wp2_with fail
             go_meet
             exact ⟨g - 1, rfl, Jp hgx _, Hd (E3.out hrB)⟩
           . have hb2 : decide ((4294967296 : Int) <= (rr : Int) + (tp : Int)) = false := by simp; omega
             go_wp2_with fail
             go_quiet (fail)
             go_wp2_with fail
             go_roundw
             case rel => exact ⟨g - 1, rr + tp, rfl, by simp, by omega, Jp hgx _, Hd (E2.out (by omega))⟩
             case measure => simp [intOf]; omega
         . have hb1 : decide ((4294967296 : Int) <= (g : Int)) = false := by simp; omega
           have hb0 : (g : Int) < 4294967296 := by omega
           have ej := or_join rr u2 hrr t3
           have hgd : g * d2 <= 4294967295 * 4294967295 := Nat.mul_le_mul (by omega) (by omega)
           have hgw : IntKind.u64.wrap ((g : Int) * (d2 : Int)) = ((g * d2 : Nat) : Int) := by
             rw [show (g : Int) * (d2 : Int) = ((g * d2 : Nat) : Int) by simp, IntKind.wrap_u64]; omega
           by_cases hc : rr * 4294967296 + u2 < g * d2
           . obtain ⟨e1, e2, e3⟩ := HDG.out.down HG.out (.inr hc)
             generalize rr * 4294967296 + u2 = N at ej hc
             generalize g * d2 = G at hgw hc hgd
             have hci : (N : Int) < (G : Int) := by omega
             have E2 := Hd e2
             have E3 := Hd e3
             have hg1 : (1 : Int) <= (g : Int) := by omega
             have hsub : (g : Int) - 1 = ((g - 1 : Nat) : Int) := by omega
             clear e2 e3 hc
             by_cases hrB : 4294967296 <= rr + tp
             . have hb2 : decide ((4294967296 : Int) <= (rr : Int) + (tp : Int)) = true := by simp; omega
               go_wp2_with fail
               go_quiet (fail)
               go_wp2_with fail
               go_meet
               exact ⟨g - 1, rfl, Jp hgx _, Hd (E3.out hrB)⟩
             . have hb2 : decide ((4294967296 : Int) <= (rr : Int) + (tp : Int)) = false := by simp; omega
               go_wp2_with fail
               go_quiet (fail)
               go_wp2_with fail
               go_roundw
               case rel => exact ⟨g - 1, rr + tp, rfl, by simp, by omega, Jp hgx _, Hd (E2.out (by omega))⟩
               case measure => simp [intOf]; omega
           . have HGS := Hd (HDG.out.stop HG.out (by omega) (by omega))
             generalize rr * 4294967296 + u2 = N at ej hc
             generalize g * d2 = G at hgw hc hgd
             have hci : decide (N < G) = false := by simp; omega
             clear hc
             go_wp2_with fail
             go_quiet (fail)
             go_wp2_with fail
             go_meet
             exact ⟨g, rfl, Jp hgx _, HGS⟩
    case rest =>
       obtain ⟨g, rfl, hgx, HG⟩ := hcut
       have hgB := HG.out.limb
       have hgB2 : (g : Int) < 4294967296 := by omega
       have rows1 := HDW.out.rows.stays hgx
       have C3 := exact_less gl gd (k + r + 1 - pre.length) (k + 1 + 1) g pre ps post ds [0] hgB (Ne.symm rows1.nld) (by have := HDL.out; omega) (by have := HDW.out.dv.limbs; rw [List.append_assoc, Yh, Yh] at this; exact this.2.1) HDM.out (by have := HDL.out; omega) _ rows1.rl rows1.rd
       rw [HDL.out] at C3
       have C4 := Hd C3
       have R1 := Hd rows1
       clear G0 hdiv hmod hq0 hr0 c1 c2 c3 d3 hgl2 hgd2 ej hMb hq0' hg1 C3 rows1
       go_wp2_with fail
       refine C4.out.mono ?_
       rintro e w1 ⟨ps', nn, rfl, l1, l2, r1, g1, v1⟩
       have rows2 := R1.out.lessed g1 r1
       have hiq : pre.length < qs.length := by rw [HDW.out.qlen]; omega
       have hiq2 : (pre.length : Int) < (r : Int) := by omega
       have qc := rows2.rq.cell hiq
       have qf := rows2.rq.frozen pre.length
       generalize qs[pre.length] = old at qc
       cases nn with
       | false =>
         rw [if_neg (by simp), Nat.mul_zero, Nat.add_zero] at v1
         have S := Hd (⟨pre ++ ps' ++ post, qs.set pre.length g, HDW.out.dv.step rfl (D := k + 1) hps HL.out.high l1 l2 hgB (by rw [<- HDV.out]; exact v1) (by have := HG.out.high; rw [Nat.add_mul, Nat.one_mul] at this; rw [<- HDV.out]; omega) hiq, rows2.setq pre.length g, by simp [HDW.out.qlen]⟩ : ∃ zs qs, Dw w (w1.setCell ⟨gq, pre.length, none⟩ (.int .u32 (g : Int))) gl gq gd r zl0 ds (val ys * 2 ^ n) pre.length zs qs)
         clear rows2 l1 l2 r1 g1 v1 hps
         go_wp2_with fail
         go_roundw
         case rel => exact ⟨pre.length, _, rfl, rfl, by omega, S⟩
         case measure => simp [intOf]
       | true =>
         rw [if_pos rfl, Nat.mul_one] at v1
         have hps'B := Y7 l2
         rw [l1, hps] at hps'B
         have hg1 : 1 <= g := by
           rcases Nat.eq_zero_or_pos g with rfl | h
           . exfalso
             rw [Nat.zero_mul, Nat.add_zero] at v1
             exact absurd hps'B (by rw [v1]; exact Nat.not_lt.2 (Nat.le_add_left _ _))
           . exact h
         have hg1i : (1 : Int) <= (g : Int) := by omega
         have hsub : (g : Int) - 1 = ((g - 1 : Nat) : Int) := by omega
         have hsb : ((g - 1 : Nat) : Int) < 4294967296 := by omega
         have rows3 := rows2.setq pre.length (g - 1)
         have B0 := Hd (⟨ps', rfl, l2, rows3, rfl, by simp [val]⟩ : ∃ ps'', Backed w (w1.setCell ⟨gq, pre.length, none⟩ (.int .u32 ((g - 1 : Nat) : Int))) gl gq gd pre ps' post (qs.set pre.length (g - 1)) ds 0 0 ps'')
         have HV1 := Hd v1
         have HL2 := Hd l2
         have HL1' := Hd l1
         have HPB := Hd hps'B
         have HPS := Hd hps
         clear rows2 l1 l2 r1 g1 v1 hps hps'B rows3
         go_wp2_with fail
         go_loopw [15, 136] (fun t s wv => ∃ kk cc : Nat, s = .int .i64 kk /\ t = .int .u32 cc /\ cc <= 1 /\ kk <= k + 1 /\ Hid (∃ ps'', Backed w wv gl gq gd pre ps' post (qs.set pre.length (g - 1)) ds kk cc ps'')) (fun _ s _ => k + 1 - (intOf s).toNat)
         case atStart => exact ⟨0, 0, rfl, rfl, by omega, by omega, B0⟩
         case round =>
           obtain ⟨kk, cc, rfl, rfl, hcc, hkk, HR⟩ := hrel
           clear B0 qc qf
           obtain ⟨ps'', hbk⟩ := HR.out
           clear HR
           by_cases hlt : kk < k + 1
           . have hk2 : kk < ps''.length := by rw [hbk.len, HL1'.out, HPS.out]; omega
             have hk3 : kk < ps'.length := by rw [HL1'.out, HPS.out]; omega
             have hk4 : kk < ds.length := by rw [HDL.out]; omega
             have a0 : (0 : Int) <= (kk : Int) := by omega
             have a1 : (kk : Int) < (k : Int) + 1 := by omega
             have a2 : (kk : Int) < (k : Int) + 1 + 1 := by omega
             have c1 := hbk.rows.rl.mid_cell hk2
             have c2 := hbk.rows.rd.head_cell hk4
             have f1 := hbk.rows.rl.frozen (pre.length + kk)
             have q1 := hbk.rows.rl.lt
             have q2 := hbk.rows.rd.lt
             rw [JE hbk.rest hk2 hk3] at c1
             have x1 := Zs HL2.out hk3
             have x2 := Zs HDM.out hk4
             have S := Hd (⟨_, hbk.step hk3 hk4 _ rfl⟩ : ∃ ps4, Backed w _ gl gq gd pre ps' post (qs.set pre.length (g - 1)) ds (kk + 1) ((ps'[kk] + ds[kk] + cc) / 4294967296) ps4)
             generalize ps'[kk] = x at c1 x1 S
             generalize ds[kk] = y at c2 x2 S
             have C := Hd (fun V => bits_Add32 x y cc x1 x2 hcc V)
             have hc2 : (x + y + cc) / 4294967296 <= 1 := by omega
             generalize (x + y + cc) / 4294967296 = c9 at C S hc2
             generalize (x + y + cc) % 4294967296 = d9 at C S
             clear hbk
             go_wp2_with (first | (go_at_call 255; with_reducible refine (C.out _).mono ?_; rintro e w' ⟨rfl, rfl⟩))
             go_roundw
             case rel => exact ⟨kk + 1, c9, by go_num, rfl, hc2, hlt, S⟩
             case measure => simp [intOf]; omega
           . obtain rfl : kk = k + 1 := by omega
             have hk2 : k + 1 < ps''.length := by rw [hbk.len, HL1'.out, HPS.out]; omega
             have hk3 : k + 1 < ps'.length := by rw [HL1'.out, HPS.out]; omega
             have c1 := hbk.rows.rl.mid_cell hk2
             have f1 := hbk.rows.rl.frozen (pre.length + (k + 1))
             have q1 := hbk.rows.rl.lt
             rw [JE hbk.rest hk2 hk3, <- Yk hk3] at c1
             have x1 := JQ HL2.out (k + 1)
             have hbk2 := hbk
             rw [<- HDL.out] at hbk2
             obtain ⟨s1, s2, s3, s4⟩ := hbk2.stop (by rw [HL1'.out, HPS.out, HDL.out]) _ rfl
             rw [HDL.out] at s1 s2 s3 s4
             have hcc2 : (JU ps' (k + 1) + cc) / 4294967296 <= 1 := by omega
             have hF := Y7 s2
             rw [s1, HL1'.out, HPS.out] at hF
             obtain ⟨-, z2, z3⟩ := back_val s4 HV1.out hF HPB.out HG.out.low hcc2
             have S := Hd (⟨_, _, HDW.out.dv.step rfl (D := k + 1) HPS.out HL.out.high (by rw [s1, HL1'.out]) s2 (by omega) (by rw [<- HDV.out]; exact z2) (by rw [<- HDV.out]; exact z3) hiq, s3, by simp [HDW.out.qlen]⟩ : ∃ zs qs, Dw w _ gl gq gd r zl0 ds (val ys * 2 ^ n) pre.length zs qs)
             generalize JU ps' (k + 1) = x at c1 x1 S
             have ex : ((x : Int) + (cc : Int)) % 4294967296 = (((x + cc) % 4294967296 : Nat) : Int) := by omega
             generalize (x + cc) % 4294967296 = d9 at ex S
             have a0 : (0 : Int) <= (k : Int) + 1 := by omega
             have a2 : (k : Int) + 1 < (k : Int) + 1 + 1 := by omega
             have EX := Hd ex
             clear hbk hbk2 s1 s2 s3 s4 hF z2 z3 ex
             go_wp2_with fail
             go_roundw
             case rel => exact ⟨pre.length, _, rfl, rfl, by omega, by rw [EX.out]; exact S⟩
             case measure => simp [intOf]

end Go.Proofs.YtdonecnhdkjniaaGreatDoor
