/- Several texts in one: RefPlus, Times, RefMul, Long. -/
import Derived.Test.YtkncbenhfcpgkaaGreatDoorPu06
import Derived.Test.YtkncbenhfcpgkaaGreatDoorPuHd
import Derived.Test.YtkncbenhfcpgkaaGreatDoorPu05
import Derived.Test.YtkncbenhfcpgkaaGreatDoorPu01
import Derived.Test.YtkncbenhfcpgkaaGreatDoorPu04
import Derived.Test.YtkncbenhfcpgkaaGreatDoorPu03
import Derived.Test.YtkncbenhfcpgkaaGreatDoorPu02
import Derived.BigQuiet
set_option maxRecDepth 100000
set_option maxHeartbeats 8000000
/- Plus of package polestarref01: what it counts. (Written by wip/exact/genplus.py.) -/
namespace Go.Proofs.YtkncbenhfcpgkaaGreatDoor
open Go.RowKit

theorem ref_size_told (A B : Option Addr) (c d : Nat) (xs ys : List Nat) (hcx : Canon xs) (hcy : Canon ys) (_ : xs.length ≤ 4611686018427387904) (_ : ys.length ≤ 4611686018427387904) (w : World) (h : Raw w A c xs) (g : Raw w B d ys) :
    Calls Tryz.prog 187 #[.slice A xs.length c, .slice B ys.length d] w fun e w' => ∃ k : Int, e = .returned (.int .i64 k) ∧ ((val ys ≤ val xs → 0 ≤ k) ∧ (val xs < val ys → k < 0)) ∧ Below w.heap.size w w' := by
  refine (ref_cmp_any A B c d xs ys hcx hcy w h g).mono ?_
  rintro e w' ⟨rfl, hb⟩
  refine ⟨_, rfl, ⟨fun h => ?_, fun h => ?_⟩, hb⟩
  · unfold cmpv; split <;> (try split) <;> omega
  · rw [cmpv_lt h]; omega

theorem ref_Plus_like (n1 : Bool) (A B : Option Addr) (c d : Nat) (xs ys : List Nat) (hlx : xs.length ≤ 536870912) (hly : ys.length ≤ 536870912) (z : Int) (HZV : Hid (z = if n1 then -((val xs + val ys : Nat) : Int) else ((val xs + val ys : Nat) : Int))) (w : World) (h : Raw w A c xs) (g : Raw w B d ys) :
    Calls Tryz.prog 122 #[.agg #[.bool n1, .slice A xs.length c], .agg #[.bool n1, .slice B ys.length d]] w (RetInt w.heap.size w z) := by
  have px := ((Pair.new w 24 (.bool n1) (.slice A xs.length c)).alloc (.cells #[.bool n1, .slice B ys.length d] 24)).alloc (.cells #[.bool false, .slice none 0 0] 24)
  have py := (Pair.new (w.alloc (.cells #[.bool n1, .slice A xs.length c] 24)) 24 (.bool n1) (.slice B ys.length d)).alloc (.cells #[.bool false, .slice none 0 0] 24)
  have pr := Pair.new ((w.alloc (.cells #[.bool n1, .slice A xs.length c] 24)).alloc (.cells #[.bool n1, .slice B ys.length d] 24)) 24 (.bool false) (.slice none 0 0)
  have rx := (((h.alloc (.cells #[.bool n1, .slice A xs.length c] 24)).alloc (.cells #[.bool n1, .slice B ys.length d] 24)).alloc (.cells #[.bool false, .slice none 0 0] 24))
  have ry := (((g.alloc (.cells #[.bool n1, .slice A xs.length c] 24)).alloc (.cells #[.bool n1, .slice B ys.length d] 24)).alloc (.cells #[.bool false, .slice none 0 0] 24))
  have b0 := (((Below.refl w.heap.size w).alloc (Nat.le_refl _) (.cells #[.bool n1, .slice A xs.length c] 24)).alloc (by simp) (.cells #[.bool n1, .slice B ys.length d] 24)).alloc (by simp; omega) (.cells #[.bool false, .slice none 0 0] 24)
  simp only [World.size_alloc] at py pr
  clear h g
  go_enter Tryz.func122, Tryz.ntmps122
  go_wp2_with fail
  obtain ⟨W, E⟩ : ∃ W, W = ((w.alloc (.cells #[.bool n1, .slice A xs.length c] 24)).alloc (.cells #[.bool n1, .slice B ys.length d] 24)).alloc (.cells #[.bool false, .slice none 0 0] 24) := ⟨_, rfl⟩
  rw [← E] at px py pr b0 rx ry ⊢
  clear E
  have PX := Hd px
  have PY := Hd py
  have PR := Hd pr
  have B0 := Hd b0
  have RX := Hd rx
  have RY := Hd ry
  have hlr := pr.blk.lt
  have hsz := b0.size
  obtain ⟨l1, x0, x1, -, -⟩ := px.facts
  obtain ⟨l2, y0, y1, -, -⟩ := py.facts
  clear px py pr rx ry b0
  have C1 := Hd (fun (V : World) (hV : Below W.heap.size W V) => ref_add A B c d xs ys (by omega) (by omega) V (RX.out.below hV) (RY.out.below hV))
  have C2 := Hd (fun (V : World) (v : Value) (hV : OwnL V W.heap.size v (val xs + val ys) (max xs.length ys.length + 1)) => show Calls Tryz.prog 120 #[.bool n1, v] V (RetInt W.heap.size V z) from by rw [HZV.out]; exact ref_signed_own n1 v _ _ _ V hV)
  have HW := Hd (Below.refl W.heap.size W)
  refine wp_region_steps [.val (.pointer (some ⟨w.heap.size, 0, none⟩)), .val (.bool n1), .val (.pointer (some ⟨w.heap.size, 1, none⟩)), .val (.slice A xs.length c), .val (.pointer (some ⟨w.heap.size + 1, 1, none⟩)), .val (.slice B ys.length d), .step, .step, .step] 2 3 W
    (fun us V => match us with
      | [] => True
      | [va] => OwnL V W.heap.size va (val xs + val ys) (max xs.length ys.length + 1)
      | [_, vb] => IntOwn V W.heap.size vb z
      | _ => False)
    (fun _ V => ∃ A1 c1, IntOwn V W.heap.size (.agg #[.bool (decide (z < 0)), .slice A1 (natL z.natAbs).length c1]) z ∧ Pair V (w.heap.size + 1 + 1) 24 (.bool (decide (z < 0))) (.slice A1 (natL z.natAbs).length c1) ∧ Below w.heap.size w V)
    _ mixedOrders2 (by kernel_rfl) (by kernel_rfl) (by kernel_rfl) (by kernel_rfl) (by kernel_rfl) (by kernel_rfl) (by kernel_rfl) (by kernel_rfl) (by kernel_rfl) rfl ?_ HW.out trivial ?_ ?_ ?_
  · intro us V V' hg hb
    match us, hg with
    | [], _ => trivial
    | [va], hg => exact hg.below hb
    | [va, vb], hg => exact hg.below hb
  · simp [ValsOk, chainAct, fill, pairs, valAt]
    repeat' apply And.intro
    all_goals
      intro V hV
      obtain ⟨-, e0, e1, -, -⟩ := (PX.out.below hV).facts
      obtain ⟨-, f0, f1, -, -⟩ := (PY.out.below hV).facts
      clear hV
      go_simp
      first | exact Below.refl _ _ | exact ⟨by cases n1 <;> cases n2 <;> rfl, Below.refl _ _⟩
  · simp [StepsOk, chainAct, fill, pairs, valAt, stepNo, List.filter, Stp.isStep]
    refine ⟨fun V hV => ?_, fun va => ⟨fun V hV hva => ?_, fun vb V hV hvb => ?_⟩⟩
    · go_simp
      refine (C1.out V hV).mono ?_
      rintro e w' ⟨v, rfl, hv, hb⟩
      exact ⟨belowTo hV hb, hv.base hV.size⟩
    · go_simp
      refine (C2.out V va hva).mono ?_
      rintro e w' ⟨v, rfl, hv, hb⟩
      exact ⟨belowTo hV hb, hv⟩
    · obtain ⟨A1, c1, rfl, -⟩ := hvb.form
      have pr := PR.out.below hV
      obtain ⟨p1, p2, p3, p4, p5⟩ := pr.facts
      go_simp
      exact ⟨A1, c1, hvb.pair (by omega), pr.store _ _, below2 (belowTo B0.out hV) (by omega) _ _⟩
  · intro us V hus hF
    simp only [show ¬ (3 ≤ 2) by decide, if_false] at hF
    obtain ⟨A1, c1, hI, pr, hb⟩ := hF
    obtain ⟨u0, u1, u2, rfl⟩ : ∃ u0 u1 u2, us = [u0, u1, u2] := by
      match us, hus with
      | [u0, u1, u2], _ => exact ⟨u0, u1, u2, rfl⟩
    simp [chainAct, fill, pairs, valAt, stepNo, List.filter, Stp.isStep]
    obtain ⟨_, k0, k1, _, _⟩ := pr.facts
    clear PX PY RX RY l1 x0 x1 l2 y0 y1
    go_wp2_with fail
    exact bodyPost_ret (by simp [results, Tryz.results122, go_sem, k0, k1]) rfl ⟨_, rfl, hI.base hsz, hb⟩

theorem ref_Plus_x (n1 n2 : Bool) (hne : (n1 == n2) = false) (A B : Option Addr) (c d : Nat) (xs ys : List Nat) (hcx : Canon xs) (hcy : Canon ys) (hle : val ys ≤ val xs) (hlx : xs.length ≤ 536870912) (hly : ys.length ≤ 536870912) (z : Int) (HZV : Hid (z = if n1 then -((val xs - val ys : Nat) : Int) else ((val xs - val ys : Nat) : Int))) (w : World) (h : Raw w A c xs) (g : Raw w B d ys) :
    Calls Tryz.prog 122 #[.agg #[.bool n1, .slice A xs.length c], .agg #[.bool n2, .slice B ys.length d]] w (RetInt w.heap.size w z) := by
  have hlen : ys.length ≤ xs.length := len_of_val g.limbs h.limbs hcy (by omega)
  have HLE := Hd (show val ys ≤ val xs by omega)
  have px := ((Pair.new w 24 (.bool n1) (.slice A xs.length c)).alloc (.cells #[.bool n2, .slice B ys.length d] 24)).alloc (.cells #[.bool false, .slice none 0 0] 24)
  have py := (Pair.new (w.alloc (.cells #[.bool n1, .slice A xs.length c] 24)) 24 (.bool n2) (.slice B ys.length d)).alloc (.cells #[.bool false, .slice none 0 0] 24)
  have pr := Pair.new ((w.alloc (.cells #[.bool n1, .slice A xs.length c] 24)).alloc (.cells #[.bool n2, .slice B ys.length d] 24)) 24 (.bool false) (.slice none 0 0)
  have rx := (((h.alloc (.cells #[.bool n1, .slice A xs.length c] 24)).alloc (.cells #[.bool n2, .slice B ys.length d] 24)).alloc (.cells #[.bool false, .slice none 0 0] 24))
  have ry := (((g.alloc (.cells #[.bool n1, .slice A xs.length c] 24)).alloc (.cells #[.bool n2, .slice B ys.length d] 24)).alloc (.cells #[.bool false, .slice none 0 0] 24))
  have b0 := (((Below.refl w.heap.size w).alloc (Nat.le_refl _) (.cells #[.bool n1, .slice A xs.length c] 24)).alloc (by simp) (.cells #[.bool n2, .slice B ys.length d] 24)).alloc (by simp; omega) (.cells #[.bool false, .slice none 0 0] 24)
  simp only [World.size_alloc] at py pr
  clear h g
  go_enter Tryz.func122, Tryz.ntmps122
  go_wp2_with fail
  obtain ⟨W, E⟩ : ∃ W, W = ((w.alloc (.cells #[.bool n1, .slice A xs.length c] 24)).alloc (.cells #[.bool n2, .slice B ys.length d] 24)).alloc (.cells #[.bool false, .slice none 0 0] 24) := ⟨_, rfl⟩
  rw [← E] at px py pr b0 rx ry ⊢
  clear E
  have PX := Hd px
  have PY := Hd py
  have PR := Hd pr
  have B0 := Hd b0
  have RX := Hd rx
  have RY := Hd ry
  have hlr := pr.blk.lt
  have hsz := b0.size
  obtain ⟨l1, x0, x1, -, -⟩ := px.facts
  obtain ⟨l2, y0, y1, -, -⟩ := py.facts
  clear px py pr rx ry b0
  have C0 := Hd (fun (V : World) (hV : Below W.heap.size W V) => ref_size_told A B c d xs ys hcx hcy (by omega) (by omega) V (RX.out.below hV) (RY.out.below hV))
  have C1 := Hd (fun (V : World) (hV : Below W.heap.size W V) => ref_sub A B c d xs ys hlen HLE.out (by omega) V (RX.out.below hV) (RY.out.below hV))
  have C2 := Hd (fun (V : World) (v : Value) (hV : OwnL V W.heap.size v (val xs - val ys) xs.length) => show Calls Tryz.prog 120 #[.bool n1, v] V (RetInt W.heap.size V z) from by rw [HZV.out]; exact ref_signed_own n1 v _ _ _ V hV)
  refine (C0.out W (Below.refl _ _)).mono ?_
  rintro e wz ⟨k, rfl, hk, hbz⟩
  have HW := Hd hbz
  have hk2 := hk.1 hle
  have hdk : decide ((0 : Int) ≤ k) = true := by simp; omega
  obtain ⟨-, xz0, xz1, -, -⟩ := (PX.out.below hbz).facts
  obtain ⟨-, yz0, yz1, -, -⟩ := (PY.out.below hbz).facts
  clear hk hbz C0 hle hcx hcy hne
  go_wp2_with fail
  refine wp_region_steps [.val (.pointer (some ⟨w.heap.size, 0, none⟩)), .val (.bool n1), .val (.pointer (some ⟨w.heap.size, 1, none⟩)), .val (.slice A xs.length c), .val (.pointer (some ⟨w.heap.size + 1, 1, none⟩)), .val (.slice B ys.length d), .step, .step, .step] 2 3 W
    (fun us V => match us with
      | [] => True
      | [va] => OwnL V W.heap.size va (val xs - val ys) (xs.length)
      | [_, vb] => IntOwn V W.heap.size vb z
      | _ => False)
    (fun _ V => ∃ A1 c1, IntOwn V W.heap.size (.agg #[.bool (decide (z < 0)), .slice A1 (natL z.natAbs).length c1]) z ∧ Pair V (w.heap.size + 1 + 1) 24 (.bool (decide (z < 0))) (.slice A1 (natL z.natAbs).length c1) ∧ Below w.heap.size w V)
    _ mixedOrders2 (by kernel_rfl) (by kernel_rfl) (by kernel_rfl) (by kernel_rfl) (by kernel_rfl) (by kernel_rfl) (by kernel_rfl) (by kernel_rfl) (by kernel_rfl) rfl ?_ HW.out trivial ?_ ?_ ?_
  · intro us V V' hg hb
    match us, hg with
    | [], _ => trivial
    | [va], hg => exact hg.below hb
    | [va, vb], hg => exact hg.below hb
  · simp [ValsOk, chainAct, fill, pairs, valAt]
    repeat' apply And.intro
    all_goals
      intro V hV
      obtain ⟨-, e0, e1, -, -⟩ := (PX.out.below hV).facts
      obtain ⟨-, f0, f1, -, -⟩ := (PY.out.below hV).facts
      clear hV
      go_simp
      first | exact Below.refl _ _ | exact ⟨by cases n1 <;> cases n2 <;> rfl, Below.refl _ _⟩
  · simp [StepsOk, chainAct, fill, pairs, valAt, stepNo, List.filter, Stp.isStep]
    refine ⟨fun V hV => ?_, fun va => ⟨fun V hV hva => ?_, fun vb V hV hvb => ?_⟩⟩
    · go_simp
      refine (C1.out V hV).mono ?_
      rintro e w' ⟨v, rfl, hv, hb⟩
      exact ⟨belowTo hV hb, hv.base hV.size⟩
    · go_simp
      refine (C2.out V va hva).mono ?_
      rintro e w' ⟨v, rfl, hv, hb⟩
      exact ⟨belowTo hV hb, hv⟩
    · obtain ⟨A1, c1, rfl, -⟩ := hvb.form
      have pr := PR.out.below hV
      obtain ⟨p1, p2, p3, p4, p5⟩ := pr.facts
      go_simp
      exact ⟨A1, c1, hvb.pair (by omega), pr.store _ _, below2 (belowTo B0.out hV) (by omega) _ _⟩
  · intro us V hus hF
    simp only [show ¬ (3 ≤ 2) by decide, if_false] at hF
    obtain ⟨A1, c1, hI, pr, hb⟩ := hF
    obtain ⟨u0, u1, u2, rfl⟩ : ∃ u0 u1 u2, us = [u0, u1, u2] := by
      match us, hus with
      | [u0, u1, u2], _ => exact ⟨u0, u1, u2, rfl⟩
    simp [chainAct, fill, pairs, valAt, stepNo, List.filter, Stp.isStep]
    obtain ⟨_, k0, k1, _, _⟩ := pr.facts
    clear PX PY RX RY l1 x0 x1 l2 y0 y1 xz0 xz1 yz0 yz1
    go_wp2_with fail
    exact bodyPost_ret (by simp [results, Tryz.results122, go_sem, k0, k1]) rfl ⟨_, rfl, hI.base hsz, hb⟩

theorem ref_Plus_y (n1 n2 : Bool) (hne : (n1 == n2) = false) (A B : Option Addr) (c d : Nat) (xs ys : List Nat) (hcx : Canon xs) (hcy : Canon ys) (hle : val xs < val ys) (hlx : xs.length ≤ 536870912) (hly : ys.length ≤ 536870912) (z : Int) (HZV : Hid (z = if n2 then -((val ys - val xs : Nat) : Int) else ((val ys - val xs : Nat) : Int))) (w : World) (h : Raw w A c xs) (g : Raw w B d ys) :
    Calls Tryz.prog 122 #[.agg #[.bool n1, .slice A xs.length c], .agg #[.bool n2, .slice B ys.length d]] w (RetInt w.heap.size w z) := by
  have hlen : xs.length ≤ ys.length := len_of_val h.limbs g.limbs hcx (by omega)
  have HLE := Hd (show val xs ≤ val ys by omega)
  have px := ((Pair.new w 24 (.bool n1) (.slice A xs.length c)).alloc (.cells #[.bool n2, .slice B ys.length d] 24)).alloc (.cells #[.bool false, .slice none 0 0] 24)
  have py := (Pair.new (w.alloc (.cells #[.bool n1, .slice A xs.length c] 24)) 24 (.bool n2) (.slice B ys.length d)).alloc (.cells #[.bool false, .slice none 0 0] 24)
  have pr := Pair.new ((w.alloc (.cells #[.bool n1, .slice A xs.length c] 24)).alloc (.cells #[.bool n2, .slice B ys.length d] 24)) 24 (.bool false) (.slice none 0 0)
  have rx := (((h.alloc (.cells #[.bool n1, .slice A xs.length c] 24)).alloc (.cells #[.bool n2, .slice B ys.length d] 24)).alloc (.cells #[.bool false, .slice none 0 0] 24))
  have ry := (((g.alloc (.cells #[.bool n1, .slice A xs.length c] 24)).alloc (.cells #[.bool n2, .slice B ys.length d] 24)).alloc (.cells #[.bool false, .slice none 0 0] 24))
  have b0 := (((Below.refl w.heap.size w).alloc (Nat.le_refl _) (.cells #[.bool n1, .slice A xs.length c] 24)).alloc (by simp) (.cells #[.bool n2, .slice B ys.length d] 24)).alloc (by simp; omega) (.cells #[.bool false, .slice none 0 0] 24)
  simp only [World.size_alloc] at py pr
  clear h g
  go_enter Tryz.func122, Tryz.ntmps122
  go_wp2_with fail
  obtain ⟨W, E⟩ : ∃ W, W = ((w.alloc (.cells #[.bool n1, .slice A xs.length c] 24)).alloc (.cells #[.bool n2, .slice B ys.length d] 24)).alloc (.cells #[.bool false, .slice none 0 0] 24) := ⟨_, rfl⟩
  rw [← E] at px py pr b0 rx ry ⊢
  clear E
  have PX := Hd px
  have PY := Hd py
  have PR := Hd pr
  have B0 := Hd b0
  have RX := Hd rx
  have RY := Hd ry
  have hlr := pr.blk.lt
  have hsz := b0.size
  obtain ⟨l1, x0, x1, -, -⟩ := px.facts
  obtain ⟨l2, y0, y1, -, -⟩ := py.facts
  clear px py pr rx ry b0
  have C0 := Hd (fun (V : World) (hV : Below W.heap.size W V) => ref_size_told A B c d xs ys hcx hcy (by omega) (by omega) V (RX.out.below hV) (RY.out.below hV))
  have C1 := Hd (fun (V : World) (hV : Below W.heap.size W V) => ref_sub B A d c ys xs hlen HLE.out (by omega) V (RY.out.below hV) (RX.out.below hV))
  have C2 := Hd (fun (V : World) (v : Value) (hV : OwnL V W.heap.size v (val ys - val xs) ys.length) => show Calls Tryz.prog 120 #[.bool n2, v] V (RetInt W.heap.size V z) from by rw [HZV.out]; exact ref_signed_own n2 v _ _ _ V hV)
  refine (C0.out W (Below.refl _ _)).mono ?_
  rintro e wz ⟨k, rfl, hk, hbz⟩
  have HW := Hd hbz
  have hk2 := hk.2 hle
  have hdk : decide ((0 : Int) ≤ k) = false := by simp; omega
  obtain ⟨-, xz0, xz1, -, -⟩ := (PX.out.below hbz).facts
  obtain ⟨-, yz0, yz1, -, -⟩ := (PY.out.below hbz).facts
  clear hk hbz C0 hle hcx hcy hne
  go_wp2_with fail
  refine wp_region_steps [.val (.pointer (some ⟨w.heap.size + 1, 0, none⟩)), .val (.bool n2), .val (.pointer (some ⟨w.heap.size + 1, 1, none⟩)), .val (.slice B ys.length d), .val (.pointer (some ⟨w.heap.size, 1, none⟩)), .val (.slice A xs.length c), .step, .step, .step] 2 3 W
    (fun us V => match us with
      | [] => True
      | [va] => OwnL V W.heap.size va (val ys - val xs) (ys.length)
      | [_, vb] => IntOwn V W.heap.size vb z
      | _ => False)
    (fun _ V => ∃ A1 c1, IntOwn V W.heap.size (.agg #[.bool (decide (z < 0)), .slice A1 (natL z.natAbs).length c1]) z ∧ Pair V (w.heap.size + 1 + 1) 24 (.bool (decide (z < 0))) (.slice A1 (natL z.natAbs).length c1) ∧ Below w.heap.size w V)
    _ mixedOrders2 (by kernel_rfl) (by kernel_rfl) (by kernel_rfl) (by kernel_rfl) (by kernel_rfl) (by kernel_rfl) (by kernel_rfl) (by kernel_rfl) (by kernel_rfl) rfl ?_ HW.out trivial ?_ ?_ ?_
  · intro us V V' hg hb
    match us, hg with
    | [], _ => trivial
    | [va], hg => exact hg.below hb
    | [va, vb], hg => exact hg.below hb
  · simp [ValsOk, chainAct, fill, pairs, valAt]
    repeat' apply And.intro
    all_goals
      intro V hV
      obtain ⟨-, e0, e1, -, -⟩ := (PX.out.below hV).facts
      obtain ⟨-, f0, f1, -, -⟩ := (PY.out.below hV).facts
      clear hV
      go_simp
      first | exact Below.refl _ _ | exact ⟨by cases n1 <;> cases n2 <;> rfl, Below.refl _ _⟩
  · simp [StepsOk, chainAct, fill, pairs, valAt, stepNo, List.filter, Stp.isStep]
    refine ⟨fun V hV => ?_, fun va => ⟨fun V hV hva => ?_, fun vb V hV hvb => ?_⟩⟩
    · go_simp
      refine (C1.out V hV).mono ?_
      rintro e w' ⟨v, rfl, hv, hb⟩
      exact ⟨belowTo hV hb, hv.base hV.size⟩
    · go_simp
      refine (C2.out V va hva).mono ?_
      rintro e w' ⟨v, rfl, hv, hb⟩
      exact ⟨belowTo hV hb, hv⟩
    · obtain ⟨A1, c1, rfl, -⟩ := hvb.form
      have pr := PR.out.below hV
      obtain ⟨p1, p2, p3, p4, p5⟩ := pr.facts
      go_simp
      exact ⟨A1, c1, hvb.pair (by omega), pr.store _ _, below2 (belowTo B0.out hV) (by omega) _ _⟩
  · intro us V hus hF
    simp only [show ¬ (3 ≤ 2) by decide, if_false] at hF
    obtain ⟨A1, c1, hI, pr, hb⟩ := hF
    obtain ⟨u0, u1, u2, rfl⟩ : ∃ u0 u1 u2, us = [u0, u1, u2] := by
      match us, hus with
      | [u0, u1, u2], _ => exact ⟨u0, u1, u2, rfl⟩
    simp [chainAct, fill, pairs, valAt, stepNo, List.filter, Stp.isStep]
    obtain ⟨_, k0, k1, _, _⟩ := pr.facts
    clear PX PY RX RY l1 x0 x1 l2 y0 y1 xz0 xz1 yz0 yz1
    go_wp2_with fail
    exact bodyPost_ret (by simp [results, Tryz.results122, go_sem, k0, k1]) rfl ⟨_, rfl, hI.base hsz, hb⟩

theorem ref_Plus (n1 n2 : Bool) (A B : Option Addr) (c d : Nat) (xs ys : List Nat) (hcx : Canon xs) (hcy : Canon ys) (hlx : xs.length ≤ 536870912) (hly : ys.length ≤ 536870912) (w : World) (h : Raw w A c xs) (g : Raw w B d ys) :
    Calls Tryz.prog 122 #[.agg #[.bool n1, .slice A xs.length c], .agg #[.bool n2, .slice B ys.length d]] w (RetInt w.heap.size w (ival n1 xs + ival n2 ys)) := by
  by_cases hn : (n1 == n2) = true
  · obtain rfl : n1 = n2 := by simpa using hn
    exact ref_Plus_like n1 A B c d xs ys hlx hly _ (by unfold ival; show _ = _; cases n1 <;> simp <;> omega) w h g
  · have hn' : (n1 == n2) = false := by simpa using hn
    have hn2 : n2 = !n1 := by cases n1 <;> cases n2 <;> simp_all
    by_cases hle : val ys ≤ val xs
    · exact ref_Plus_x n1 n2 hn' A B c d xs ys hcx hcy hle hlx hly _ (by unfold ival; show _ = _; subst hn2; cases n1 <;> simp <;> omega) w h g
    · exact ref_Plus_y n1 n2 hn' A B c d xs ys hcx hcy (by omega) hlx hly _ (by unfold ival; show _ = _; subst hn2; cases n1 <;> simp <;> omega) w h g
/- Times of package exact: what it counts. -/

structure Mid (w0 wr : World) (g L : Nat) (zs : List Nat) (top : Nat) : Prop where
  len : zs.length = L
  limbs : Limbs zs
  row : Row wr g zs
  low : Below w0.heap.size w0 wr
  nought : ∀ k, top ≤ k → at0 zs k = 0
theorem Mid.set {w0 wr : World} {g L : Nat} {zs : List Nat} {top m d : Nat} (h : Mid w0 wr g L zs top) (hg : w0.heap.size ≤ g) (hm : m < top) (hd : d < 4294967296) : Mid w0 (wr.setCell ⟨g, m, none⟩ (.int .u32 (d : Int))) g L (zs.set m d) top :=
  ⟨by simp [h.len], limbs_set h.limbs hd, h.row.set m d, h.low.setCell (p := ⟨g, m, none⟩) hg _, fun k hk => by rw [at0_set_ne (by omega)]; exact h.nought k hk⟩
theorem Mid.more {w0 wr : World} {g L : Nat} {zs : List Nat} {top : Nat} (h : Mid w0 wr g L zs top) : Mid w0 wr g L zs (top + 1) :=
  ⟨h.len, h.limbs, h.row, h.low, fun k hk => h.nought k (by omega)⟩

/- mul, times of the references: what they count. -/

theorem Mid.drewN {w0 wr : World} {g L : Nat} {zs : List Nat} {top : Nat} (h : Mid w0 wr g L zs top) (n : Nat) : Mid w0 (wr.drewN n) g L zs top :=
  ⟨h.len, h.limbs, ⟨h.row.blk.drewN n⟩, below_drewN h.low n, h.nought⟩

theorem ref_mulN (A B : Option Addr) (c d : Nat) (xs ys : List Nat) (hlx : xs.length ≤ 536870912) (hly : ys.length ≤ 536870912) (w : World) (h : Raw w A c xs) (g : Raw w B d ys) :
    Calls Tryz.prog 189 #[.slice A xs.length c, .slice B ys.length d] w (RetN w.heap.size w (val xs * val ys)) := by
  have hc := h.cap
  have hm := h.most
  have hd := g.cap
  have hn := g.most
  have RX := Hd h
  have RY := Hd g
  clear h g
  obtain ⟨i0, hi, hz0, hz1, hz2⟩ := info_parts limbInfo
  have hmk : ∀ W : World, (Instr.makeSlice 22 (.int .i64 ((xs.length : Int) + (ys.length : Int))) (.int .i64 ((xs.length : Int) + (ys.length : Int)))).run Tryz.prog W = .ok (.slice (some ⟨W.heap.size, 0, none⟩) (xs.length + ys.length) (xs.length + ys.length)) (W.alloc (.cells (madeCells #[.int .u32 0] (xs.length + ys.length)) 70)) := fun W => by
    have h := run_make_rowN (P := Tryz.prog) 22 70 i0 _ Tryz.underlying22 hi hz0 .i64 .i64 (xs.length + ys.length) (xs.length + ys.length) (by omega) (by rw [hz2]; omega) (by omega) W
    rw [show ((xs.length + ys.length : Nat) : Int) = (xs.length : Int) + (ys.length : Int) by omega, hz1, Nat.mul_one] at h
    exact h
  have I0 : Mid w (w.alloc (.cells (madeCells #[.int .u32 0] (xs.length + ys.length)) 70)) w.heap.size (xs.length + ys.length) (List.replicate (xs.length + ys.length) 0) (0 + ys.length) :=
    ⟨by simp, limbs_noughts _, Row.made w _, (Below.refl _ _).alloc (Nat.le_refl _) _, fun k _ => at0_noughts _ _⟩
  have J0 : val (List.replicate (xs.length + ys.length) 0) = val (xs.take 0) * val ys := by simp [val_noughts, val]
  have H0 := Hd (⟨_, I0, J0⟩ : ∃ zs, Mid w (w.alloc (.cells (madeCells #[.int .u32 0] (xs.length + ys.length)) 70)) w.heap.size (xs.length + ys.length) zs (0 + ys.length) ∧ val zs = val (xs.take 0) * val ys)
  clear I0 J0
  go_enter Tryz.func189, Tryz.ntmps189
  go_wp2_with fail
  clear hmk
  go_loopw [6] (fun s wr => ∃ i : Nat, s = .int .i64 i ∧ i ≤ xs.length ∧ Hid (∃ zs, Mid w wr w.heap.size (xs.length + ys.length) zs (i + ys.length) ∧ val zs = val (xs.take i) * val ys)) (fun s _ => xs.length - (intOf s).toNat)
  case atStart => exact ⟨0, rfl, Nat.zero_le _, H0⟩
  case round =>
    obtain ⟨i, rfl, hi', HR⟩ := hrel
    clear H0
    obtain ⟨zs0, hmid0, hv0⟩ := HR.out
    have HV0 := Hd hv0
    clear HR hv0
    by_cases hlt : i < xs.length
    · have a0 : (0 : Int) ≤ (i : Int) := by omega
      have a1 : (i : Int) < (xs.length : Int) := by omega
      obtain ⟨x, hxe⟩ : ∃ x, xs[i] = x := ⟨_, rfl⟩
      have HXE := Hd hxe
      have H1 := Hd (⟨zs0, hmid0, by simp [val]⟩ : ∃ zs, Mid w wr w.heap.size (xs.length + ys.length) zs (i + ys.length) ∧ val zs + 4294967296 ^ (i + 0) * 0 = val zs0 + 4294967296 ^ i * (x * val (ys.take 0)))
      clear hmid0 hxe
      go_wp2_with fail
      go_loopw [7, 8] (fun t s wr => ∃ k cc : Nat, s = .int .i64 k ∧ t = .int .u64 cc ∧ cc < 4294967296 ∧ k ≤ ys.length ∧ Hid (∃ zs, Mid w wr w.heap.size (xs.length + ys.length) zs (i + ys.length) ∧ val zs + 4294967296 ^ (i + k) * cc = val zs0 + 4294967296 ^ i * (x * val (ys.take k)))) (fun _ s _ => ys.length - (intOf s).toNat)
      case atStart => exact ⟨0, 0, rfl, rfl, by omega, Nat.zero_le _, H1⟩
      case round =>
        obtain ⟨k, cc, rfl, rfl, hcc, hk', HR⟩ := hrel
        clear H1
        obtain ⟨zs, hmid, hv⟩ := HR.out
        have HV := Hd hv
        clear HR hv
        by_cases hlk : k < ys.length
        · have e0 : (0 : Int) ≤ (k : Int) := by omega
          have e1 : (k : Int) < (ys.length : Int) := by omega
          have e2 : (0 : Int) ≤ (i : Int) + (k : Int) := by omega
          have e3 : (i : Int) + (k : Int) < (xs.length : Int) + (ys.length : Int) := by omega
          have e4 : IntKind.i64.wrap ((i : Int) + (k : Int)) = (i : Int) + (k : Int) := IntWalk.i64_in _ (by omega)
          have hmk : i + k < zs.length := by rw [hmid.len]; omega
          obtain ⟨ad, rfl, hbl0, hx⟩ := (RX.out.below hmid.low).reads.get hlt
          obtain ⟨bd, rfl, hbl, hy⟩ := (RY.out.below hmid.low).reads.get hlk
          have hbx := limbs_get RX.out.limbs hlt
          have hby := limbs_get RY.out.limbs hlk
          have fz := hmid.row.frozen (i + k)
          have hcell := hmid.row.cell hmk
          have hbo := limbs_get hmid.limbs hmk
          rw [HXE.out] at hx hbx
          generalize hye : ys[k] = y at hy hby
          generalize hze : zs[i + k] = o at hcell hbo
          obtain ⟨hb1, hb2⟩ := mul_bound hbx hby hbo hcc
          rw [show cc + x * y + o = x * y + o + cc by omega] at hb1 hb2
          have HX1 := Hd hbx
          have hl0 := hmid.low.size
          have hlw := hmid.row.lt
          have q1 : (ad.add i).block < wr.heap.size := by rw [block_of_add]; omega
          have q2 : (bd.add k).block < wr.heap.size := by rw [block_of_add]; omega
          have S : ∀ nq : Nat, ∃ zs', Mid w ((wr.drewN nq).setCell ⟨w.heap.size, i + k, none⟩ (.int .u32 (((x * y + o + cc) % 4294967296 : Nat) : Int))) w.heap.size (xs.length + ys.length) zs' (i + ys.length) ∧ val zs' + 4294967296 ^ (i + (k + 1)) * ((x * y + o + cc) / 4294967296) = val zs0 + 4294967296 ^ i * (x * val (ys.take (k + 1))) := fun nq =>
            ⟨zs.set (i + k) ((x * y + o + cc) % 4294967296), (hmid.drewN nq).set (Nat.le_refl _) (by omega) (Nat.mod_lt _ (by omega)), by
            rw [show i + (k + 1) = i + k + 1 by omega, mul_step hmk HV.out (x * y) (x * y + o + cc) (by rw [hze]; omega), val_take_more hlk, hye, Nat.pow_add]
            grind⟩
          have HS := Hd S
          clear hmk hye hze S
          go_wp2_with fail
          go_quiet (fail)
          go_wp2_with fail
          go_roundw
          case rel => exact ⟨k + 1, _, by go_num, rfl, hb2, hlk, Hd (HS.out _)⟩
          case measure => simp [intOf]; omega
        · obtain rfl : k = ys.length := by omega
          have hmk : i + ys.length < zs.length := by rw [hmid.len]; omega
          have e2 : (0 : Int) ≤ (i : Int) + (ys.length : Int) := by omega
          have e3 : (i : Int) + (ys.length : Int) < (xs.length : Int) + (ys.length : Int) := by omega
          have hcc2 : (cc : Int) < 4294967296 := by omega
          have fz := hmid.row.frozen (i + ys.length)
          have hcell := hmid.row.cell hmk
          have hze : zs[i + ys.length] = 0 := by rw [← at0_lt hmk]; exact hmid.nought _ (Nat.le_refl _)
          rw [hze] at hcell
          have S := Hd (⟨zs.set (i + ys.length) cc, by rw [show i + 1 + ys.length = i + ys.length + 1 by omega]; exact hmid.more.set (Nat.le_refl _) (by omega) hcc, by
            rw [mul_last hmk HV.out hze, HV0.out, List.take_length, val_take_more hlt, HXE.out]
            grind⟩ : ∃ zs', Mid w (wr.setCell ⟨w.heap.size, i + ys.length, none⟩ (.int .u32 (cc : Int))) w.heap.size (xs.length + ys.length) zs' (i + 1 + ys.length) ∧ val zs' = val (xs.take (i + 1)) * val ys)
          clear hmid hmk hze
          go_wp2_with fail
          go_roundw
          case rel => exact ⟨i + 1, by go_num, hlt, S⟩
          case measure => simp [intOf]; omega
    · obtain rfl : i = xs.length := by omega
      have hv1 := HV0.out
      rw [List.take_length] at hv1
      have hown := hmid0.row.ownL_cut (base := w.heap.size) (Nat.le_refl _) (by rw [hmid0.len]; omega) hmid0.limbs
      have htrim := fun V (e : V = wr) => ref_trim (some ⟨w.heap.size, 0, none⟩) zs0.length zs0 hmid0.limbs (Nat.le_refl _) (by rw [hmid0.len]; omega) V.heap.size V (e ▸ hmid0.row.reads)
      rw [hmid0.len] at htrim hown
      have C := Hd (htrim wr rfl)
      have HO := Hd hown
      have HE := Hd hv1
      have HB := Hd hmid0.low
      clear hown htrim hv1 HV0 RX RY hmid0
      go_wp2_with (first | (go_at_call 185; with_reducible refine C.out.mono ?_; rintro e w' ⟨rfl, rfl⟩))
      go_ret
      exact ⟨_, rfl, by rw [← HE.out]; exact OwnN.of_ownL HO.out, HB.out⟩
/- Long of package exact and of the references: is one of these too long? -/

abbrev Loc := Bool × Option Addr × Nat × Nat
def cellsZ (l : List Loc) : List Value := l.flatMap fun m => [.bool m.1, .slice m.2.1 m.2.2.1 m.2.2.2]

end Go.Proofs.YtkncbenhfcpgkaaGreatDoor
