/- Several texts in one: Plus, Twin2. -/
import Derived.Test.YtpcdiijmhllejaaDoorBk12
import Derived.Test.YtpcdiijmhllejaaDoorBk15
import Derived.Test.YtpcdiijmhllejaaDoorBk02
import Derived.Test.YtpcdiijmhllejaaDoorBk14
/- Plus of package exact: what it counts. (Written by wip/exact/genplus.py.) -/
namespace Go.Proofs.YtpcdiijmhllejaaDoor
open Go.RowKit

theorem mixedOrders2 : Tryd.prog.follows .mixedOrders = true := by kernel_rfl
theorem len_of_val {xs ys : List Nat} (hx : Limbs xs) (hy : Limbs ys) (hc : Canon xs) (h : val xs ≤ val ys) : xs.length ≤ ys.length := by
  have e := natL_val hx hc
  rw [← e]
  exact natL_length_le.2 (Nat.lt_of_le_of_lt h (val_lt hy))
theorem exact_size_told (A B : Option Addr) (c d : Nat) (xs ys : List Nat) (hcx : Canon xs) (hcy : Canon ys) (hn : xs.length ≤ 4611686018427387904) (hm : ys.length ≤ 4611686018427387904) (w : World) (h : Raw w A c xs) (g : Raw w B d ys) :
    Calls Tryd.prog 44 #[.slice A xs.length c, .slice B ys.length d] w fun e w' => ∃ k : Int, e = .returned (.int .i64 k) ∧ ((val ys ≤ val xs → 0 ≤ k) ∧ (val xs < val ys → k < 0)) ∧ Below w.heap.size w w' := by
  refine (exact_size_any A B c d xs ys hcx hcy hn hm w h g).mono ?_
  rintro e w' ⟨k, rfl, h1, h2, h3, h4, h5, hb⟩
  refine ⟨k, rfl, ⟨fun h => ?_, h3⟩, hb⟩
  rcases Nat.lt_or_eq_of_le h with h | h
  · exact Int.le_of_lt (h5 h)
  · rw [h4 h.symm]; omega

set_option maxRecDepth 100000 in
set_option maxHeartbeats 2000000 in
theorem exact_Plus_like (n1 : Bool) (A B : Option Addr) (c d : Nat) (xs ys : List Nat) (hlx : xs.length ≤ 536870912) (hly : ys.length ≤ 536870912) (z : Int) (HZV : Hid (z = if n1 then -((val xs + val ys : Nat) : Int) else ((val xs + val ys : Nat) : Int))) (w : World) (h : Raw w A c xs) (g : Raw w B d ys) :
    Calls Tryd.prog 39 #[.agg #[.bool n1, .slice A xs.length c], .agg #[.bool n1, .slice B ys.length d]] w (RetInt w.heap.size w z) := by
  have px := ((Pair.new w 24 (.bool n1) (.slice A xs.length c)).alloc (.cells #[.bool n1, .slice B ys.length d] 24)).alloc (.cells #[.bool false, .slice none 0 0] 24)
  have py := (Pair.new (w.alloc (.cells #[.bool n1, .slice A xs.length c] 24)) 24 (.bool n1) (.slice B ys.length d)).alloc (.cells #[.bool false, .slice none 0 0] 24)
  have pr := Pair.new ((w.alloc (.cells #[.bool n1, .slice A xs.length c] 24)).alloc (.cells #[.bool n1, .slice B ys.length d] 24)) 24 (.bool false) (.slice none 0 0)
  have rx := (((h.alloc (.cells #[.bool n1, .slice A xs.length c] 24)).alloc (.cells #[.bool n1, .slice B ys.length d] 24)).alloc (.cells #[.bool false, .slice none 0 0] 24))
  have ry := (((g.alloc (.cells #[.bool n1, .slice A xs.length c] 24)).alloc (.cells #[.bool n1, .slice B ys.length d] 24)).alloc (.cells #[.bool false, .slice none 0 0] 24))
  have b0 := (((Below.refl w.heap.size w).alloc (Nat.le_refl _) (.cells #[.bool n1, .slice A xs.length c] 24)).alloc (by simp) (.cells #[.bool n1, .slice B ys.length d] 24)).alloc (by simp; omega) (.cells #[.bool false, .slice none 0 0] 24)
  simp only [World.size_alloc] at py pr
  clear h g
  go_enter Tryd.func39, Tryd.ntmps39
  go_wp2_with fail
  obtain ⟨W, E⟩ : ∃ W, W = ((w.alloc (.cells #[.bool n1, .slice A xs.length c] 24)).alloc (.cells #[.bool n1, .slice B ys.length d] 24)).alloc (.cells #[.bool false, .slice none 0 0] 24) := ⟨_, rfl⟩
  rw [← E] at px py pr b0 rx ry ⊢
  clear E
  have PX := Lib.hid px
  have PY := Lib.hid py
  have PR := Lib.hid pr
  have B0 := Lib.hid b0
  have RX := Lib.hid rx
  have RY := Lib.hid ry
  have hlr := pr.blk.lt
  have hsz := b0.size
  obtain ⟨l1, x0, x1, -, -⟩ := px.facts
  obtain ⟨l2, y0, y1, -, -⟩ := py.facts
  clear px py pr rx ry b0
  have C1 := Lib.hid (fun (V : World) (hV : Below W.heap.size W V) => exact_add A B c d xs ys (by omega) (by omega) V (RX.out.below hV) (RY.out.below hV))
  have C2 := Lib.hid (fun (V : World) (v : Value) (hV : OwnL V W.heap.size v (val xs + val ys) (max xs.length ys.length + 1)) => show Calls Tryd.prog 47 #[.bool n1, v] V (RetInt W.heap.size V z) from by rw [HZV.out]; exact exact_signed_own n1 v _ _ _ V hV)
  have HW := Lib.hid (Below.refl W.heap.size W)
  refine wp_region_steps [.val (.pointer (some ⟨w.heap.size, 0, none⟩)), .val (.bool n1), .val (.pointer (some ⟨w.heap.size, 1, none⟩)), .val (.slice A xs.length c), .val (.pointer (some ⟨w.heap.size + 1, 1, none⟩)), .val (.slice B ys.length d), .step, .step, .step] 2 3 W
    (fun us V => match us with
      | [] => True
      | [va] => OwnL V W.heap.size va (val xs + val ys) (max xs.length ys.length + 1)
      | [_, vb] => IntOwn V W.heap.size vb z
      | _ => False)
    (fun _ V => ∃ A1 c1, IntOwn V W.heap.size (.agg #[.bool (decide (z < 0)), .slice A1 (natL z.natAbs).length c1]) z ∧ Pair V (w.heap.size + 1 + 1) 24 (.bool (decide (z < 0))) (.slice A1 (natL z.natAbs).length c1) ∧ Below w.heap.size w V)
    _ mixedOrders2 (by kernel_rfl) (by kernel_rfl) (by kernel_rfl) (by kernel_rfl) (by kernel_rfl) (by kernel_rfl) (by kernel_rfl) (by kernel_rfl) (by kernel_rfl) rfl ?_ HW.out trivial ?_ ?_ ?_
  · intro us V V' hg hb
    match us, hg with
    | [], _ => trivial
    | [va], hg => exact hg.below hb
    | [va, vb], hg => exact hg.below hb
  · simp [ValsOk, chainAct, fill, pairs, valAt]
    repeat' apply And.intro
    all_goals
      intro V hV
      obtain ⟨-, e0, e1, -, -⟩ := (PX.out.below hV).facts
      obtain ⟨-, f0, f1, -, -⟩ := (PY.out.below hV).facts
      clear hV
      go_simp
      exact Below.refl _ _
  · simp [StepsOk, chainAct, fill, pairs, valAt, stepNo, List.filter, Stp.isStep]
    refine ⟨fun V hV => ?_, fun va => ⟨fun V hV hva => ?_, fun vb V hV hvb => ?_⟩⟩
    · go_simp
      refine (C1.out V hV).mono ?_
      rintro e w' ⟨v, rfl, hv, hb⟩
      exact ⟨belowTo hV hb, hv.base hV.size⟩
    · go_simp
      refine (C2.out V va hva).mono ?_
      rintro e w' ⟨v, rfl, hv, hb⟩
      exact ⟨belowTo hV hb, hv⟩
    · obtain ⟨A1, c1, rfl, -⟩ := hvb.form
      have pr := PR.out.below hV
      obtain ⟨p1, p2, p3, p4, p5⟩ := pr.facts
      go_simp
      exact ⟨A1, c1, hvb.pair (by omega), pr.store _ _, below2 (belowTo B0.out hV) (by omega) _ _⟩
  · intro us V hus hF
    simp only [show ¬ (3 ≤ 2) by decide, if_false] at hF
    obtain ⟨A1, c1, hI, pr, hb⟩ := hF
    obtain ⟨u0, u1, u2, rfl⟩ : ∃ u0 u1 u2, us = [u0, u1, u2] := by
      match us, hus with
      | [u0, u1, u2], _ => exact ⟨u0, u1, u2, rfl⟩
    simp [chainAct, fill, pairs, valAt, stepNo, List.filter, Stp.isStep]
    obtain ⟨_, k0, k1, _, _⟩ := pr.facts
    clear PX PY RX RY l1 x0 x1 l2 y0 y1
    go_wp2_with fail
    exact bodyPost_ret (by simp [results, Tryd.results39, go_sem, k0, k1]) rfl ⟨_, rfl, hI.base hsz, hb⟩

set_option maxRecDepth 100000 in
set_option maxHeartbeats 2000000 in
theorem exact_Plus_x (n1 n2 : Bool) (hne : (n1 == n2) = false) (A B : Option Addr) (c d : Nat) (xs ys : List Nat) (hcx : Canon xs) (hcy : Canon ys) (hle : val ys ≤ val xs) (hlx : xs.length ≤ 536870912) (hly : ys.length ≤ 536870912) (z : Int) (HZV : Hid (z = if n1 then -((val xs - val ys : Nat) : Int) else ((val xs - val ys : Nat) : Int))) (w : World) (h : Raw w A c xs) (g : Raw w B d ys) :
    Calls Tryd.prog 39 #[.agg #[.bool n1, .slice A xs.length c], .agg #[.bool n2, .slice B ys.length d]] w (RetInt w.heap.size w z) := by
  have hlen : ys.length ≤ xs.length := len_of_val g.limbs h.limbs hcy (by omega)
  have HLE := Lib.hid (show val ys ≤ val xs by omega)
  have px := ((Pair.new w 24 (.bool n1) (.slice A xs.length c)).alloc (.cells #[.bool n2, .slice B ys.length d] 24)).alloc (.cells #[.bool false, .slice none 0 0] 24)
  have py := (Pair.new (w.alloc (.cells #[.bool n1, .slice A xs.length c] 24)) 24 (.bool n2) (.slice B ys.length d)).alloc (.cells #[.bool false, .slice none 0 0] 24)
  have pr := Pair.new ((w.alloc (.cells #[.bool n1, .slice A xs.length c] 24)).alloc (.cells #[.bool n2, .slice B ys.length d] 24)) 24 (.bool false) (.slice none 0 0)
  have rx := (((h.alloc (.cells #[.bool n1, .slice A xs.length c] 24)).alloc (.cells #[.bool n2, .slice B ys.length d] 24)).alloc (.cells #[.bool false, .slice none 0 0] 24))
  have ry := (((g.alloc (.cells #[.bool n1, .slice A xs.length c] 24)).alloc (.cells #[.bool n2, .slice B ys.length d] 24)).alloc (.cells #[.bool false, .slice none 0 0] 24))
  have b0 := (((Below.refl w.heap.size w).alloc (Nat.le_refl _) (.cells #[.bool n1, .slice A xs.length c] 24)).alloc (by simp) (.cells #[.bool n2, .slice B ys.length d] 24)).alloc (by simp; omega) (.cells #[.bool false, .slice none 0 0] 24)
  simp only [World.size_alloc] at py pr
  clear h g
  go_enter Tryd.func39, Tryd.ntmps39
  go_wp2_with fail
  obtain ⟨W, E⟩ : ∃ W, W = ((w.alloc (.cells #[.bool n1, .slice A xs.length c] 24)).alloc (.cells #[.bool n2, .slice B ys.length d] 24)).alloc (.cells #[.bool false, .slice none 0 0] 24) := ⟨_, rfl⟩
  rw [← E] at px py pr b0 rx ry ⊢
  clear E
  have PX := Lib.hid px
  have PY := Lib.hid py
  have PR := Lib.hid pr
  have B0 := Lib.hid b0
  have RX := Lib.hid rx
  have RY := Lib.hid ry
  have hlr := pr.blk.lt
  have hsz := b0.size
  obtain ⟨l1, x0, x1, -, -⟩ := px.facts
  obtain ⟨l2, y0, y1, -, -⟩ := py.facts
  clear px py pr rx ry b0
  have C0 := Lib.hid (fun (V : World) (hV : Below W.heap.size W V) => exact_size_told A B c d xs ys hcx hcy (by omega) (by omega) V (RX.out.below hV) (RY.out.below hV))
  have C1 := Lib.hid (fun (V : World) (hV : Below W.heap.size W V) => exact_sub A B c d xs ys hlen HLE.out (by omega) V (RX.out.below hV) (RY.out.below hV))
  have C2 := Lib.hid (fun (V : World) (v : Value) (hV : OwnL V W.heap.size v (val xs - val ys) xs.length) => show Calls Tryd.prog 47 #[.bool n1, v] V (RetInt W.heap.size V z) from by rw [HZV.out]; exact exact_signed_own n1 v _ _ _ V hV)
  refine (C0.out W (Below.refl _ _)).mono ?_
  rintro e wz ⟨k, rfl, hk, hbz⟩
  have HW := Lib.hid hbz
  have hk2 := hk.1 hle
  have hdk : decide ((0 : Int) ≤ k) = true := by simp; omega
  obtain ⟨-, xz0, xz1, -, -⟩ := (PX.out.below hbz).facts
  obtain ⟨-, yz0, yz1, -, -⟩ := (PY.out.below hbz).facts
  clear hk hbz C0 hle hcx hcy hne
  go_wp2_with fail
  refine wp_region_steps [.val (.pointer (some ⟨w.heap.size, 0, none⟩)), .val (.bool n1), .val (.pointer (some ⟨w.heap.size, 1, none⟩)), .val (.slice A xs.length c), .val (.pointer (some ⟨w.heap.size + 1, 1, none⟩)), .val (.slice B ys.length d), .step, .step, .step] 2 3 W
    (fun us V => match us with
      | [] => True
      | [va] => OwnL V W.heap.size va (val xs - val ys) (xs.length)
      | [_, vb] => IntOwn V W.heap.size vb z
      | _ => False)
    (fun _ V => ∃ A1 c1, IntOwn V W.heap.size (.agg #[.bool (decide (z < 0)), .slice A1 (natL z.natAbs).length c1]) z ∧ Pair V (w.heap.size + 1 + 1) 24 (.bool (decide (z < 0))) (.slice A1 (natL z.natAbs).length c1) ∧ Below w.heap.size w V)
    _ mixedOrders2 (by kernel_rfl) (by kernel_rfl) (by kernel_rfl) (by kernel_rfl) (by kernel_rfl) (by kernel_rfl) (by kernel_rfl) (by kernel_rfl) (by kernel_rfl) rfl ?_ HW.out trivial ?_ ?_ ?_
  · intro us V V' hg hb
    match us, hg with
    | [], _ => trivial
    | [va], hg => exact hg.below hb
    | [va, vb], hg => exact hg.below hb
  · simp [ValsOk, chainAct, fill, pairs, valAt]
    repeat' apply And.intro
    all_goals
      intro V hV
      obtain ⟨-, e0, e1, -, -⟩ := (PX.out.below hV).facts
      obtain ⟨-, f0, f1, -, -⟩ := (PY.out.below hV).facts
      clear hV
      go_simp
      exact Below.refl _ _
  · simp [StepsOk, chainAct, fill, pairs, valAt, stepNo, List.filter, Stp.isStep]
    refine ⟨fun V hV => ?_, fun va => ⟨fun V hV hva => ?_, fun vb V hV hvb => ?_⟩⟩
    · go_simp
      refine (C1.out V hV).mono ?_
      rintro e w' ⟨v, rfl, hv, hb⟩
      exact ⟨belowTo hV hb, hv.base hV.size⟩
    · go_simp
      refine (C2.out V va hva).mono ?_
      rintro e w' ⟨v, rfl, hv, hb⟩
      exact ⟨belowTo hV hb, hv⟩
    · obtain ⟨A1, c1, rfl, -⟩ := hvb.form
      have pr := PR.out.below hV
      obtain ⟨p1, p2, p3, p4, p5⟩ := pr.facts
      go_simp
      exact ⟨A1, c1, hvb.pair (by omega), pr.store _ _, below2 (belowTo B0.out hV) (by omega) _ _⟩
  · intro us V hus hF
    simp only [show ¬ (3 ≤ 2) by decide, if_false] at hF
    obtain ⟨A1, c1, hI, pr, hb⟩ := hF
    obtain ⟨u0, u1, u2, rfl⟩ : ∃ u0 u1 u2, us = [u0, u1, u2] := by
      match us, hus with
      | [u0, u1, u2], _ => exact ⟨u0, u1, u2, rfl⟩
    simp [chainAct, fill, pairs, valAt, stepNo, List.filter, Stp.isStep]
    obtain ⟨_, k0, k1, _, _⟩ := pr.facts
    clear PX PY RX RY l1 x0 x1 l2 y0 y1 xz0 xz1 yz0 yz1
    go_wp2_with fail
    exact bodyPost_ret (by simp [results, Tryd.results39, go_sem, k0, k1]) rfl ⟨_, rfl, hI.base hsz, hb⟩

set_option maxRecDepth 100000 in
set_option maxHeartbeats 2000000 in
theorem exact_Plus_y (n1 n2 : Bool) (hne : (n1 == n2) = false) (A B : Option Addr) (c d : Nat) (xs ys : List Nat) (hcx : Canon xs) (hcy : Canon ys) (hle : val xs < val ys) (hlx : xs.length ≤ 536870912) (hly : ys.length ≤ 536870912) (z : Int) (HZV : Hid (z = if n2 then -((val ys - val xs : Nat) : Int) else ((val ys - val xs : Nat) : Int))) (w : World) (h : Raw w A c xs) (g : Raw w B d ys) :
    Calls Tryd.prog 39 #[.agg #[.bool n1, .slice A xs.length c], .agg #[.bool n2, .slice B ys.length d]] w (RetInt w.heap.size w z) := by
  have hlen : xs.length ≤ ys.length := len_of_val h.limbs g.limbs hcx (by omega)
  have HLE := Lib.hid (show val xs ≤ val ys by omega)
  have px := ((Pair.new w 24 (.bool n1) (.slice A xs.length c)).alloc (.cells #[.bool n2, .slice B ys.length d] 24)).alloc (.cells #[.bool false, .slice none 0 0] 24)
  have py := (Pair.new (w.alloc (.cells #[.bool n1, .slice A xs.length c] 24)) 24 (.bool n2) (.slice B ys.length d)).alloc (.cells #[.bool false, .slice none 0 0] 24)
  have pr := Pair.new ((w.alloc (.cells #[.bool n1, .slice A xs.length c] 24)).alloc (.cells #[.bool n2, .slice B ys.length d] 24)) 24 (.bool false) (.slice none 0 0)
  have rx := (((h.alloc (.cells #[.bool n1, .slice A xs.length c] 24)).alloc (.cells #[.bool n2, .slice B ys.length d] 24)).alloc (.cells #[.bool false, .slice none 0 0] 24))
  have ry := (((g.alloc (.cells #[.bool n1, .slice A xs.length c] 24)).alloc (.cells #[.bool n2, .slice B ys.length d] 24)).alloc (.cells #[.bool false, .slice none 0 0] 24))
  have b0 := (((Below.refl w.heap.size w).alloc (Nat.le_refl _) (.cells #[.bool n1, .slice A xs.length c] 24)).alloc (by simp) (.cells #[.bool n2, .slice B ys.length d] 24)).alloc (by simp; omega) (.cells #[.bool false, .slice none 0 0] 24)
  simp only [World.size_alloc] at py pr
  clear h g
  go_enter Tryd.func39, Tryd.ntmps39
  go_wp2_with fail
  obtain ⟨W, E⟩ : ∃ W, W = ((w.alloc (.cells #[.bool n1, .slice A xs.length c] 24)).alloc (.cells #[.bool n2, .slice B ys.length d] 24)).alloc (.cells #[.bool false, .slice none 0 0] 24) := ⟨_, rfl⟩
  rw [← E] at px py pr b0 rx ry ⊢
  clear E
  have PX := Lib.hid px
  have PY := Lib.hid py
  have PR := Lib.hid pr
  have B0 := Lib.hid b0
  have RX := Lib.hid rx
  have RY := Lib.hid ry
  have hlr := pr.blk.lt
  have hsz := b0.size
  obtain ⟨l1, x0, x1, -, -⟩ := px.facts
  obtain ⟨l2, y0, y1, -, -⟩ := py.facts
  clear px py pr rx ry b0
  have C0 := Lib.hid (fun (V : World) (hV : Below W.heap.size W V) => exact_size_told A B c d xs ys hcx hcy (by omega) (by omega) V (RX.out.below hV) (RY.out.below hV))
  have C1 := Lib.hid (fun (V : World) (hV : Below W.heap.size W V) => exact_sub B A d c ys xs hlen HLE.out (by omega) V (RY.out.below hV) (RX.out.below hV))
  have C2 := Lib.hid (fun (V : World) (v : Value) (hV : OwnL V W.heap.size v (val ys - val xs) ys.length) => show Calls Tryd.prog 47 #[.bool n2, v] V (RetInt W.heap.size V z) from by rw [HZV.out]; exact exact_signed_own n2 v _ _ _ V hV)
  refine (C0.out W (Below.refl _ _)).mono ?_
  rintro e wz ⟨k, rfl, hk, hbz⟩
  have HW := Lib.hid hbz
  have hk2 := hk.2 hle
  have hdk : decide ((0 : Int) ≤ k) = false := by simp; omega
  obtain ⟨-, xz0, xz1, -, -⟩ := (PX.out.below hbz).facts
  obtain ⟨-, yz0, yz1, -, -⟩ := (PY.out.below hbz).facts
  clear hk hbz C0 hle hcx hcy hne
  go_wp2_with fail
  refine wp_region_steps [.val (.pointer (some ⟨w.heap.size + 1, 0, none⟩)), .val (.bool n2), .val (.pointer (some ⟨w.heap.size + 1, 1, none⟩)), .val (.slice B ys.length d), .val (.pointer (some ⟨w.heap.size, 1, none⟩)), .val (.slice A xs.length c), .step, .step, .step] 2 3 W
    (fun us V => match us with
      | [] => True
      | [va] => OwnL V W.heap.size va (val ys - val xs) (ys.length)
      | [_, vb] => IntOwn V W.heap.size vb z
      | _ => False)
    (fun _ V => ∃ A1 c1, IntOwn V W.heap.size (.agg #[.bool (decide (z < 0)), .slice A1 (natL z.natAbs).length c1]) z ∧ Pair V (w.heap.size + 1 + 1) 24 (.bool (decide (z < 0))) (.slice A1 (natL z.natAbs).length c1) ∧ Below w.heap.size w V)
    _ mixedOrders2 (by kernel_rfl) (by kernel_rfl) (by kernel_rfl) (by kernel_rfl) (by kernel_rfl) (by kernel_rfl) (by kernel_rfl) (by kernel_rfl) (by kernel_rfl) rfl ?_ HW.out trivial ?_ ?_ ?_
  · intro us V V' hg hb
    match us, hg with
    | [], _ => trivial
    | [va], hg => exact hg.below hb
    | [va, vb], hg => exact hg.below hb
  · simp [ValsOk, chainAct, fill, pairs, valAt]
    repeat' apply And.intro
    all_goals
      intro V hV
      obtain ⟨-, e0, e1, -, -⟩ := (PX.out.below hV).facts
      obtain ⟨-, f0, f1, -, -⟩ := (PY.out.below hV).facts
      clear hV
      go_simp
      exact Below.refl _ _
  · simp [StepsOk, chainAct, fill, pairs, valAt, stepNo, List.filter, Stp.isStep]
    refine ⟨fun V hV => ?_, fun va => ⟨fun V hV hva => ?_, fun vb V hV hvb => ?_⟩⟩
    · go_simp
      refine (C1.out V hV).mono ?_
      rintro e w' ⟨v, rfl, hv, hb⟩
      exact ⟨belowTo hV hb, hv.base hV.size⟩
    · go_simp
      refine (C2.out V va hva).mono ?_
      rintro e w' ⟨v, rfl, hv, hb⟩
      exact ⟨belowTo hV hb, hv⟩
    · obtain ⟨A1, c1, rfl, -⟩ := hvb.form
      have pr := PR.out.below hV
      obtain ⟨p1, p2, p3, p4, p5⟩ := pr.facts
      go_simp
      exact ⟨A1, c1, hvb.pair (by omega), pr.store _ _, below2 (belowTo B0.out hV) (by omega) _ _⟩
  · intro us V hus hF
    simp only [show ¬ (3 ≤ 2) by decide, if_false] at hF
    obtain ⟨A1, c1, hI, pr, hb⟩ := hF
    obtain ⟨u0, u1, u2, rfl⟩ : ∃ u0 u1 u2, us = [u0, u1, u2] := by
      match us, hus with
      | [u0, u1, u2], _ => exact ⟨u0, u1, u2, rfl⟩
    simp [chainAct, fill, pairs, valAt, stepNo, List.filter, Stp.isStep]
    obtain ⟨_, k0, k1, _, _⟩ := pr.facts
    clear PX PY RX RY l1 x0 x1 l2 y0 y1 xz0 xz1 yz0 yz1
    go_wp2_with fail
    exact bodyPost_ret (by simp [results, Tryd.results39, go_sem, k0, k1]) rfl ⟨_, rfl, hI.base hsz, hb⟩

theorem exact_Plus (n1 n2 : Bool) (A B : Option Addr) (c d : Nat) (xs ys : List Nat) (hcx : Canon xs) (hcy : Canon ys) (hlx : xs.length ≤ 536870912) (hly : ys.length ≤ 536870912) (w : World) (h : Raw w A c xs) (g : Raw w B d ys) :
    Calls Tryd.prog 39 #[.agg #[.bool n1, .slice A xs.length c], .agg #[.bool n2, .slice B ys.length d]] w (RetInt w.heap.size w (ival n1 xs + ival n2 ys)) := by
  by_cases hn : (n1 == n2) = true
  · obtain rfl : n1 = n2 := by simpa using hn
    exact exact_Plus_like n1 A B c d xs ys hlx hly _ (by unfold ival; show _ = _; cases n1 <;> simp <;> omega) w h g
  · have hn' : (n1 == n2) = false := by simpa using hn
    have hn2 : n2 = !n1 := by cases n1 <;> cases n2 <;> simp_all
    by_cases hle : val ys ≤ val xs
    · exact exact_Plus_x n1 n2 hn' A B c d xs ys hcx hcy hle hlx hly _ (by unfold ival; show _ = _; subst hn2; cases n1 <;> simp <;> omega) w h g
    · exact exact_Plus_y n1 n2 hn' A B c d xs ys hcx hcy (by omega) hlx hly _ (by unfold ival; show _ = _; subst hn2; cases n1 <;> simp <;> omega) w h g
end Go.Proofs.YtpcdiijmhllejaaDoor

/- More of copies and sizes, for the laws' walks. -/
namespace Go.Proofs.YtpcdiijmhllejaaDoor
open Go.RowKit

theorem Reads.new2 (w : World) (t : TypeId) (a b : Value) : Reads (w.alloc (.cells #[a, b] t)) (w.heap.size + 1) 1 (some ⟨w.heap.size, 0, none⟩) 2 [a, b] :=
  ⟨rfl, fun _ => ⟨⟨w.heap.size, 0, none⟩, rfl, by simp, fun j u hu => by
    have hj : j < 2 := (List.getElem?_eq_some_iff.1 hu).1
    rw [show (⟨w.heap.size, 0, none⟩ : Addr).add j = ⟨w.heap.size, j, none⟩ by unfold Addr.add; split <;> simp_all, (Blk.new w t #[a, b]).cell j, ← hu]
    simp⟩⟩
theorem below_one {W w : World} (h : Below W.heap.size W w) (o : Obj) : Below W.heap.size W (w.alloc o) := h.alloc h.size o
theorem below_two {W w : World} (h : Below W.heap.size W w) (o p : Obj) : Below W.heap.size W ((w.alloc o).alloc p) := (h.alloc h.size o).alloc (by have := h.size; simp; omega) p

theorem TwinAt.far2 {w : World} {g g' : Nat} {xs : List Nat} (h : TwinAt w g xs) (hn : g ≠ g') (a b : Value) : TwinAt ((w.setCell ⟨g', 0, none⟩ a).setCell ⟨g', 1, none⟩ b) g xs := ⟨h.blk.far2 hn a b⟩
theorem Pair.new' {w : World} {g : Nat} (h : g = w.heap.size) (t : TypeId) (a b : Value) : Pair (w.alloc (.cells #[a, b] t)) g t a b := h ▸ Pair.new w t a b
theorem keep_of {W w' : World} (q : Below W.heap.size W w') : Below W.heap.size W w' ∧ ∀ b o, b < W.heap.size → w'.cell? ⟨b, o, none⟩ = W.cell? ⟨b, o, none⟩ :=
  ⟨q, fun b o h => q.cell (p := ⟨b, o, none⟩) h⟩

end Go.Proofs.YtpcdiijmhllejaaDoor
