/- Several texts in one: Plus, Twin2, DivRows. -/
import Derived.Test.YtkncbenhfcpgkaaDoorBu08
import Derived.Test.YtkncbenhfcpgkaaDoorBuHd
import Derived.Test.YtkncbenhfcpgkaaDoorBu10
import Derived.Test.YtkncbenhfcpgkaaDoorBu01
import Derived.Test.YtkncbenhfcpgkaaDoorBu09
import Derived.Test.YtkncbenhfcpgkaaDoorBu05
import Derived.Test.YtkncbenhfcpgkaaDoorBu04
import Derived.Test.YtkncbenhfcpgkaaDoorBu03
import Derived.Test.YtkncbenhfcpgkaaDoorBu02
import Derived.Test.YtkncbenhfcpgkaaDoorBu06
import Derived.Test.YtkncbenhfcpgkaaDoorBu07
import Derived.WalkMore
import Derived.Deep.RegionWith
import Derived.Deep.RegionHeld3
import Derived.Deep.DeepCutAuto
import Derived.Deep.CutBlock
set_option maxRecDepth 100000
set_option maxHeartbeats 8000000
/- Plus of package exact: what it counts. (Written by wip/exact/genplus.py.) -/
namespace Go.Proofs.YtkncbenhfcpgkaaDoor
open Go.RowKit

theorem mixedOrders2 : Tryd.prog.follows .mixedOrders = true := by kernel_rfl
theorem len_of_val {xs ys : List Nat} (hx : Limbs xs) (hy : Limbs ys) (hc : Canon xs) (h : val xs ≤ val ys) : xs.length ≤ ys.length := by
  have e := natL_val hx hc
  rw [← e]
  exact natL_length_le.2 (Nat.lt_of_le_of_lt h (val_lt hy))
theorem exact_size_told (A B : Option Addr) (c d : Nat) (xs ys : List Nat) (hcx : Canon xs) (hcy : Canon ys) (hn : xs.length ≤ 4611686018427387904) (hm : ys.length ≤ 4611686018427387904) (w : World) (h : Raw w A c xs) (g : Raw w B d ys) :
    Calls Tryd.prog 35 #[.slice A xs.length c, .slice B ys.length d] w fun e w' => ∃ k : Int, e = .returned (.int .i64 k) ∧ ((val ys ≤ val xs → 0 ≤ k) ∧ (val xs < val ys → k < 0)) ∧ Below w.heap.size w w' := by
  refine (exact_size_any A B c d xs ys hcx hcy hn hm w h g).mono ?_
  rintro e w' ⟨k, rfl, h1, h2, h3, h4, h5, hb⟩
  refine ⟨k, rfl, ⟨fun h => ?_, h3⟩, hb⟩
  rcases Nat.lt_or_eq_of_le h with h | h
  · exact Int.le_of_lt (h5 h)
  · rw [h4 h.symm]; omega

theorem exact_Plus_like (n1 : Bool) (A B : Option Addr) (c d : Nat) (xs ys : List Nat) (hlx : xs.length ≤ 536870912) (hly : ys.length ≤ 536870912) (z : Int) (HZV : Hid (z = if n1 then -((val xs + val ys : Nat) : Int) else ((val xs + val ys : Nat) : Int))) (w : World) (h : Raw w A c xs) (g : Raw w B d ys) :
    Calls Tryd.prog 23 #[.agg #[.bool n1, .slice A xs.length c], .agg #[.bool n1, .slice B ys.length d]] w (RetInt w.heap.size w z) := by
  have px := ((Pair.new w 24 (.bool n1) (.slice A xs.length c)).alloc (.cells #[.bool n1, .slice B ys.length d] 24)).alloc (.cells #[.bool false, .slice none 0 0] 24)
  have py := (Pair.new (w.alloc (.cells #[.bool n1, .slice A xs.length c] 24)) 24 (.bool n1) (.slice B ys.length d)).alloc (.cells #[.bool false, .slice none 0 0] 24)
  have pr := Pair.new ((w.alloc (.cells #[.bool n1, .slice A xs.length c] 24)).alloc (.cells #[.bool n1, .slice B ys.length d] 24)) 24 (.bool false) (.slice none 0 0)
  have rx := (((h.alloc (.cells #[.bool n1, .slice A xs.length c] 24)).alloc (.cells #[.bool n1, .slice B ys.length d] 24)).alloc (.cells #[.bool false, .slice none 0 0] 24))
  have ry := (((g.alloc (.cells #[.bool n1, .slice A xs.length c] 24)).alloc (.cells #[.bool n1, .slice B ys.length d] 24)).alloc (.cells #[.bool false, .slice none 0 0] 24))
  have b0 := (((Below.refl w.heap.size w).alloc (Nat.le_refl _) (.cells #[.bool n1, .slice A xs.length c] 24)).alloc (by simp) (.cells #[.bool n1, .slice B ys.length d] 24)).alloc (by simp; omega) (.cells #[.bool false, .slice none 0 0] 24)
  simp only [World.size_alloc] at py pr
  clear h g
  go_enter Tryd.func23, Tryd.ntmps23
  go_wp2_with fail
  obtain ⟨W, E⟩ : ∃ W, W = ((w.alloc (.cells #[.bool n1, .slice A xs.length c] 24)).alloc (.cells #[.bool n1, .slice B ys.length d] 24)).alloc (.cells #[.bool false, .slice none 0 0] 24) := ⟨_, rfl⟩
  rw [← E] at px py pr b0 rx ry ⊢
  clear E
  have PX := Hd px
  have PY := Hd py
  have PR := Hd pr
  have B0 := Hd b0
  have RX := Hd rx
  have RY := Hd ry
  have hlr := pr.blk.lt
  have hsz := b0.size
  obtain ⟨l1, x0, x1, -, -⟩ := px.facts
  obtain ⟨l2, y0, y1, -, -⟩ := py.facts
  clear px py pr rx ry b0
  have C1 := Hd (fun (V : World) (hV : Below W.heap.size W V) => exact_add A B c d xs ys (by omega) (by omega) V (RX.out.below hV) (RY.out.below hV))
  have C2 := Hd (fun (V : World) (v : Value) (hV : OwnL V W.heap.size v (val xs + val ys) (max xs.length ys.length + 1)) => show Calls Tryd.prog 33 #[.bool n1, v] V (RetInt W.heap.size V z) from by rw [HZV.out]; exact exact_signed_own n1 v _ _ _ V hV)
  have HW := Hd (Below.refl W.heap.size W)
  refine wp_region_steps [.val (.pointer (some ⟨w.heap.size, 0, none⟩)), .val (.bool n1), .val (.pointer (some ⟨w.heap.size, 1, none⟩)), .val (.slice A xs.length c), .val (.pointer (some ⟨w.heap.size + 1, 1, none⟩)), .val (.slice B ys.length d), .step, .step, .step] 2 3 W
    (fun us V => match us with
      | [] => True
      | [va] => OwnL V W.heap.size va (val xs + val ys) (max xs.length ys.length + 1)
      | [_, vb] => IntOwn V W.heap.size vb z
      | _ => False)
    (fun _ V => ∃ A1 c1, IntOwn V W.heap.size (.agg #[.bool (decide (z < 0)), .slice A1 (natL z.natAbs).length c1]) z ∧ Pair V (w.heap.size + 1 + 1) 24 (.bool (decide (z < 0))) (.slice A1 (natL z.natAbs).length c1) ∧ Below w.heap.size w V)
    _ mixedOrders2 (by kernel_rfl) (by kernel_rfl) (by kernel_rfl) (by kernel_rfl) (by kernel_rfl) (by kernel_rfl) (by kernel_rfl) (by kernel_rfl) (by kernel_rfl) rfl ?_ HW.out trivial ?_ ?_ ?_
  · intro us V V' hg hb
    match us, hg with
    | [], _ => trivial
    | [va], hg => exact hg.below hb
    | [va, vb], hg => exact hg.below hb
  · simp [ValsOk, chainAct, fill, pairs, valAt]
    repeat' apply And.intro
    all_goals
      intro V hV
      obtain ⟨-, e0, e1, -, -⟩ := (PX.out.below hV).facts
      obtain ⟨-, f0, f1, -, -⟩ := (PY.out.below hV).facts
      clear hV
      go_simp
      exact Below.refl _ _
  · simp [StepsOk, chainAct, fill, pairs, valAt, stepNo, List.filter, Stp.isStep]
    refine ⟨fun V hV => ?_, fun va => ⟨fun V hV hva => ?_, fun vb V hV hvb => ?_⟩⟩
    · go_simp
      refine (C1.out V hV).mono ?_
      rintro e w' ⟨v, rfl, hv, hb⟩
      exact ⟨belowTo hV hb, hv.base hV.size⟩
    · go_simp
      refine (C2.out V va hva).mono ?_
      rintro e w' ⟨v, rfl, hv, hb⟩
      exact ⟨belowTo hV hb, hv⟩
    · obtain ⟨A1, c1, rfl, -⟩ := hvb.form
      have pr := PR.out.below hV
      obtain ⟨p1, p2, p3, p4, p5⟩ := pr.facts
      go_simp
      exact ⟨A1, c1, hvb.pair (by omega), pr.store _ _, below2 (belowTo B0.out hV) (by omega) _ _⟩
  · intro us V hus hF
    simp only [show ¬ (3 ≤ 2) by decide, if_false] at hF
    obtain ⟨A1, c1, hI, pr, hb⟩ := hF
    obtain ⟨u0, u1, u2, rfl⟩ : ∃ u0 u1 u2, us = [u0, u1, u2] := by
      match us, hus with
      | [u0, u1, u2], _ => exact ⟨u0, u1, u2, rfl⟩
    simp [chainAct, fill, pairs, valAt, stepNo, List.filter, Stp.isStep]
    obtain ⟨_, k0, k1, _, _⟩ := pr.facts
    clear PX PY RX RY l1 x0 x1 l2 y0 y1
    go_wp2_with fail
    exact bodyPost_ret (by simp [results, Tryd.results23, go_sem, k0, k1]) rfl ⟨_, rfl, hI.base hsz, hb⟩

theorem exact_Plus_x (n1 n2 : Bool) (hne : (n1 == n2) = false) (A B : Option Addr) (c d : Nat) (xs ys : List Nat) (hcx : Canon xs) (hcy : Canon ys) (hle : val ys ≤ val xs) (hlx : xs.length ≤ 536870912) (hly : ys.length ≤ 536870912) (z : Int) (HZV : Hid (z = if n1 then -((val xs - val ys : Nat) : Int) else ((val xs - val ys : Nat) : Int))) (w : World) (h : Raw w A c xs) (g : Raw w B d ys) :
    Calls Tryd.prog 23 #[.agg #[.bool n1, .slice A xs.length c], .agg #[.bool n2, .slice B ys.length d]] w (RetInt w.heap.size w z) := by
  have hlen : ys.length ≤ xs.length := len_of_val g.limbs h.limbs hcy (by omega)
  have HLE := Hd (show val ys ≤ val xs by omega)
  have px := ((Pair.new w 24 (.bool n1) (.slice A xs.length c)).alloc (.cells #[.bool n2, .slice B ys.length d] 24)).alloc (.cells #[.bool false, .slice none 0 0] 24)
  have py := (Pair.new (w.alloc (.cells #[.bool n1, .slice A xs.length c] 24)) 24 (.bool n2) (.slice B ys.length d)).alloc (.cells #[.bool false, .slice none 0 0] 24)
  have pr := Pair.new ((w.alloc (.cells #[.bool n1, .slice A xs.length c] 24)).alloc (.cells #[.bool n2, .slice B ys.length d] 24)) 24 (.bool false) (.slice none 0 0)
  have rx := (((h.alloc (.cells #[.bool n1, .slice A xs.length c] 24)).alloc (.cells #[.bool n2, .slice B ys.length d] 24)).alloc (.cells #[.bool false, .slice none 0 0] 24))
  have ry := (((g.alloc (.cells #[.bool n1, .slice A xs.length c] 24)).alloc (.cells #[.bool n2, .slice B ys.length d] 24)).alloc (.cells #[.bool false, .slice none 0 0] 24))
  have b0 := (((Below.refl w.heap.size w).alloc (Nat.le_refl _) (.cells #[.bool n1, .slice A xs.length c] 24)).alloc (by simp) (.cells #[.bool n2, .slice B ys.length d] 24)).alloc (by simp; omega) (.cells #[.bool false, .slice none 0 0] 24)
  simp only [World.size_alloc] at py pr
  clear h g
  go_enter Tryd.func23, Tryd.ntmps23
  go_wp2_with fail
  obtain ⟨W, E⟩ : ∃ W, W = ((w.alloc (.cells #[.bool n1, .slice A xs.length c] 24)).alloc (.cells #[.bool n2, .slice B ys.length d] 24)).alloc (.cells #[.bool false, .slice none 0 0] 24) := ⟨_, rfl⟩
  rw [← E] at px py pr b0 rx ry ⊢
  clear E
  have PX := Hd px
  have PY := Hd py
  have PR := Hd pr
  have B0 := Hd b0
  have RX := Hd rx
  have RY := Hd ry
  have hlr := pr.blk.lt
  have hsz := b0.size
  obtain ⟨l1, x0, x1, -, -⟩ := px.facts
  obtain ⟨l2, y0, y1, -, -⟩ := py.facts
  clear px py pr rx ry b0
  have C0 := Hd (fun (V : World) (hV : Below W.heap.size W V) => exact_size_told A B c d xs ys hcx hcy (by omega) (by omega) V (RX.out.below hV) (RY.out.below hV))
  have C1 := Hd (fun (V : World) (hV : Below W.heap.size W V) => exact_sub A B c d xs ys hlen HLE.out (by omega) V (RX.out.below hV) (RY.out.below hV))
  have C2 := Hd (fun (V : World) (v : Value) (hV : OwnL V W.heap.size v (val xs - val ys) xs.length) => show Calls Tryd.prog 33 #[.bool n1, v] V (RetInt W.heap.size V z) from by rw [HZV.out]; exact exact_signed_own n1 v _ _ _ V hV)
  refine (C0.out W (Below.refl _ _)).mono ?_
  rintro e wz ⟨k, rfl, hk, hbz⟩
  have HW := Hd hbz
  have hk2 := hk.1 hle
  have hdk : decide ((0 : Int) ≤ k) = true := by simp; omega
  obtain ⟨-, xz0, xz1, -, -⟩ := (PX.out.below hbz).facts
  obtain ⟨-, yz0, yz1, -, -⟩ := (PY.out.below hbz).facts
  clear hk hbz C0 hle hcx hcy hne
  go_wp2_with fail
  refine wp_region_steps [.val (.pointer (some ⟨w.heap.size, 0, none⟩)), .val (.bool n1), .val (.pointer (some ⟨w.heap.size, 1, none⟩)), .val (.slice A xs.length c), .val (.pointer (some ⟨w.heap.size + 1, 1, none⟩)), .val (.slice B ys.length d), .step, .step, .step] 2 3 W
    (fun us V => match us with
      | [] => True
      | [va] => OwnL V W.heap.size va (val xs - val ys) (xs.length)
      | [_, vb] => IntOwn V W.heap.size vb z
      | _ => False)
    (fun _ V => ∃ A1 c1, IntOwn V W.heap.size (.agg #[.bool (decide (z < 0)), .slice A1 (natL z.natAbs).length c1]) z ∧ Pair V (w.heap.size + 1 + 1) 24 (.bool (decide (z < 0))) (.slice A1 (natL z.natAbs).length c1) ∧ Below w.heap.size w V)
    _ mixedOrders2 (by kernel_rfl) (by kernel_rfl) (by kernel_rfl) (by kernel_rfl) (by kernel_rfl) (by kernel_rfl) (by kernel_rfl) (by kernel_rfl) (by kernel_rfl) rfl ?_ HW.out trivial ?_ ?_ ?_
  · intro us V V' hg hb
    match us, hg with
    | [], _ => trivial
    | [va], hg => exact hg.below hb
    | [va, vb], hg => exact hg.below hb
  · simp [ValsOk, chainAct, fill, pairs, valAt]
    repeat' apply And.intro
    all_goals
      intro V hV
      obtain ⟨-, e0, e1, -, -⟩ := (PX.out.below hV).facts
      obtain ⟨-, f0, f1, -, -⟩ := (PY.out.below hV).facts
      clear hV
      go_simp
      exact Below.refl _ _
  · simp [StepsOk, chainAct, fill, pairs, valAt, stepNo, List.filter, Stp.isStep]
    refine ⟨fun V hV => ?_, fun va => ⟨fun V hV hva => ?_, fun vb V hV hvb => ?_⟩⟩
    · go_simp
      refine (C1.out V hV).mono ?_
      rintro e w' ⟨v, rfl, hv, hb⟩
      exact ⟨belowTo hV hb, hv.base hV.size⟩
    · go_simp
      refine (C2.out V va hva).mono ?_
      rintro e w' ⟨v, rfl, hv, hb⟩
      exact ⟨belowTo hV hb, hv⟩
    · obtain ⟨A1, c1, rfl, -⟩ := hvb.form
      have pr := PR.out.below hV
      obtain ⟨p1, p2, p3, p4, p5⟩ := pr.facts
      go_simp
      exact ⟨A1, c1, hvb.pair (by omega), pr.store _ _, below2 (belowTo B0.out hV) (by omega) _ _⟩
  · intro us V hus hF
    simp only [show ¬ (3 ≤ 2) by decide, if_false] at hF
    obtain ⟨A1, c1, hI, pr, hb⟩ := hF
    obtain ⟨u0, u1, u2, rfl⟩ : ∃ u0 u1 u2, us = [u0, u1, u2] := by
      match us, hus with
      | [u0, u1, u2], _ => exact ⟨u0, u1, u2, rfl⟩
    simp [chainAct, fill, pairs, valAt, stepNo, List.filter, Stp.isStep]
    obtain ⟨_, k0, k1, _, _⟩ := pr.facts
    clear PX PY RX RY l1 x0 x1 l2 y0 y1 xz0 xz1 yz0 yz1
    go_wp2_with fail
    exact bodyPost_ret (by simp [results, Tryd.results23, go_sem, k0, k1]) rfl ⟨_, rfl, hI.base hsz, hb⟩

theorem exact_Plus_y (n1 n2 : Bool) (hne : (n1 == n2) = false) (A B : Option Addr) (c d : Nat) (xs ys : List Nat) (hcx : Canon xs) (hcy : Canon ys) (hle : val xs < val ys) (hlx : xs.length ≤ 536870912) (hly : ys.length ≤ 536870912) (z : Int) (HZV : Hid (z = if n2 then -((val ys - val xs : Nat) : Int) else ((val ys - val xs : Nat) : Int))) (w : World) (h : Raw w A c xs) (g : Raw w B d ys) :
    Calls Tryd.prog 23 #[.agg #[.bool n1, .slice A xs.length c], .agg #[.bool n2, .slice B ys.length d]] w (RetInt w.heap.size w z) := by
  have hlen : xs.length ≤ ys.length := len_of_val h.limbs g.limbs hcx (by omega)
  have HLE := Hd (show val xs ≤ val ys by omega)
  have px := ((Pair.new w 24 (.bool n1) (.slice A xs.length c)).alloc (.cells #[.bool n2, .slice B ys.length d] 24)).alloc (.cells #[.bool false, .slice none 0 0] 24)
  have py := (Pair.new (w.alloc (.cells #[.bool n1, .slice A xs.length c] 24)) 24 (.bool n2) (.slice B ys.length d)).alloc (.cells #[.bool false, .slice none 0 0] 24)
  have pr := Pair.new ((w.alloc (.cells #[.bool n1, .slice A xs.length c] 24)).alloc (.cells #[.bool n2, .slice B ys.length d] 24)) 24 (.bool false) (.slice none 0 0)
  have rx := (((h.alloc (.cells #[.bool n1, .slice A xs.length c] 24)).alloc (.cells #[.bool n2, .slice B ys.length d] 24)).alloc (.cells #[.bool false, .slice none 0 0] 24))
  have ry := (((g.alloc (.cells #[.bool n1, .slice A xs.length c] 24)).alloc (.cells #[.bool n2, .slice B ys.length d] 24)).alloc (.cells #[.bool false, .slice none 0 0] 24))
  have b0 := (((Below.refl w.heap.size w).alloc (Nat.le_refl _) (.cells #[.bool n1, .slice A xs.length c] 24)).alloc (by simp) (.cells #[.bool n2, .slice B ys.length d] 24)).alloc (by simp; omega) (.cells #[.bool false, .slice none 0 0] 24)
  simp only [World.size_alloc] at py pr
  clear h g
  go_enter Tryd.func23, Tryd.ntmps23
  go_wp2_with fail
  obtain ⟨W, E⟩ : ∃ W, W = ((w.alloc (.cells #[.bool n1, .slice A xs.length c] 24)).alloc (.cells #[.bool n2, .slice B ys.length d] 24)).alloc (.cells #[.bool false, .slice none 0 0] 24) := ⟨_, rfl⟩
  rw [← E] at px py pr b0 rx ry ⊢
  clear E
  have PX := Hd px
  have PY := Hd py
  have PR := Hd pr
  have B0 := Hd b0
  have RX := Hd rx
  have RY := Hd ry
  have hlr := pr.blk.lt
  have hsz := b0.size
  obtain ⟨l1, x0, x1, -, -⟩ := px.facts
  obtain ⟨l2, y0, y1, -, -⟩ := py.facts
  clear px py pr rx ry b0
  have C0 := Hd (fun (V : World) (hV : Below W.heap.size W V) => exact_size_told A B c d xs ys hcx hcy (by omega) (by omega) V (RX.out.below hV) (RY.out.below hV))
  have C1 := Hd (fun (V : World) (hV : Below W.heap.size W V) => exact_sub B A d c ys xs hlen HLE.out (by omega) V (RY.out.below hV) (RX.out.below hV))
  have C2 := Hd (fun (V : World) (v : Value) (hV : OwnL V W.heap.size v (val ys - val xs) ys.length) => show Calls Tryd.prog 33 #[.bool n2, v] V (RetInt W.heap.size V z) from by rw [HZV.out]; exact exact_signed_own n2 v _ _ _ V hV)
  refine (C0.out W (Below.refl _ _)).mono ?_
  rintro e wz ⟨k, rfl, hk, hbz⟩
  have HW := Hd hbz
  have hk2 := hk.2 hle
  have hdk : decide ((0 : Int) ≤ k) = false := by simp; omega
  obtain ⟨-, xz0, xz1, -, -⟩ := (PX.out.below hbz).facts
  obtain ⟨-, yz0, yz1, -, -⟩ := (PY.out.below hbz).facts
  clear hk hbz C0 hle hcx hcy hne
  go_wp2_with fail
  refine wp_region_steps [.val (.pointer (some ⟨w.heap.size + 1, 0, none⟩)), .val (.bool n2), .val (.pointer (some ⟨w.heap.size + 1, 1, none⟩)), .val (.slice B ys.length d), .val (.pointer (some ⟨w.heap.size, 1, none⟩)), .val (.slice A xs.length c), .step, .step, .step] 2 3 W
    (fun us V => match us with
      | [] => True
      | [va] => OwnL V W.heap.size va (val ys - val xs) (ys.length)
      | [_, vb] => IntOwn V W.heap.size vb z
      | _ => False)
    (fun _ V => ∃ A1 c1, IntOwn V W.heap.size (.agg #[.bool (decide (z < 0)), .slice A1 (natL z.natAbs).length c1]) z ∧ Pair V (w.heap.size + 1 + 1) 24 (.bool (decide (z < 0))) (.slice A1 (natL z.natAbs).length c1) ∧ Below w.heap.size w V)
    _ mixedOrders2 (by kernel_rfl) (by kernel_rfl) (by kernel_rfl) (by kernel_rfl) (by kernel_rfl) (by kernel_rfl) (by kernel_rfl) (by kernel_rfl) (by kernel_rfl) rfl ?_ HW.out trivial ?_ ?_ ?_
  · intro us V V' hg hb
    match us, hg with
    | [], _ => trivial
    | [va], hg => exact hg.below hb
    | [va, vb], hg => exact hg.below hb
  · simp [ValsOk, chainAct, fill, pairs, valAt]
    repeat' apply And.intro
    all_goals
      intro V hV
      obtain ⟨-, e0, e1, -, -⟩ := (PX.out.below hV).facts
      obtain ⟨-, f0, f1, -, -⟩ := (PY.out.below hV).facts
      clear hV
      go_simp
      exact Below.refl _ _
  · simp [StepsOk, chainAct, fill, pairs, valAt, stepNo, List.filter, Stp.isStep]
    refine ⟨fun V hV => ?_, fun va => ⟨fun V hV hva => ?_, fun vb V hV hvb => ?_⟩⟩
    · go_simp
      refine (C1.out V hV).mono ?_
      rintro e w' ⟨v, rfl, hv, hb⟩
      exact ⟨belowTo hV hb, hv.base hV.size⟩
    · go_simp
      refine (C2.out V va hva).mono ?_
      rintro e w' ⟨v, rfl, hv, hb⟩
      exact ⟨belowTo hV hb, hv⟩
    · obtain ⟨A1, c1, rfl, -⟩ := hvb.form
      have pr := PR.out.below hV
      obtain ⟨p1, p2, p3, p4, p5⟩ := pr.facts
      go_simp
      exact ⟨A1, c1, hvb.pair (by omega), pr.store _ _, below2 (belowTo B0.out hV) (by omega) _ _⟩
  · intro us V hus hF
    simp only [show ¬ (3 ≤ 2) by decide, if_false] at hF
    obtain ⟨A1, c1, hI, pr, hb⟩ := hF
    obtain ⟨u0, u1, u2, rfl⟩ : ∃ u0 u1 u2, us = [u0, u1, u2] := by
      match us, hus with
      | [u0, u1, u2], _ => exact ⟨u0, u1, u2, rfl⟩
    simp [chainAct, fill, pairs, valAt, stepNo, List.filter, Stp.isStep]
    obtain ⟨_, k0, k1, _, _⟩ := pr.facts
    clear PX PY RX RY l1 x0 x1 l2 y0 y1 xz0 xz1 yz0 yz1
    go_wp2_with fail
    exact bodyPost_ret (by simp [results, Tryd.results23, go_sem, k0, k1]) rfl ⟨_, rfl, hI.base hsz, hb⟩

theorem exact_Plus (n1 n2 : Bool) (A B : Option Addr) (c d : Nat) (xs ys : List Nat) (hcx : Canon xs) (hcy : Canon ys) (hlx : xs.length ≤ 536870912) (hly : ys.length ≤ 536870912) (w : World) (h : Raw w A c xs) (g : Raw w B d ys) :
    Calls Tryd.prog 23 #[.agg #[.bool n1, .slice A xs.length c], .agg #[.bool n2, .slice B ys.length d]] w (RetInt w.heap.size w (ival n1 xs + ival n2 ys)) := by
  by_cases hn : (n1 == n2) = true
  · obtain rfl : n1 = n2 := by simpa using hn
    exact exact_Plus_like n1 A B c d xs ys hlx hly _ (by unfold ival; show _ = _; cases n1 <;> simp <;> omega) w h g
  · have hn' : (n1 == n2) = false := by simpa using hn
    have hn2 : n2 = !n1 := by cases n1 <;> cases n2 <;> simp_all
    by_cases hle : val ys ≤ val xs
    · exact exact_Plus_x n1 n2 hn' A B c d xs ys hcx hcy hle hlx hly _ (by unfold ival; show _ = _; subst hn2; cases n1 <;> simp <;> omega) w h g
    · exact exact_Plus_y n1 n2 hn' A B c d xs ys hcx hcy (by omega) hlx hly _ (by unfold ival; show _ = _; subst hn2; cases n1 <;> simp <;> omega) w h g
/- More of copies and sizes, for the laws' walks. -/

theorem TwinAt.far2 {w : World} {g g' : Nat} {xs : List Nat} (h : TwinAt w g xs) (hn : g ≠ g') (a b : Value) : TwinAt ((w.setCell ⟨g', 0, none⟩ a).setCell ⟨g', 1, none⟩ b) g xs := ⟨h.blk.far2 hn a b⟩
theorem keep_of {W w' : World} (q : Below W.heap.size W w') : Below W.heap.size W w' ∧ ∀ b o, b < W.heap.size → w'.cell? ⟨b, o, none⟩ = W.cell? ⟨b, o, none⟩ :=
  ⟨q, fun b o h => q.cell (p := ⟨b, o, none⟩) h⟩

/- For divide of package exact: its blocks, the divisor added back. -/

theorem bits_Lead (t b : Nat) (ht : t < 4294967296) (hb : b = 32 - Lib.bitLen t) (hb2 : Lib.bitLen t ≤ 32) (w : World) :
    Calls Tryd.prog 57 #[.int .u32 t] w fun e w' => e = .returned (.int .i64 b) ∧ w = w' := by
  refine (Tryd.bits_LeadingZeros32 t w (by omega) (by omega)).mono ?_
  rintro e w' ⟨rfl, rfl⟩
  refine ⟨?_, rfl⟩
  rw [Int.toNat_natCast, hb]
  have : (32 : Int) - (Lib.bitLen t : Int) = ((32 - Lib.bitLen t : Nat) : Int) := by omega
  rw [this]
theorem bitLen32 (t : Nat) (ht : t < 4294967296) (h0 : t ≠ 0) : Lib.bitLen t ≤ 32 ∧ 1 ≤ Lib.bitLen t ∧ 2 ^ Lib.bitLen t ≤ 2 * t ∧ t < 2 ^ Lib.bitLen t := by
  have h1 : t < 2 ^ Lib.bitLen t := bla_lt 64 t (by omega)
  have hpos : 1 ≤ Lib.bitLen t := by
    rcases Nat.eq_zero_or_pos (Lib.bitLen t) with h | h
    · rw [h] at h1; omega
    · exact h
  have h2 := bla_ge 64 t (Lib.bitLen t - 1) (by show Lib.bitLen t - 1 < Lib.bitLen t; omega)
  have e : 2 ^ Lib.bitLen t = 2 * 2 ^ (Lib.bitLen t - 1) := by
    rw [← Nat.pow_succ', show (Lib.bitLen t - 1).succ = Lib.bitLen t by omega]
  refine ⟨?_, hpos, by omega, h1⟩
  rcases Nat.lt_or_ge 32 (Lib.bitLen t) with h | h
  · have : 2 ^ 32 ≤ 2 ^ (Lib.bitLen t - 1) := Nat.pow_le_pow_right (by omega) (by omega)
    omega
  · exact h

theorem cut_top {zd : List Nat} {k : Nat} (h : zd.length = k + 1) (hl : Limbs zd) (hv : val zd < 4294967296 ^ k) : ∃ ds, zd = ds ++ [0] ∧ ds.length = k ∧ Limbs ds ∧ val ds = val zd := by
  have e := List.take_append_drop k zd
  have e2 : zd.drop k = [zd[k]] := by
    rw [List.drop_eq_getElem_cons (by omega), List.drop_of_length_le (by omega)]
  have hv2 := val_take_more (xs := zd) (k := k) (by omega)
  rw [List.take_of_length_le (by omega)] at hv2
  have h0 : zd[k] = 0 := by
    rcases Nat.eq_zero_or_pos zd[k] with h | h
    · exact h
    · exfalso
      have := Nat.le_mul_of_pos_right (4294967296 ^ k) h
      generalize 4294967296 ^ k = P at *
      omega
  rw [h0, Nat.mul_zero, Nat.add_zero] at hv2
  rw [h0] at e2
  refine ⟨zd.take k, by rw [← e2, e], by simp [List.length_take]; omega, limbs_take hl k, hv2.symm⟩
theorem top_big {ds : List Nat} {k : Nat} (h : ds.length = k + 1) (hl : Limbs ds) (hv : 2147483648 * 4294967296 ^ k ≤ val ds) : 2147483648 ≤ ds[k] := by
  have hv2 := val_take_more (xs := ds) (k := k) (by omega)
  rw [List.take_of_length_le (by omega)] at hv2
  have h1 := val_lt (limbs_take hl k)
  rw [List.length_take, Nat.min_eq_left (by omega)] at h1
  generalize ds[k] = t at *
  rcases Nat.lt_or_ge t 2147483648 with h2 | h2
  · exfalso
    have h3 := Nat.mul_le_mul_left (4294967296 ^ k) (show t + 1 ≤ 2147483648 from h2)
    rw [Nat.mul_add, Nat.mul_one, Nat.mul_comm _ 2147483648] at h3
    generalize 4294967296 ^ k * t = a at *
    generalize 4294967296 ^ k = P at *
    omega
  · exact h2
theorem split3 (zs : List Nat) (i n : Nat) (h : i + n ≤ zs.length) : ∃ pre ps post, zs = pre ++ ps ++ post ∧ pre.length = i ∧ ps.length = n :=
  ⟨zs.take i, (zs.drop i).take n, (zs.drop i).drop n, by rw [List.append_assoc, List.take_append_drop, List.take_append_drop], by simp [List.length_take]; omega, by simp [List.length_take]; omega⟩

theorem grown_drewN {w0 w : World} {row : Option Nat} (h : w0.grownBy w row) (n : Nat) : w0.grownBy (w.drewN n) row := ⟨h.os, h.tape, h.output, h.size, h.block⟩

theorem down_digit (N n : Nat) : (N : Int) / 2 ^ n % 4294967296 = ((N / 2 ^ n % 4294967296 : Nat) : Int) := by simp
theorem Row.far {w : World} {g : Nat} {zs : List Nat} (h : Row w g zs) {p : Addr} (hp : g ≠ p.block) (u : Value) : Row (w.setCell p u) g zs := ⟨h.blk.far hp u⟩

structure Rows3 (w wr : World) (gl gq gd : Nat) (zs qs ds : List Nat) : Prop where
  rl : Row wr gl zs
  rq : Row wr gq qs
  rd : Row wr gd (ds ++ [0])
  low : Below w.heap.size w wr
  nlq : gl ≠ gq
  ndq : gd ≠ gq
  nld : gl ≠ gd
  bl : w.heap.size ≤ gl
  bq : w.heap.size ≤ gq
section
variable {w wr wr' : World} {gl gq gd : Nat} {zs qs ds : List Nat}
theorem Rows3.stays (h : Rows3 w wr gl gq gd zs qs ds) (hg : wr.grownBy wr' none) : Rows3 w wr' gl gq gd zs qs ds :=
  ⟨h.rl.stays hg (by simp), h.rq.stays hg (by simp), h.rd.stays hg (by simp), h.low.grown hg h.low.size (fun k hk => by cases hk), h.nlq, h.ndq, h.nld, h.bl, h.bq⟩
theorem Rows3.lessed {zs' : List Nat} (h : Rows3 w wr gl gq gd zs qs ds) (hg : wr.grownBy wr' (some gl)) (hr : Row wr' gl zs') : Rows3 w wr' gl gq gd zs' qs ds :=
  ⟨hr, h.rq.stays hg (by have := h.nlq; simp; omega), h.rd.stays hg (by have := h.nld; simp; omega), h.low.grown hg h.low.size (fun k hk => by injection hk with hk; rw [← hk]; exact h.bl), h.nlq, h.ndq, h.nld, h.bl, h.bq⟩
theorem Rows3.setq (h : Rows3 w wr gl gq gd zs qs ds) (i d : Nat) : Rows3 w (wr.setCell ⟨gq, i, none⟩ (.int .u32 (d : Int))) gl gq gd zs (qs.set i d) ds :=
  ⟨h.rl.far h.nlq _, h.rq.set i d, h.rd.far h.ndq _, h.low.setCell (p := ⟨gq, i, none⟩) h.bq _, h.nlq, h.ndq, h.nld, h.bl, h.bq⟩
theorem Rows3.setl {pre ps post : List Nat} (h : Rows3 w wr gl gq gd (pre ++ ps ++ post) qs ds) {k : Nat} (hk : k < ps.length) (d : Nat) : Rows3 w (wr.setCell ⟨gl, pre.length + k, none⟩ (.int .u32 (d : Int))) gl gq gd (pre ++ ps.set k d ++ post) qs ds :=
  ⟨h.rl.mid_set hk d, h.rq.far (Ne.symm h.nlq) _, h.rd.far (Ne.symm h.nld) _, h.low.setCell (p := ⟨gl, pre.length + k, none⟩) h.bl _, h.nlq, h.ndq, h.nld, h.bl, h.bq⟩
end

structure Dw (w wr : World) (gl gq gd r : Nat) (zl0 ds : List Nat) (Y k : Nat) (zs qs : List Nat) : Prop where
  dv : Dv zl0 zs qs Y k
  rows : Rows3 w wr gl gq gd zs qs ds
  qlen : qs.length = r

structure Backed (w wv : World) (gl gq gd : Nat) (pre ps' post qs ds : List Nat) (k c : Nat) (ps'' : List Nat) : Prop where
  len : ps''.length = ps'.length
  limbs : Limbs ps''
  rows : Rows3 w wv gl gq gd (pre ++ ps'' ++ post) qs ds
  rest : ps''.drop k = ps'.drop k
  done : val (ps''.take k) + 4294967296 ^ k * c = val (ps'.take k) + val (ds.take k)
theorem Backed.step {w wv : World} {gl gq gd : Nat} {pre ps' post qs ds ps'' : List Nat} {k c : Nat} (h : Backed w wv gl gq gd pre ps' post qs ds k c ps'') (hk : k < ps'.length) (hkd : k < ds.length) (s : Nat) (hs : s = ps'[k] + ds[k] + c) :
    Backed w (wv.setCell ⟨gl, pre.length + k, none⟩ (.int .u32 ((s % 4294967296 : Nat) : Int))) gl gq gd pre ps' post qs ds (k + 1) (s / 4294967296) (ps''.set k (s % 4294967296)) := by
  have hk2 : k < ps''.length := by rw [h.len]; exact hk
  refine ⟨by simp [h.len], limbs_set h.limbs (Nat.mod_lt _ (by omega)), h.rows.setl hk2 _, drop_set_next h.rest, ?_⟩
  rw [set_take_more hk2, add_step (zs := ps''.take k) (k := k) (by rw [List.length_take]; omega) s h.done (ps'[k] + ds[k]) (by rw [hs]), val_take_more hk, val_take_more hkd, Nat.mul_add]
  omega
theorem back_val {F V U Y P g cc : Nat} (h1 : F + P * cc = V + Y) (h2 : V + g * Y = U + P) (hF : F < P) (hV : V < P) (hlow : g * Y < U + Y) (hcc : cc ≤ 1) : 1 ≤ g ∧ F + (g - 1) * Y = U ∧ F < Y := by
  have hg : 1 ≤ g := by
    rcases Nat.eq_zero_or_pos g with rfl | h
    · simp at h2; omega
    · exact h
  obtain ⟨g, rfl⟩ : ∃ g', g = g' + 1 := ⟨g - 1, by omega⟩
  rw [Nat.add_mul, Nat.one_mul] at h2 hlow
  have hc : cc = 1 := by
    rcases (by omega : cc = 0 ∨ cc = 1) with rfl | rfl
    · exfalso
      rw [Nat.mul_zero] at h1
      omega
    · rfl
  subst hc
  rw [Nat.mul_one] at h1
  simp only [Nat.add_sub_cancel]
  omega
theorem Backed.stop {w wv : World} {gl gq gd : Nat} {pre ps' post qs ds ps'' : List Nat} {c : Nat} (h : Backed w wv gl gq gd pre ps' post qs ds ds.length c ps'') (hl : ps'.length = ds.length + 1) (x : Nat) (hx : x = at0 ps' ds.length) :
    (ps''.set ds.length ((x + c) % 4294967296)).length = ps'.length ∧ Limbs (ps''.set ds.length ((x + c) % 4294967296)) ∧ Rows3 w (wv.setCell ⟨gl, pre.length + ds.length, none⟩ (.int .u32 (((x + c) % 4294967296 : Nat) : Int))) gl gq gd (pre ++ ps''.set ds.length ((x + c) % 4294967296) ++ post) qs ds ∧
      val (ps''.set ds.length ((x + c) % 4294967296)) + 4294967296 ^ (ds.length + 1) * ((x + c) / 4294967296) = val ps' + val ds := by
  have hk2 : ds.length < ps''.length := by rw [h.len]; omega
  have hk3 : ds.length < ps'.length := by omega
  refine ⟨by simp [h.len], limbs_set h.limbs (Nat.mod_lt _ (by omega)), h.rows.setl hk2 _, ?_⟩
  have e := set_take_more (zs := ps'') (k := ds.length) (d := (x + c) % 4294967296) hk2
  rw [List.take_of_length_le (by simp [h.len]; omega)] at e
  have e3 := h.done
  rw [val_take_all (xs := ds) (k := ds.length) (Nat.le_refl _)] at e3
  have e2 := val_take_more hk3
  rw [List.take_of_length_le (by omega), ← at0_lt hk3, ← hx] at e2
  rw [e, add_step (zs := ps''.take ds.length) (k := ds.length) (by rw [List.length_take]; omega) (x + c) e3 x rfl, e2]
  omega

end Go.Proofs.YtkncbenhfcpgkaaDoor
