/- Several texts in one: Longq2, Opsq3, ZRq2. -/
import Derived.Test.YtkncbenhfcpgkaaGreatDoorPu07
import Derived.Test.YtkncbenhfcpgkaaGreatDoorPu06
import Derived.Test.YtkncbenhfcpgkaaGreatDoorPu04
import Derived.Test.YtkncbenhfcpgkaaGreatDoorPu03
import Derived.Test.YtkncbenhfcpgkaaGreatDoorPu01
import Derived.Test.YtkncbenhfcpgkaaGreatDoorPu02
import Derived.Test.YtkncbenhfcpgkaaGreatDoorPu05
import Derived.Test.YtkncbenhfcpgkaaGreatDoorPu08
import Derived.Test.YtkncbenhfcpgkaaGreatDoorPuHd
import Derived.Test.YtkncbenhfcpgkaaGreatDoorPu17
import Derived.Test.YtkncbenhfcpgkaaGreatDoorPu15
import Derived.Test.YtkncbenhfcpgkaaGreatDoorPu16
import Derived.Test.YtkncbenhfcpgkaaGreatDoorPu14
import Derived.Test.YtkncbenhfcpgkaaGreatDoorPu11
import Derived.Test.YtkncbenhfcpgkaaGreatDoorPu13
import Derived.Test.YtkncbenhfcpgkaaGreatDoorPu12
set_option maxRecDepth 100000
set_option maxHeartbeats 8000000
/- Long of package exact and of the references: is one of these too long? -/
namespace Go.Proofs.YtkncbenhfcpgkaaGreatDoor
open Go.RowKit

theorem ref_Long (neg : Bool) (A : Option Addr) (k c : Nat) (hk : k ≤ 9223372036854775807) (w : World) :
    Calls Tryz.prog 125 #[.agg #[.bool neg, .slice A k c]] w fun e w' => e = .returned (.bool (decide (2048 < k))) ∧ Below w.heap.size w w' := by
  by_cases h : 2048 < k
  · rw [decide_eq_true h]
    have h2 : (2048 : Int) < (k : Int) := by omega
    clear h
    go_enter Tryz.func125, Tryz.ntmps125
    go_wp2
    go_ret
    exact ⟨by go_num, by repeat (first | exact Below.refl _ _ | refine Below.alloc ?_ (by simp; try omega) _)⟩
  · rw [decide_eq_false h]
    have h2 : (k : Int) ≤ 2048 := by omega
    clear h
    go_enter Tryz.func125, Tryz.ntmps125
    go_wp2
    go_ret
    exact ⟨by go_num, by repeat (first | exact Below.refl _ _ | refine Below.alloc ?_ (by simp; try omega) _)⟩
/- Minus, Times, told; Add, Sub, Mul of package whole and of the references. (Written by wip/exact/genops.py.) -/

theorem ref_Turned (n1 : Bool) (A : Option Addr) (c : Nat) (xs : List Nat) (w : World) (h : Raw w A c xs) :
    Calls Tryz.prog 190 #[.agg #[.bool n1, .slice A xs.length c]] w fun e w' => e = .returned (sv (!n1) A c xs) ∧ Below w.heap.size w w' := by
  have pr := Pair.new (w.alloc (.cells #[.bool n1, .slice A xs.length c] 24)) 24 (.bool false) (.slice none 0 0)
  have rx := (h.alloc (.cells #[.bool n1, .slice A xs.length c] 24)).alloc (.cells #[.bool false, .slice none 0 0] 24)
  have b0 := ((Below.refl w.heap.size w).alloc (Nat.le_refl _) (.cells #[.bool n1, .slice A xs.length c] 24)).alloc (by simp) (.cells #[.bool false, .slice none 0 0] 24)
  have px := (Pair.new w 24 (.bool n1) (.slice A xs.length c)).alloc (.cells #[.bool false, .slice none 0 0] 24)
  simp only [World.size_alloc] at pr
  clear h
  have C1 := fun V (hV : Raw V A c xs) => ref_signed_sv (!n1) A c xs V hV
  obtain ⟨b, A', k, c', hsv⟩ := sv_form (!n1) A c xs
  rw [hsv] at C1 ⊢
  clear hsv
  go_enter Tryz.func190, Tryz.ntmps190
  go_wp2_with fail
  obtain ⟨W, E⟩ : ∃ W, W = (w.alloc (.cells #[.bool n1, .slice A xs.length c] 24)).alloc (.cells #[.bool false, .slice none 0 0] 24) := ⟨_, rfl⟩
  rw [← E] at px pr b0 rx ⊢
  clear E
  have PR := Hd pr
  have B0 := Hd b0
  have hlr := pr.blk.lt
  have hsz := b0.size
  obtain ⟨l1, x0, x1, -, -⟩ := px.facts
  have H1 := Hd (C1 W rx)
  clear px pr rx b0 C1
  go_wp2_with fail
  refine H1.out.mono ?_
  rintro e w1 ⟨rfl, hb⟩
  have pr := PR.out.below hb
  have B1 := belowTo B0.out hb
  obtain ⟨hl, k0, k1, f0, f1⟩ := pr.facts
  clear hb H1 l1 x0 x1
  go_wp2_with fail
  have hq := pr.store (.bool b) (.slice A' k c')
  obtain ⟨_, k0, k1, _, _⟩ := hq.facts
  exact bodyPost_ret (by simp [results, Tryz.results190, go_sem, k0, k1]) rfl ⟨rfl, below2 B1 (by omega) _ _⟩

theorem ref_Minus_own (n1 n2 : Bool) (A B : Option Addr) (c d : Nat) (xs ys : List Nat) (hcx : Canon xs) (hlx : xs.length ≤ 536870912) (hly : ys.length ≤ 536870912) (z : Int) (HZV : Hid (z = ival n1 xs + ival (!n2) ys)) (w : World) (h : Raw w A c xs) (g : Raw w B d ys) :
    Calls Tryz.prog 128 #[.agg #[.bool n1, .slice A xs.length c], .agg #[.bool n2, .slice B ys.length d]] w (RetInt w.heap.size w z) := by
  have px := ((Pair.new w 24 (.bool n1) (.slice A xs.length c)).alloc (.cells #[.bool n2, .slice B ys.length d] 24)).alloc (.cells #[.bool false, .slice none 0 0] 24)
  have py := (Pair.new (w.alloc (.cells #[.bool n1, .slice A xs.length c] 24)) 24 (.bool n2) (.slice B ys.length d)).alloc (.cells #[.bool false, .slice none 0 0] 24)
  have pr := Pair.new ((w.alloc (.cells #[.bool n1, .slice A xs.length c] 24)).alloc (.cells #[.bool n2, .slice B ys.length d] 24)) 24 (.bool false) (.slice none 0 0)
  have rx := (((h.alloc (.cells #[.bool n1, .slice A xs.length c] 24)).alloc (.cells #[.bool n2, .slice B ys.length d] 24)).alloc (.cells #[.bool false, .slice none 0 0] 24))
  have ry := (((g.alloc (.cells #[.bool n1, .slice A xs.length c] 24)).alloc (.cells #[.bool n2, .slice B ys.length d] 24)).alloc (.cells #[.bool false, .slice none 0 0] 24))
  have b0 := (((Below.refl w.heap.size w).alloc (Nat.le_refl _) (.cells #[.bool n1, .slice A xs.length c] 24)).alloc (by simp) (.cells #[.bool n2, .slice B ys.length d] 24)).alloc (by simp; omega) (.cells #[.bool false, .slice none 0 0] 24)
  simp only [World.size_alloc] at py pr
  clear h g
  go_enter Tryz.func128, Tryz.ntmps128
  go_wp2_with fail
  obtain ⟨W, E⟩ : ∃ W, W = ((w.alloc (.cells #[.bool n1, .slice A xs.length c] 24)).alloc (.cells #[.bool n2, .slice B ys.length d] 24)).alloc (.cells #[.bool false, .slice none 0 0] 24) := ⟨_, rfl⟩
  rw [← E] at px py pr b0 rx ry ⊢
  clear E
  have PX := Hd px
  have PY := Hd py
  have PR := Hd pr
  have B0 := Hd b0
  have RX := Hd rx
  have RY := Hd ry
  have hlr := pr.blk.lt
  have hsz := b0.size
  obtain ⟨l1, x0, x1, -, -⟩ := px.facts
  obtain ⟨l2, y0, y1, -, -⟩ := py.facts
  clear px py pr rx ry b0
  have HW := Hd (Below.refl W.heap.size W)
  have C1 := Hd (fun (V : World) (hV : Below W.heap.size W V) => ref_Turned n2 B d ys V (RY.out.below hV))
  have C2 := Hd (fun (V : World) (v : Value) (hV : Below W.heap.size W V) (hv : IntAt V v (ival (!n2) ys)) => show Calls Tryz.prog 122 #[.agg #[.bool n1, .slice A xs.length c], v] V (RetInt V.heap.size V z) from by
    obtain ⟨A', c', rfl, hr⟩ := hv.form
    have e := ref_Plus n1 (decide (ival (!n2) ys < 0)) A A' c c' xs (natL (ival (!n2) ys).natAbs) hcx (canon_natL _) hlx (by
      have : (ival (!n2) ys).natAbs = val ys := by unfold ival; split <;> omega
      rw [this]; exact Nat.le_trans (natL_val_le RY.out.limbs) hly) V (RX.out.below hV) hr
    rw [ival_at, ← HZV.out] at e
    exact e)
  have C3 := Hd (fun (V : World) (hV : Below W.heap.size W V) => IntAt.sv (neg := !n2) (RY.out.below hV))
  generalize sv (!n2) B d ys = vt at C1 C3
  refine wp_region_steps [.val (.agg #[.bool n1, .slice A xs.length c]), .val (.agg #[.bool n2, .slice B ys.length d]), .step, .step, .step] 2 3 W
    (fun us V => match us with
      | [] => True
      | [va] => IntAt V va (ival (!n2) ys)
      | [_, vb] => IntOwn V W.heap.size vb z
      | _ => False)
    (fun _ V => ∃ A1 c1, IntOwn V W.heap.size (.agg #[.bool (decide (z < 0)), .slice A1 (natL z.natAbs).length c1]) z ∧ Pair V (w.heap.size + 1 + 1) 24 (.bool (decide (z < 0))) (.slice A1 (natL z.natAbs).length c1) ∧ Below w.heap.size w V)
    _ mixedOrders2 (by kernel_rfl) (by kernel_rfl) (by kernel_rfl) (by kernel_rfl) (by kernel_rfl) (by kernel_rfl) (by kernel_rfl) (by kernel_rfl) (by kernel_rfl) rfl ?_ HW.out trivial ?_ ?_ ?_
  · intro us V V' hg hb
    match us, hg with
    | [], _ => trivial
    | [va], hg => exact hg.below hb
    | [va, vb], hg => exact hg.below hb
  · simp [ValsOk, chainAct, fill, pairs, valAt]
    repeat' apply And.intro
    all_goals
      intro V hV
      obtain ⟨-, e0, e1, -, -⟩ := (PX.out.below hV).facts
      obtain ⟨-, f0, f1, -, -⟩ := (PY.out.below hV).facts
      clear hV
      go_simp
      exact Below.refl _ _
  · simp [StepsOk, chainAct, fill, pairs, valAt, stepNo, List.filter, Stp.isStep]
    refine ⟨fun V hV => ?_, fun va => ⟨fun V hV hva => ?_, fun vb V hV hvb => ?_⟩⟩
    · go_simp
      refine (C1.out V hV).mono ?_
      rintro e w' ⟨rfl, hb⟩
      exact ⟨belowTo hV hb, C3.out _ (belowTo hV hb)⟩
    · go_simp
      refine (C2.out V va hV hva).mono ?_
      rintro e w' ⟨v, rfl, hv, hb⟩
      exact ⟨belowTo hV hb, hv.base hV.size⟩
    · obtain ⟨A1, c1, rfl, -⟩ := hvb.form
      have pr := PR.out.below hV
      obtain ⟨p1, p2, p3, p4, p5⟩ := pr.facts
      go_simp
      exact ⟨A1, c1, hvb.pair (by omega), pr.store _ _, below2 (belowTo B0.out hV) (by omega) _ _⟩
  · intro us V hus hF
    simp only [show ¬ (3 ≤ 2) by decide, if_false] at hF
    obtain ⟨A1, c1, hI, pr, hb⟩ := hF
    obtain ⟨u0, u1, u2, rfl⟩ : ∃ u0 u1 u2, us = [u0, u1, u2] := by
      match us, hus with
      | [u0, u1, u2], _ => exact ⟨u0, u1, u2, rfl⟩
    simp [chainAct, fill, pairs, valAt, stepNo, List.filter, Stp.isStep]
    obtain ⟨_, k0, k1, _, _⟩ := pr.facts
    clear PX PY RX RY l1 x0 x1 l2 y0 y1
    go_wp2_with fail
    exact bodyPost_ret (by simp [results, Tryz.results128, go_sem, k0, k1]) rfl ⟨_, rfl, hI.base hsz, hb⟩
theorem ref_Minus (n1 n2 : Bool) (A B : Option Addr) (c d : Nat) (xs ys : List Nat) (hcx : Canon xs) (hlx : xs.length ≤ 536870912) (hly : ys.length ≤ 536870912) (w : World) (h : Raw w A c xs) (g : Raw w B d ys) :
    Calls Tryz.prog 128 #[.agg #[.bool n1, .slice A xs.length c], .agg #[.bool n2, .slice B ys.length d]] w (RetInt w.heap.size w (ival n1 xs - ival n2 ys)) :=
  ref_Minus_own n1 n2 A B c d xs ys hcx hlx hly _ (by show _ = _; cases n2 <;> simp [ival] <;> omega) w h g

/- The references calls over numbers, told by the numbers alone. (Written by wip/exact/genz.py.) -/
theorem rminus (x y z : Int) (A B : Option Addr) (c d : Nat) (w : World) (h : Raw w A c (natL x.natAbs)) (g : Raw w B d (natL y.natAbs)) (hx : lz x ≤ 500000000) (hy : lz y ≤ 500000000) (hz : z = x - y) :
    Calls Tryz.prog 128 #[.agg #[.bool (decide (x < 0)), .slice A (natL x.natAbs).length c], .agg #[.bool (decide (y < 0)), .slice B (natL y.natAbs).length d]] w (RetInt w.heap.size w z) := by
  have := ref_Minus (decide (x < 0)) (decide (y < 0)) A B c d (natL x.natAbs) (natL y.natAbs) (canon_natL _) (by unfold lz at hx; omega) (by unfold lz at hy; omega) w h g
  rw [ival_at, ival_at, ← hz] at this
  exact this
end Go.Proofs.YtkncbenhfcpgkaaGreatDoor
