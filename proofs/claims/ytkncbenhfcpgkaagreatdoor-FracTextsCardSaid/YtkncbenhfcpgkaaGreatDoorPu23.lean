/- Several texts in one: Opsq2, UpInq1, Shortq1, IntFreeq1. -/
import Derived.Test.YtkncbenhfcpgkaaGreatDoorPu08
import Derived.Test.YtkncbenhfcpgkaaGreatDoorPuHd
import Derived.Test.YtkncbenhfcpgkaaGreatDoorPu07
import Derived.Test.YtkncbenhfcpgkaaGreatDoorPu22
import Derived.Test.YtkncbenhfcpgkaaGreatDoorPu05
import Derived.Test.YtkncbenhfcpgkaaGreatDoorPu04
import Derived.Test.YtkncbenhfcpgkaaGreatDoorPu01
import Derived.Test.YtkncbenhfcpgkaaGreatDoorPu03
import Derived.Test.YtkncbenhfcpgkaaGreatDoorPu02
import Derived.Test.YtkncbenhfcpgkaaGreatDoorPu06
import Derived.Test.YtkncbenhfcpgkaaGreatDoorPu11
import Derived.Test.YtkncbenhfcpgkaaGreatDoorPu09
import Derived.Test.YtkncbenhfcpgkaaGreatDoorPu10
import Derived.Test.YtkncbenhfcpgkaaGreatDoorPu12
import Derived.BigQuiet
import Derived.Test.YtkncbenhfcpgkaaGreatDoorPu14
import Derived.Test.YtkncbenhfcpgkaaGreatDoorPu13
set_option maxRecDepth 100000
set_option maxHeartbeats 8000000
/- Minus, Times, told; Add, Sub, Mul of package whole and of the references. (Written by wip/exact/genops.py.) -/
namespace Go.Proofs.YtkncbenhfcpgkaaGreatDoor
open Go.RowKit

theorem exact_Minus_neg (n1 : Bool) (A B : Option Addr) (c d : Nat) (xs ys : List Nat)  (hcx : Canon xs) (hcy : Canon ys) (hlx : xs.length ≤ 536870912) (hly : ys.length ≤ 536870912) (z : Int) (HZV : Hid (z = ival n1 xs + ival false ys)) (w : World) (h : Raw w A c xs) (g : Raw w B d ys) :
    Calls Tryz.prog 229 #[.agg #[.bool n1, .slice A xs.length c], .agg #[.bool true, .slice B ys.length d]] w (RetInt w.heap.size w z) := by
  have px := ((Pair.new w 24 (.bool n1) (.slice A xs.length c)).alloc (.cells #[.bool true, .slice B ys.length d] 24)).alloc (.cells #[.bool false, .slice none 0 0] 24)
  have py := (Pair.new (w.alloc (.cells #[.bool n1, .slice A xs.length c] 24)) 24 (.bool true) (.slice B ys.length d)).alloc (.cells #[.bool false, .slice none 0 0] 24)
  have pr := Pair.new ((w.alloc (.cells #[.bool n1, .slice A xs.length c] 24)).alloc (.cells #[.bool true, .slice B ys.length d] 24)) 24 (.bool false) (.slice none 0 0)
  have rx := (((h.alloc (.cells #[.bool n1, .slice A xs.length c] 24)).alloc (.cells #[.bool true, .slice B ys.length d] 24)).alloc (.cells #[.bool false, .slice none 0 0] 24))
  have ry := (((g.alloc (.cells #[.bool n1, .slice A xs.length c] 24)).alloc (.cells #[.bool true, .slice B ys.length d] 24)).alloc (.cells #[.bool false, .slice none 0 0] 24))
  have b0 := (((Below.refl w.heap.size w).alloc (Nat.le_refl _) (.cells #[.bool n1, .slice A xs.length c] 24)).alloc (by simp) (.cells #[.bool true, .slice B ys.length d] 24)).alloc (by simp; omega) (.cells #[.bool false, .slice none 0 0] 24)
  simp only [World.size_alloc] at py pr
  clear h g
  go_enter Tryz.func229, Tryz.ntmps229
  go_wp2_with fail
  obtain ⟨W, E⟩ : ∃ W, W = ((w.alloc (.cells #[.bool n1, .slice A xs.length c] 24)).alloc (.cells #[.bool true, .slice B ys.length d] 24)).alloc (.cells #[.bool false, .slice none 0 0] 24) := ⟨_, rfl⟩
  rw [← E] at px py pr b0 rx ry ⊢
  clear E
  have PX := Hd px
  have PY := Hd py
  have PR := Hd pr
  have B0 := Hd b0
  have RX := Hd rx
  have RY := Hd ry
  have hlr := pr.blk.lt
  have hsz := b0.size
  obtain ⟨l1, x0, x1, -, -⟩ := px.facts
  obtain ⟨l2, y0, y1, -, -⟩ := py.facts
  clear px py pr rx ry b0
  have C1 := Hd (show Calls Tryz.prog 106 #[.agg #[.bool n1, .slice A xs.length c], .agg #[.bool false, .slice B ys.length d]] W (RetInt W.heap.size W z) from by rw [HZV.out]; exact exact_Plus n1 false A B c d xs ys hcx hcy hlx hly W RX.out RY.out)
  go_wp2_with fail
  refine C1.out.mono ?_
  rintro e w1 ⟨v, rfl, hI, hb⟩
  clear C1 RX RY PX PY l1 x0 x1 l2 y0 y1
  obtain ⟨A1, c1, hv, -⟩ := hI.form
  have hI2 := hI
  rw [hv] at hI2 ⊢
  have pr := PR.out.below hb
  have B1 := belowTo B0.out hb
  obtain ⟨hl, k0, k1, f0, f1⟩ := pr.facts
  clear hv hI hb
  go_wp2_with fail
  have hq := pr.store (.bool (decide (z < 0))) (.slice A1 (natL z.natAbs).length c1)
  obtain ⟨_, k0, k1, _, _⟩ := hq.facts
  exact bodyPost_ret (by simp [results, Tryz.results229, go_sem, k0, k1]) rfl ⟨_, rfl, (hI2.pair (by omega)).base hsz, below2 B1 (by omega) _ _⟩

theorem exact_Minus_pos (n1 : Bool) (A B : Option Addr) (c d : Nat) (xs ys : List Nat) (hy : 0 < ys.length) (hcx : Canon xs) (hcy : Canon ys) (hlx : xs.length ≤ 536870912) (hly : ys.length ≤ 536870912) (z : Int) (HZV : Hid (z = ival n1 xs + ival true ys)) (w : World) (h : Raw w A c xs) (g : Raw w B d ys) :
    Calls Tryz.prog 229 #[.agg #[.bool n1, .slice A xs.length c], .agg #[.bool false, .slice B ys.length d]] w (RetInt w.heap.size w z) := by
  have hy2 : decide ((0 : Int) < (ys.length : Int)) = true := by simp; omega
  have px := ((Pair.new w 24 (.bool n1) (.slice A xs.length c)).alloc (.cells #[.bool false, .slice B ys.length d] 24)).alloc (.cells #[.bool false, .slice none 0 0] 24)
  have py := (Pair.new (w.alloc (.cells #[.bool n1, .slice A xs.length c] 24)) 24 (.bool false) (.slice B ys.length d)).alloc (.cells #[.bool false, .slice none 0 0] 24)
  have pr := Pair.new ((w.alloc (.cells #[.bool n1, .slice A xs.length c] 24)).alloc (.cells #[.bool false, .slice B ys.length d] 24)) 24 (.bool false) (.slice none 0 0)
  have rx := (((h.alloc (.cells #[.bool n1, .slice A xs.length c] 24)).alloc (.cells #[.bool false, .slice B ys.length d] 24)).alloc (.cells #[.bool false, .slice none 0 0] 24))
  have ry := (((g.alloc (.cells #[.bool n1, .slice A xs.length c] 24)).alloc (.cells #[.bool false, .slice B ys.length d] 24)).alloc (.cells #[.bool false, .slice none 0 0] 24))
  have b0 := (((Below.refl w.heap.size w).alloc (Nat.le_refl _) (.cells #[.bool n1, .slice A xs.length c] 24)).alloc (by simp) (.cells #[.bool false, .slice B ys.length d] 24)).alloc (by simp; omega) (.cells #[.bool false, .slice none 0 0] 24)
  simp only [World.size_alloc] at py pr
  clear h g
  go_enter Tryz.func229, Tryz.ntmps229
  go_wp2_with fail
  obtain ⟨W, E⟩ : ∃ W, W = ((w.alloc (.cells #[.bool n1, .slice A xs.length c] 24)).alloc (.cells #[.bool false, .slice B ys.length d] 24)).alloc (.cells #[.bool false, .slice none 0 0] 24) := ⟨_, rfl⟩
  rw [← E] at px py pr b0 rx ry ⊢
  clear E
  have PX := Hd px
  have PY := Hd py
  have PR := Hd pr
  have B0 := Hd b0
  have RX := Hd rx
  have RY := Hd ry
  have hlr := pr.blk.lt
  have hsz := b0.size
  obtain ⟨l1, x0, x1, -, -⟩ := px.facts
  obtain ⟨l2, y0, y1, -, -⟩ := py.facts
  clear px py pr rx ry b0
  have C1 := Hd (show Calls Tryz.prog 106 #[.agg #[.bool n1, .slice A xs.length c], .agg #[.bool true, .slice B ys.length d]] W (RetInt W.heap.size W z) from by rw [HZV.out]; exact exact_Plus n1 true A B c d xs ys hcx hcy hlx hly W RX.out RY.out)
  go_wp2_with fail
  refine C1.out.mono ?_
  rintro e w1 ⟨v, rfl, hI, hb⟩
  clear C1 RX RY PX PY l1 x0 x1 l2 y0 y1
  obtain ⟨A1, c1, hv, -⟩ := hI.form
  have hI2 := hI
  rw [hv] at hI2 ⊢
  have pr := PR.out.below hb
  have B1 := belowTo B0.out hb
  obtain ⟨hl, k0, k1, f0, f1⟩ := pr.facts
  clear hv hI hb
  go_wp2_with fail
  have hq := pr.store (.bool (decide (z < 0))) (.slice A1 (natL z.natAbs).length c1)
  obtain ⟨_, k0, k1, _, _⟩ := hq.facts
  exact bodyPost_ret (by simp [results, Tryz.results229, go_sem, k0, k1]) rfl ⟨_, rfl, (hI2.pair (by omega)).base hsz, below2 B1 (by omega) _ _⟩

theorem exact_Minus_nought (n1 : Bool) (A B : Option Addr) (c d : Nat) (xs : List Nat)  (hcx : Canon xs) (hcy : Canon ([] : List Nat)) (hlx : xs.length ≤ 536870912) (hly : 0 ≤ 536870912) (z : Int) (HZV : Hid (z = ival n1 xs + ival false ([] : List Nat))) (w : World) (h : Raw w A c xs) (g : Raw w B d ([] : List Nat)) :
    Calls Tryz.prog 229 #[.agg #[.bool n1, .slice A xs.length c], .agg #[.bool false, .slice B 0 d]] w (RetInt w.heap.size w z) := by
  have px := ((Pair.new w 24 (.bool n1) (.slice A xs.length c)).alloc (.cells #[.bool false, .slice B 0 d] 24)).alloc (.cells #[.bool false, .slice none 0 0] 24)
  have py := (Pair.new (w.alloc (.cells #[.bool n1, .slice A xs.length c] 24)) 24 (.bool false) (.slice B 0 d)).alloc (.cells #[.bool false, .slice none 0 0] 24)
  have pr := Pair.new ((w.alloc (.cells #[.bool n1, .slice A xs.length c] 24)).alloc (.cells #[.bool false, .slice B 0 d] 24)) 24 (.bool false) (.slice none 0 0)
  have rx := (((h.alloc (.cells #[.bool n1, .slice A xs.length c] 24)).alloc (.cells #[.bool false, .slice B 0 d] 24)).alloc (.cells #[.bool false, .slice none 0 0] 24))
  have ry := (((g.alloc (.cells #[.bool n1, .slice A xs.length c] 24)).alloc (.cells #[.bool false, .slice B 0 d] 24)).alloc (.cells #[.bool false, .slice none 0 0] 24))
  have b0 := (((Below.refl w.heap.size w).alloc (Nat.le_refl _) (.cells #[.bool n1, .slice A xs.length c] 24)).alloc (by simp) (.cells #[.bool false, .slice B 0 d] 24)).alloc (by simp; omega) (.cells #[.bool false, .slice none 0 0] 24)
  simp only [World.size_alloc] at py pr
  clear h g
  go_enter Tryz.func229, Tryz.ntmps229
  go_wp2_with fail
  obtain ⟨W, E⟩ : ∃ W, W = ((w.alloc (.cells #[.bool n1, .slice A xs.length c] 24)).alloc (.cells #[.bool false, .slice B 0 d] 24)).alloc (.cells #[.bool false, .slice none 0 0] 24) := ⟨_, rfl⟩
  rw [← E] at px py pr b0 rx ry ⊢
  clear E
  have PX := Hd px
  have PY := Hd py
  have PR := Hd pr
  have B0 := Hd b0
  have RX := Hd rx
  have RY := Hd ry
  have hlr := pr.blk.lt
  have hsz := b0.size
  obtain ⟨l1, x0, x1, -, -⟩ := px.facts
  obtain ⟨l2, y0, y1, -, -⟩ := py.facts
  clear px py pr rx ry b0
  have C1 := Hd (show Calls Tryz.prog 106 #[.agg #[.bool n1, .slice A xs.length c], .agg #[.bool false, .slice B 0 d]] W (RetInt W.heap.size W z) from by rw [HZV.out]; exact exact_Plus n1 false A B c d xs ([] : List Nat) hcx hcy hlx hly W RX.out RY.out)
  go_wp2_with fail
  refine C1.out.mono ?_
  rintro e w1 ⟨v, rfl, hI, hb⟩
  clear C1 RX RY PX PY l1 x0 x1 l2 y0 y1
  obtain ⟨A1, c1, hv, -⟩ := hI.form
  have hI2 := hI
  rw [hv] at hI2 ⊢
  have pr := PR.out.below hb
  have B1 := belowTo B0.out hb
  obtain ⟨hl, k0, k1, f0, f1⟩ := pr.facts
  clear hv hI hb
  go_wp2_with fail
  have hq := pr.store (.bool (decide (z < 0))) (.slice A1 (natL z.natAbs).length c1)
  obtain ⟨_, k0, k1, _, _⟩ := hq.facts
  exact bodyPost_ret (by simp [results, Tryz.results229, go_sem, k0, k1]) rfl ⟨_, rfl, (hI2.pair (by omega)).base hsz, below2 B1 (by omega) _ _⟩

theorem exact_Minus (n1 n2 : Bool) (A B : Option Addr) (c d : Nat) (xs ys : List Nat) (hcx : Canon xs) (hcy : Canon ys) (hlx : xs.length ≤ 536870912) (hly : ys.length ≤ 536870912) (w : World) (h : Raw w A c xs) (g : Raw w B d ys) :
    Calls Tryz.prog 229 #[.agg #[.bool n1, .slice A xs.length c], .agg #[.bool n2, .slice B ys.length d]] w (RetInt w.heap.size w (ival n1 xs - ival n2 ys)) := by
  cases n2 with
  | true => exact exact_Minus_neg n1 A B c d xs ys hcx hcy hlx hly _ (by show _ = _; simp [ival]; try omega) w h g
  | false =>
    by_cases hy : 0 < ys.length
    · exact exact_Minus_pos n1 A B c d xs ys hy hcx hcy hlx hly _ (by show _ = _; simp [ival]; try omega) w h g
    · have e : ys = [] := List.eq_nil_of_length_eq_zero (by omega)
      subst e
      exact exact_Minus_nought n1 A B c d xs hcx hcy hlx hly _ (by show _ = _; simp [ival, val]) w h g

/- Apart over a list of rows none of which lies in another's memory, in whatever order they were made. -/

theorem RowsIn.snoc2 {w : World} {lo hi hi' n1 n2 : Nat} {vs : List Value} {v1 v2 : Value} {X1 X2 : List Value} (h : RowsIn w lo vs hi) (hn1 : n1 ≤ 1073741824) (hn2 : n2 ≤ 1073741824) (h1 : w.ownsRow hi tLimb 1 v1 n1 X1) (h2 : w.ownsRow hi tLimb 1 v2 n2 X2)
    (g1 : ∀ g, v1.ownBlock = some g → g < hi') (g2 : ∀ g, v2.ownBlock = some g → g < hi') (hh : hi ≤ hi') (hne : ∀ g, v1.ownBlock = some g → v2.ownBlock ≠ some g) : RowsIn w lo (vs ++ [v1, v2]) hi' := by
  have a := h.snoc hn1 h1 g1 hh
  refine ⟨a.le, fun j hj => ?_, fun j k hjk hk g hgj => ?_⟩
  · rw [List.length_append] at hj
    simp at hj
    rcases (by omega : j < vs.length + 1 ∨ j = vs.length + 1) with hl | hl
    · obtain ⟨m, Y, b1, b2, b3⟩ := a.row j (by simp; omega)
      have e : (vs ++ [v1, v2]).getD j nilS = (vs ++ [v1]).getD j nilS := by
        rw [show vs ++ [v1, v2] = (vs ++ [v1]) ++ [v2] by simp]
        simp only [List.getD_eq_getElem?_getD]
        rw [List.getElem?_append_left (by simp; omega)]
      rw [e]; exact ⟨m, Y, b1, b2, b3⟩
    · subst hl
      rw [show (vs ++ [v1, v2]).getD (vs.length + 1) nilS = v2 by simp [List.getD_eq_getElem?_getD]]
      exact ⟨n2, X2, hn2, RowsUp.snoc.own_base h2 h.le, g2⟩
  · rw [List.length_append] at hk
    simp at hk
    have hj : j < vs.length + 1 := by omega
    have e : ∀ i, i < vs.length + 1 → (vs ++ [v1, v2]).getD i nilS = (vs ++ [v1]).getD i nilS := fun i hi => by
      rw [show vs ++ [v1, v2] = (vs ++ [v1]) ++ [v2] by simp]
      simp only [List.getD_eq_getElem?_getD]
      rw [List.getElem?_append_left (by simp; omega)]
    rw [e j hj] at hgj
    rcases (by omega : k < vs.length + 1 ∨ k = vs.length + 1) with hl | hl
    · rw [e k hl]; exact a.apart j k hjk (by simp; omega) g hgj
    · subst hl
      rw [show (vs ++ [v1, v2]).getD (vs.length + 1) nilS = v2 by simp [List.getD_eq_getElem?_getD]]
      intro hv
      rcases (by omega : j < vs.length ∨ j = vs.length) with h3 | h3
      · rw [show (vs ++ [v1]).getD j nilS = vs.getD j nilS by simp [List.getD_eq_getElem?_getD, List.getElem?_append_left h3]] at hgj
        obtain ⟨m, Y, b1, b2, b3⟩ := h.row j h3
        have := b3 g hgj
        have := (h2.lt g hv).1
        omega
      · subst h3
        rw [show (vs ++ [v1]).getD vs.length nilS = v1 by simp [List.getD_eq_getElem?_getD]] at hgj
        exact hne g hgj hv

/- Limbs by one limb: bits.Div32, short of package exact and of the references. -/

theorem grown_below {w0 w : World} {g B : Nat} (h : w0.grownBy w (some g)) (hB : B ≤ g) (hs : B ≤ w0.heap.size) : Below B w0 w := (Below.refl B w0).grown h hs (fun k hk => by injection hk with hk; omega)

/- Whole numbers in regions that draw their order: what is told of them stays. -/

theorem IntOwn.nat {w : World} {base n : Nat} {v : Value} (h : IntOwn w base v (n : Int)) : ∃ A c, v = .agg #[.bool false, .slice A (natL n).length c] ∧ OwnN w base (.slice A (natL n).length c) n := by
  obtain ⟨A, c, h1, h2, h3, h4⟩ := h.form
  have e : decide ((n : Int) < 0) = false := by simp
  rw [e] at h1
  simp only [Int.natAbs_natCast] at h1 h2 h3 h4
  exact ⟨A, c, h1, A, c, rfl, h2, h3, h4⟩
end Go.Proofs.YtkncbenhfcpgkaaGreatDoor
