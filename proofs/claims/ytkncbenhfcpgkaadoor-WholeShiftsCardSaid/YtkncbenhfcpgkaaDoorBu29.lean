/- Several texts in one: Opsq1, Answerq2, WrapIq1. -/
import Derived.Test.YtkncbenhfcpgkaaDoorBu14
import Derived.Test.YtkncbenhfcpgkaaDoorBuHd
import Derived.Test.YtkncbenhfcpgkaaDoorBu13
import Derived.Test.YtkncbenhfcpgkaaDoorBu10
import Derived.Test.YtkncbenhfcpgkaaDoorBu09
import Derived.Test.YtkncbenhfcpgkaaDoorBu01
import Derived.Test.YtkncbenhfcpgkaaDoorBu05
import Derived.Test.YtkncbenhfcpgkaaDoorBu04
import Derived.Test.YtkncbenhfcpgkaaDoorBu03
import Derived.Test.YtkncbenhfcpgkaaDoorBu02
import Derived.Test.YtkncbenhfcpgkaaDoorBu11
import Derived.Test.YtkncbenhfcpgkaaDoorBu12
import Derived.Test.YtkncbenhfcpgkaaDoorBu06
import Derived.Test.YtkncbenhfcpgkaaDoorBu08
import Derived.Test.YtkncbenhfcpgkaaDoorBu17
import Derived.Test.YtkncbenhfcpgkaaDoorBu18
set_option maxRecDepth 100000
set_option maxHeartbeats 8000000
/- Minus, Times, told; Add, Sub, Mul of package whole and of the references. (Written by wip/exact/genops.py.) -/
namespace Go.Proofs.YtkncbenhfcpgkaaDoor
open Go.RowKit

theorem exact_Minus_neg (n1 : Bool) (A B : Option Addr) (c d : Nat) (xs ys : List Nat)  (hcx : Canon xs) (hcy : Canon ys) (hlx : xs.length ≤ 536870912) (hly : ys.length ≤ 536870912) (z : Int) (HZV : Hid (z = ival n1 xs + ival false ys)) (w : World) (h : Raw w A c xs) (g : Raw w B d ys) :
    Calls Tryd.prog 30 #[.agg #[.bool n1, .slice A xs.length c], .agg #[.bool true, .slice B ys.length d]] w (RetInt w.heap.size w z) := by
  have px := ((Pair.new w 24 (.bool n1) (.slice A xs.length c)).alloc (.cells #[.bool true, .slice B ys.length d] 24)).alloc (.cells #[.bool false, .slice none 0 0] 24)
  have py := (Pair.new (w.alloc (.cells #[.bool n1, .slice A xs.length c] 24)) 24 (.bool true) (.slice B ys.length d)).alloc (.cells #[.bool false, .slice none 0 0] 24)
  have pr := Pair.new ((w.alloc (.cells #[.bool n1, .slice A xs.length c] 24)).alloc (.cells #[.bool true, .slice B ys.length d] 24)) 24 (.bool false) (.slice none 0 0)
  have rx := (((h.alloc (.cells #[.bool n1, .slice A xs.length c] 24)).alloc (.cells #[.bool true, .slice B ys.length d] 24)).alloc (.cells #[.bool false, .slice none 0 0] 24))
  have ry := (((g.alloc (.cells #[.bool n1, .slice A xs.length c] 24)).alloc (.cells #[.bool true, .slice B ys.length d] 24)).alloc (.cells #[.bool false, .slice none 0 0] 24))
  have b0 := (((Below.refl w.heap.size w).alloc (Nat.le_refl _) (.cells #[.bool n1, .slice A xs.length c] 24)).alloc (by simp) (.cells #[.bool true, .slice B ys.length d] 24)).alloc (by simp; omega) (.cells #[.bool false, .slice none 0 0] 24)
  simp only [World.size_alloc] at py pr
  clear h g
  go_enter Tryd.func30, Tryd.ntmps30
  go_wp2_with fail
  obtain ⟨W, E⟩ : ∃ W, W = ((w.alloc (.cells #[.bool n1, .slice A xs.length c] 24)).alloc (.cells #[.bool true, .slice B ys.length d] 24)).alloc (.cells #[.bool false, .slice none 0 0] 24) := ⟨_, rfl⟩
  rw [← E] at px py pr b0 rx ry ⊢
  clear E
  have PX := Hd px
  have PY := Hd py
  have PR := Hd pr
  have B0 := Hd b0
  have RX := Hd rx
  have RY := Hd ry
  have hlr := pr.blk.lt
  have hsz := b0.size
  obtain ⟨l1, x0, x1, -, -⟩ := px.facts
  obtain ⟨l2, y0, y1, -, -⟩ := py.facts
  clear px py pr rx ry b0
  have C1 := Hd (show Calls Tryd.prog 23 #[.agg #[.bool n1, .slice A xs.length c], .agg #[.bool false, .slice B ys.length d]] W (RetInt W.heap.size W z) from by rw [HZV.out]; exact exact_Plus n1 false A B c d xs ys hcx hcy hlx hly W RX.out RY.out)
  go_wp2_with fail
  refine C1.out.mono ?_
  rintro e w1 ⟨v, rfl, hI, hb⟩
  clear C1 RX RY PX PY l1 x0 x1 l2 y0 y1
  obtain ⟨A1, c1, hv, -⟩ := hI.form
  have hI2 := hI
  rw [hv] at hI2 ⊢
  have pr := PR.out.below hb
  have B1 := belowTo B0.out hb
  obtain ⟨hl, k0, k1, f0, f1⟩ := pr.facts
  clear hv hI hb
  go_wp2_with fail
  have hq := pr.store (.bool (decide (z < 0))) (.slice A1 (natL z.natAbs).length c1)
  obtain ⟨_, k0, k1, _, _⟩ := hq.facts
  exact bodyPost_ret (by simp [results, Tryd.results30, go_sem, k0, k1]) rfl ⟨_, rfl, (hI2.pair (by omega)).base hsz, below2 B1 (by omega) _ _⟩

theorem exact_Minus_pos (n1 : Bool) (A B : Option Addr) (c d : Nat) (xs ys : List Nat) (hy : 0 < ys.length) (hcx : Canon xs) (hcy : Canon ys) (hlx : xs.length ≤ 536870912) (hly : ys.length ≤ 536870912) (z : Int) (HZV : Hid (z = ival n1 xs + ival true ys)) (w : World) (h : Raw w A c xs) (g : Raw w B d ys) :
    Calls Tryd.prog 30 #[.agg #[.bool n1, .slice A xs.length c], .agg #[.bool false, .slice B ys.length d]] w (RetInt w.heap.size w z) := by
  have hy2 : decide ((0 : Int) < (ys.length : Int)) = true := by simp; omega
  have px := ((Pair.new w 24 (.bool n1) (.slice A xs.length c)).alloc (.cells #[.bool false, .slice B ys.length d] 24)).alloc (.cells #[.bool false, .slice none 0 0] 24)
  have py := (Pair.new (w.alloc (.cells #[.bool n1, .slice A xs.length c] 24)) 24 (.bool false) (.slice B ys.length d)).alloc (.cells #[.bool false, .slice none 0 0] 24)
  have pr := Pair.new ((w.alloc (.cells #[.bool n1, .slice A xs.length c] 24)).alloc (.cells #[.bool false, .slice B ys.length d] 24)) 24 (.bool false) (.slice none 0 0)
  have rx := (((h.alloc (.cells #[.bool n1, .slice A xs.length c] 24)).alloc (.cells #[.bool false, .slice B ys.length d] 24)).alloc (.cells #[.bool false, .slice none 0 0] 24))
  have ry := (((g.alloc (.cells #[.bool n1, .slice A xs.length c] 24)).alloc (.cells #[.bool false, .slice B ys.length d] 24)).alloc (.cells #[.bool false, .slice none 0 0] 24))
  have b0 := (((Below.refl w.heap.size w).alloc (Nat.le_refl _) (.cells #[.bool n1, .slice A xs.length c] 24)).alloc (by simp) (.cells #[.bool false, .slice B ys.length d] 24)).alloc (by simp; omega) (.cells #[.bool false, .slice none 0 0] 24)
  simp only [World.size_alloc] at py pr
  clear h g
  go_enter Tryd.func30, Tryd.ntmps30
  go_wp2_with fail
  obtain ⟨W, E⟩ : ∃ W, W = ((w.alloc (.cells #[.bool n1, .slice A xs.length c] 24)).alloc (.cells #[.bool false, .slice B ys.length d] 24)).alloc (.cells #[.bool false, .slice none 0 0] 24) := ⟨_, rfl⟩
  rw [← E] at px py pr b0 rx ry ⊢
  clear E
  have PX := Hd px
  have PY := Hd py
  have PR := Hd pr
  have B0 := Hd b0
  have RX := Hd rx
  have RY := Hd ry
  have hlr := pr.blk.lt
  have hsz := b0.size
  obtain ⟨l1, x0, x1, -, -⟩ := px.facts
  obtain ⟨l2, y0, y1, -, -⟩ := py.facts
  clear px py pr rx ry b0
  have C1 := Hd (show Calls Tryd.prog 23 #[.agg #[.bool n1, .slice A xs.length c], .agg #[.bool true, .slice B ys.length d]] W (RetInt W.heap.size W z) from by rw [HZV.out]; exact exact_Plus n1 true A B c d xs ys hcx hcy hlx hly W RX.out RY.out)
  go_wp2_with fail
  refine C1.out.mono ?_
  rintro e w1 ⟨v, rfl, hI, hb⟩
  clear C1 RX RY PX PY l1 x0 x1 l2 y0 y1
  obtain ⟨A1, c1, hv, -⟩ := hI.form
  have hI2 := hI
  rw [hv] at hI2 ⊢
  have pr := PR.out.below hb
  have B1 := belowTo B0.out hb
  obtain ⟨hl, k0, k1, f0, f1⟩ := pr.facts
  clear hv hI hb
  go_wp2_with fail
  have hq := pr.store (.bool (decide (z < 0))) (.slice A1 (natL z.natAbs).length c1)
  obtain ⟨_, k0, k1, _, _⟩ := hq.facts
  exact bodyPost_ret (by simp [results, Tryd.results30, go_sem, k0, k1]) rfl ⟨_, rfl, (hI2.pair (by omega)).base hsz, below2 B1 (by omega) _ _⟩

theorem exact_Minus_nought (n1 : Bool) (A B : Option Addr) (c d : Nat) (xs : List Nat)  (hcx : Canon xs) (hcy : Canon ([] : List Nat)) (hlx : xs.length ≤ 536870912) (hly : 0 ≤ 536870912) (z : Int) (HZV : Hid (z = ival n1 xs + ival false ([] : List Nat))) (w : World) (h : Raw w A c xs) (g : Raw w B d ([] : List Nat)) :
    Calls Tryd.prog 30 #[.agg #[.bool n1, .slice A xs.length c], .agg #[.bool false, .slice B 0 d]] w (RetInt w.heap.size w z) := by
  have px := ((Pair.new w 24 (.bool n1) (.slice A xs.length c)).alloc (.cells #[.bool false, .slice B 0 d] 24)).alloc (.cells #[.bool false, .slice none 0 0] 24)
  have py := (Pair.new (w.alloc (.cells #[.bool n1, .slice A xs.length c] 24)) 24 (.bool false) (.slice B 0 d)).alloc (.cells #[.bool false, .slice none 0 0] 24)
  have pr := Pair.new ((w.alloc (.cells #[.bool n1, .slice A xs.length c] 24)).alloc (.cells #[.bool false, .slice B 0 d] 24)) 24 (.bool false) (.slice none 0 0)
  have rx := (((h.alloc (.cells #[.bool n1, .slice A xs.length c] 24)).alloc (.cells #[.bool false, .slice B 0 d] 24)).alloc (.cells #[.bool false, .slice none 0 0] 24))
  have ry := (((g.alloc (.cells #[.bool n1, .slice A xs.length c] 24)).alloc (.cells #[.bool false, .slice B 0 d] 24)).alloc (.cells #[.bool false, .slice none 0 0] 24))
  have b0 := (((Below.refl w.heap.size w).alloc (Nat.le_refl _) (.cells #[.bool n1, .slice A xs.length c] 24)).alloc (by simp) (.cells #[.bool false, .slice B 0 d] 24)).alloc (by simp; omega) (.cells #[.bool false, .slice none 0 0] 24)
  simp only [World.size_alloc] at py pr
  clear h g
  go_enter Tryd.func30, Tryd.ntmps30
  go_wp2_with fail
  obtain ⟨W, E⟩ : ∃ W, W = ((w.alloc (.cells #[.bool n1, .slice A xs.length c] 24)).alloc (.cells #[.bool false, .slice B 0 d] 24)).alloc (.cells #[.bool false, .slice none 0 0] 24) := ⟨_, rfl⟩
  rw [← E] at px py pr b0 rx ry ⊢
  clear E
  have PX := Hd px
  have PY := Hd py
  have PR := Hd pr
  have B0 := Hd b0
  have RX := Hd rx
  have RY := Hd ry
  have hlr := pr.blk.lt
  have hsz := b0.size
  obtain ⟨l1, x0, x1, -, -⟩ := px.facts
  obtain ⟨l2, y0, y1, -, -⟩ := py.facts
  clear px py pr rx ry b0
  have C1 := Hd (show Calls Tryd.prog 23 #[.agg #[.bool n1, .slice A xs.length c], .agg #[.bool false, .slice B 0 d]] W (RetInt W.heap.size W z) from by rw [HZV.out]; exact exact_Plus n1 false A B c d xs ([] : List Nat) hcx hcy hlx hly W RX.out RY.out)
  go_wp2_with fail
  refine C1.out.mono ?_
  rintro e w1 ⟨v, rfl, hI, hb⟩
  clear C1 RX RY PX PY l1 x0 x1 l2 y0 y1
  obtain ⟨A1, c1, hv, -⟩ := hI.form
  have hI2 := hI
  rw [hv] at hI2 ⊢
  have pr := PR.out.below hb
  have B1 := belowTo B0.out hb
  obtain ⟨hl, k0, k1, f0, f1⟩ := pr.facts
  clear hv hI hb
  go_wp2_with fail
  have hq := pr.store (.bool (decide (z < 0))) (.slice A1 (natL z.natAbs).length c1)
  obtain ⟨_, k0, k1, _, _⟩ := hq.facts
  exact bodyPost_ret (by simp [results, Tryd.results30, go_sem, k0, k1]) rfl ⟨_, rfl, (hI2.pair (by omega)).base hsz, below2 B1 (by omega) _ _⟩

theorem exact_Minus (n1 n2 : Bool) (A B : Option Addr) (c d : Nat) (xs ys : List Nat) (hcx : Canon xs) (hcy : Canon ys) (hlx : xs.length ≤ 536870912) (hly : ys.length ≤ 536870912) (w : World) (h : Raw w A c xs) (g : Raw w B d ys) :
    Calls Tryd.prog 30 #[.agg #[.bool n1, .slice A xs.length c], .agg #[.bool n2, .slice B ys.length d]] w (RetInt w.heap.size w (ival n1 xs - ival n2 ys)) := by
  cases n2 with
  | true => exact exact_Minus_neg n1 A B c d xs ys hcx hcy hlx hly _ (by show _ = _; simp [ival]; try omega) w h g
  | false =>
    by_cases hy : 0 < ys.length
    · exact exact_Minus_pos n1 A B c d xs ys hy hcx hcy hlx hly _ (by show _ = _; simp [ival]; try omega) w h g
    · have e : ys = [] := List.eq_nil_of_length_eq_zero (by omega)
      subst e
      exact exact_Minus_nought n1 A B c d xs hcx hcy hlx hly _ (by show _ = _; simp [ival, val]) w h g

/- told, Add, Sub, Mul of package whole and of the references. (Written by wip/exact/gentold.py.) -/

theorem whole_Sub_ok (n1 n2 : Bool) (A B : Option Addr) (c d : Nat) (xs ys : List Nat) (o1 : okI n1 xs = true) (o2 : okI n2 ys = true) (z : Int) (HZV : Hid (z = ival n1 xs - ival n2 ys)) (r k : Int) (HR : Hid (r = toldV z)) (HK : Hid (k = toldE z)) (w : World) (h : Raw w A c xs) (g : Raw w B d ys) :
    Calls Tryd.prog 16 #[.agg #[.bool n1, .slice A xs.length c], .agg #[.bool n2, .slice B ys.length d]] w (RetInt2 w.heap.size w r k) := by
  have C0 := fun (V : World) (h : Raw V A c xs) (g : Raw V B d ys) => whole_fine_any n1 n2 A B c d xs ys V h g
  have C1 := fun (V : World) (h : Raw V A c xs) (g : Raw V B d ys) => show Calls Tryd.prog 30 #[.agg #[.bool n1, .slice A xs.length c], .agg #[.bool n2, .slice B ys.length d]] V (RetInt V.heap.size V z) from by rw [HZV.out]; exact exact_Minus n1 n2 A B c d xs ys (okI_true.1 o1).2.1 (okI_true.1 o2).2.1 (by have := (okI_true.1 o1).1; omega) (by have := (okI_true.1 o2).1; omega) V h g
  have C2 := fun (V : World) (base : Nat) (v : Value) (hv : IntOwn V base v z) => show Calls Tryd.prog 21 #[v] V (RetInt2 base V r k) from by rw [HR.out, HK.out]; exact whole_told base v z V hv
  rw [o1, o2, Bool.and_self] at C0
  have H1 := Hd C1
  have H2 := Hd C2
  have H0 := Hd C0
  clear C0 C1 C2 o1 o2
  have px := ((Pair.new w 24 (.bool n1) (.slice A xs.length c)).alloc (.cells #[.bool n2, .slice B ys.length d] 24)).alloc (.cells #[.bool false, .slice none 0 0] 24)
  have py := (Pair.new (w.alloc (.cells #[.bool n1, .slice A xs.length c] 24)) 24 (.bool n2) (.slice B ys.length d)).alloc (.cells #[.bool false, .slice none 0 0] 24)
  have pr := Pair.new ((w.alloc (.cells #[.bool n1, .slice A xs.length c] 24)).alloc (.cells #[.bool n2, .slice B ys.length d] 24)) 24 (.bool false) (.slice none 0 0)
  have rx := (((h.alloc (.cells #[.bool n1, .slice A xs.length c] 24)).alloc (.cells #[.bool n2, .slice B ys.length d] 24)).alloc (.cells #[.bool false, .slice none 0 0] 24))
  have ry := (((g.alloc (.cells #[.bool n1, .slice A xs.length c] 24)).alloc (.cells #[.bool n2, .slice B ys.length d] 24)).alloc (.cells #[.bool false, .slice none 0 0] 24))
  have b0 := (((Below.refl w.heap.size w).alloc (Nat.le_refl _) (.cells #[.bool n1, .slice A xs.length c] 24)).alloc (by simp) (.cells #[.bool n2, .slice B ys.length d] 24)).alloc (by simp; omega) (.cells #[.bool false, .slice none 0 0] 24)
  simp only [World.size_alloc] at py pr
  clear h g
  go_enter Tryd.func16, Tryd.ntmps16
  go_wp2_with fail
  obtain ⟨W, E⟩ : ∃ W, W = ((w.alloc (.cells #[.bool n1, .slice A xs.length c] 24)).alloc (.cells #[.bool n2, .slice B ys.length d] 24)).alloc (.cells #[.bool false, .slice none 0 0] 24) := ⟨_, rfl⟩
  rw [← E] at px py pr b0 rx ry ⊢
  clear E
  have PX := Hd px
  have PY := Hd py
  have PR := Hd pr
  have B0 := Hd b0
  have RX := Hd rx
  have RY := Hd ry
  have hlr := pr.blk.lt
  have hsz := b0.size
  obtain ⟨l1, x0, x1, -, -⟩ := px.facts
  obtain ⟨l2, y0, y1, -, -⟩ := py.facts
  clear px py pr rx ry b0
  go_wp2_with (first
    | (go_at_call 20; with_reducible refine (H0.out _ RX.out RY.out).mono ?_; rintro e w1 ⟨rfl, hb⟩; have rx := RX.out.below hb; have ry := RY.out.below hb; obtain ⟨l1, x0, x1, -, -⟩ := (PX.out.below hb).facts; obtain ⟨l2, y0, y1, -, -⟩ := (PY.out.below hb).facts)
    | (go_at_call 30; refine (H1.out _ rx ry).mono ?_; rintro e w2 ⟨v, rfl, hI, hb2⟩)
    | (go_at_call 21; refine (H2.out _ _ v hI).mono ?_; rintro e w3 ⟨v3, rfl, hI3, hb3⟩; obtain ⟨A1, c1, rfl, -⟩ := hI3.value; have pr := ((PR.out.below hb).below hb2).below hb3; obtain ⟨l3, z0, z1, f0, f1⟩ := pr.facts))
  have hq := pr.store (.bool (decide (r < 0))) (.slice A1 (natL r.natAbs).length c1)
  obtain ⟨_, k0, k1, _, _⟩ := hq.facts
  have hs1 := hb.size
  exact bodyPost_ret (by simp [results, Tryd.results16, go_sem, k0, k1]) rfl ⟨_, rfl, (hI3.pair (by omega)).base (by omega), below2 (belowTo (belowTo (belowTo B0.out hb) hb2) hb3) (by omega) _ _⟩

theorem whole_Sub_bad (n1 n2 : Bool) (A B : Option Addr) (c d : Nat) (xs ys : List Nat) (o : (okI n1 xs && okI n2 ys) = false) (w : World) (h : Raw w A c xs) (g : Raw w B d ys) :
    Calls Tryd.prog 16 #[.agg #[.bool n1, .slice A xs.length c], .agg #[.bool n2, .slice B ys.length d]] w (RetInt2 w.heap.size w 0 1) := by
  have C0 := fun (V : World) (h : Raw V A c xs) (g : Raw V B d ys) => whole_fine_any n1 n2 A B c d xs ys V h g
  rw [o] at C0
  have H0 := Hd C0
  clear C0 o
  have px := ((Pair.new w 24 (.bool n1) (.slice A xs.length c)).alloc (.cells #[.bool n2, .slice B ys.length d] 24)).alloc (.cells #[.bool false, .slice none 0 0] 24)
  have py := (Pair.new (w.alloc (.cells #[.bool n1, .slice A xs.length c] 24)) 24 (.bool n2) (.slice B ys.length d)).alloc (.cells #[.bool false, .slice none 0 0] 24)
  have pr := Pair.new ((w.alloc (.cells #[.bool n1, .slice A xs.length c] 24)).alloc (.cells #[.bool n2, .slice B ys.length d] 24)) 24 (.bool false) (.slice none 0 0)
  have rx := (((h.alloc (.cells #[.bool n1, .slice A xs.length c] 24)).alloc (.cells #[.bool n2, .slice B ys.length d] 24)).alloc (.cells #[.bool false, .slice none 0 0] 24))
  have ry := (((g.alloc (.cells #[.bool n1, .slice A xs.length c] 24)).alloc (.cells #[.bool n2, .slice B ys.length d] 24)).alloc (.cells #[.bool false, .slice none 0 0] 24))
  have b0 := (((Below.refl w.heap.size w).alloc (Nat.le_refl _) (.cells #[.bool n1, .slice A xs.length c] 24)).alloc (by simp) (.cells #[.bool n2, .slice B ys.length d] 24)).alloc (by simp; omega) (.cells #[.bool false, .slice none 0 0] 24)
  simp only [World.size_alloc] at py pr
  clear h g
  go_enter Tryd.func16, Tryd.ntmps16
  go_wp2_with fail
  obtain ⟨W, E⟩ : ∃ W, W = ((w.alloc (.cells #[.bool n1, .slice A xs.length c] 24)).alloc (.cells #[.bool n2, .slice B ys.length d] 24)).alloc (.cells #[.bool false, .slice none 0 0] 24) := ⟨_, rfl⟩
  rw [← E] at px py pr b0 rx ry ⊢
  clear E
  have PX := Hd px
  have PY := Hd py
  have PR := Hd pr
  have B0 := Hd b0
  have RX := Hd rx
  have RY := Hd ry
  have hlr := pr.blk.lt
  have hsz := b0.size
  obtain ⟨l1, x0, x1, -, -⟩ := px.facts
  obtain ⟨l2, y0, y1, -, -⟩ := py.facts
  clear px py pr rx ry b0
  go_wp2_with (first | (go_at_call 20; with_reducible refine (H0.out _ RX.out RY.out).mono ?_; rintro e w1 ⟨rfl, hb⟩; have pr := PR.out.below hb; obtain ⟨l3, z0, z1, f0, f1⟩ := pr.facts))
  have hq := pr.store (.bool false) (.slice none 0 0)
  obtain ⟨_, k0, k1, _, _⟩ := hq.facts
  exact bodyPost_ret (by simp [results, Tryd.results16, go_sem, k0, k1]) rfl ⟨_, rfl, IntOwn.nought _ _, below2 (belowTo B0.out hb) (by omega) _ _⟩

theorem whole_Sub (n1 n2 : Bool) (A B : Option Addr) (c d : Nat) (xs ys : List Nat) (w : World) (h : Raw w A c xs) (g : Raw w B d ys) :
    Calls Tryd.prog 16 #[.agg #[.bool n1, .slice A xs.length c], .agg #[.bool n2, .slice B ys.length d]] w (RetInt2 w.heap.size w (if okI n1 xs && okI n2 ys then toldV (ival n1 xs - ival n2 ys) else 0) (if okI n1 xs && okI n2 ys then toldE (ival n1 xs - ival n2 ys) else 1)) := by
  by_cases o : (okI n1 xs && okI n2 ys) = true
  · rw [if_pos o, if_pos o]
    have o' := Bool.and_eq_true_iff.1 o
    exact whole_Sub_ok n1 n2 A B c d xs ys o'.1 o'.2 _ (Hd rfl) _ _ (Hd rfl) (Hd rfl) w h g
  · rw [if_neg o, if_neg o]
    exact whole_Sub_bad n1 n2 A B c d xs ys (by simpa using o) w h g

/- Sign, Bits of package whole and of the references: 0 of what may not be. (Written by wip/exact/genwrap.py.) -/

theorem whole_Bits_any (neg : Bool) (A : Option Addr) (c : Nat) (xs : List Nat) (w : World) (h : Raw w A c xs) :
    Calls Tryd.prog 14 #[.agg #[.bool neg, .slice A xs.length c]] w fun e w' => e = .returned (.int .i64 (if okI neg xs then (bitsI xs : Int) else 0)) ∧ Below w.heap.size w w' := by
  have h0 := h.alloc (.cells #[.bool neg, .slice A xs.length c] 24)
  have hp := Pair.new w 24 (.bool neg) (.slice A xs.length c)
  have HK := Hd h0
  clear h0
  by_cases hok : okI neg xs = true
  · have hl := (okI_true.1 hok).1
    have e0 : errI neg xs = 0 := by simp [errI, hok]
    rw [if_pos hok]
    go_enter Tryd.func14, Tryd.ntmps14
    go_wp2_with fail
    refine (exact_Check_any neg A c xs _ HK.out).mono ?_
    rintro e w1 ⟨rfl, hb⟩
    rw [e0]
    have hp1 := hp.below hb
    have hb1 := (Below.alloc (Below.refl w.heap.size w) (Nat.le_refl _) _).trans (hb.mono (by simp))
    have h1 := HK.out.below hb
    obtain ⟨hlt, c0, c1, -, -⟩ := hp1.facts
    clear hb hp e0
    go_wp2_with fail
    refine (exact_Bits_any neg A c xs _ h1 (by omega)).mono ?_
    rintro e w2 ⟨rfl, hb2⟩
    go_wp2
    go_ret
    exact ⟨rfl, belowTo hb1 hb2⟩
  · have e0 : errI neg xs = 1 := by simp [errI, hok]
    rw [if_neg hok]
    go_enter Tryd.func14, Tryd.ntmps14
    go_wp2_with fail
    refine (exact_Check_any neg A c xs _ HK.out).mono ?_
    rintro e w1 ⟨rfl, hb⟩
    rw [e0]
    have hb1 := (Below.alloc (Below.refl w.heap.size w) (Nat.le_refl _) _).trans (hb.mono (by simp))
    go_wp2
    go_ret
    exact ⟨rfl, hb1⟩

end Go.Proofs.YtkncbenhfcpgkaaDoor
