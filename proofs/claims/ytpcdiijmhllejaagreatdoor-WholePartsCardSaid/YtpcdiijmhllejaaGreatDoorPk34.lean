/- Several texts in one: DivOps, PartsW. -/
import Derived.Test.YtpcdiijmhllejaaGreatDoorPk33
import Derived.Test.YtpcdiijmhllejaaGreatDoorPk18
import Derived.Test.YtpcdiijmhllejaaGreatDoorPk19
import Derived.Test.YtpcdiijmhllejaaGreatDoorPk24
import Derived.Deep.RegionWith
import Derived.Deep.RegionHeld3
import Derived.Deep.DeepCutAuto
/- QuoRem and GCD of package whole and of the references. (Written by wip/exact/gendivops.py.) -/
namespace Go.Proofs.YtpcdiijmhllejaaGreatDoor
open Go.RowKit

/-- Two numbers of the call's own that share no memory, and an error. -/
def RetTwo3 (base : Nat) (w : World) (z1 z2 k : Int) (e : Ending) (w' : World) : Prop := ∃ v1 v2, e = .returned (.tuple #[v1, v2, .int .i64 k]) ∧ Ints2 w' base v1 z1 v2 z2 ∧ Below w.heap.size w w'
/-- Two numbers of the call's own, and an error. -/
def RetBoth3 (base : Nat) (w : World) (z1 z2 k : Int) (e : Ending) (w' : World) : Prop := ∃ v1 v2, e = .returned (.tuple #[v1, v2, .int .i64 k]) ∧ IntOwn w' base v1 z1 ∧ IntOwn w' base v2 z2 ∧ Below w.heap.size w w'
/-- A number wherever it lies, and an error. -/
def RetAt2 (w : World) (z k : Int) (e : Ending) (w' : World) : Prop := ∃ v, e = .returned (.tuple #[v, .int .i64 k]) ∧ IntAt w' v z ∧ Below w.heap.size w w'
theorem Ints2.drew {w : World} {base : Nat} {v1 v2 : Value} {z1 z2 : Int} (h : Ints2 w base v1 z1 v2 z2) : Ints2 w.drew base v1 z1 v2 z2 := h.below (Below.refl _ _).drew
theorem IntOwn.drew {w : World} {base : Nat} {v : Value} {x : Int} (h : IntOwn w base v x) : IntOwn w.drew base v x := h.below (Below.refl _ _).drew
theorem Ints2.nought (w : World) (base : Nat) : Ints2 w base (.agg #[.bool false, .slice none 0 0]) 0 (.agg #[.bool false, .slice none 0 0]) 0 :=
  ⟨IntOwn.nought _ _, IntOwn.nought _ _, fun g h => by cases h⟩
def quoV (n1 : Bool) (xs : List Nat) (n2 : Bool) (ys : List Nat) : Int := if okI n1 xs && okI n2 ys then (if ys.length = 0 then 0 else (ival n1 xs).tdiv (ival n2 ys)) else 0
def remV (n1 : Bool) (xs : List Nat) (n2 : Bool) (ys : List Nat) : Int := if okI n1 xs && okI n2 ys then (if ys.length = 0 then 0 else (ival n1 xs).tmod (ival n2 ys)) else 0
def quoE (n1 : Bool) (xs : List Nat) (n2 : Bool) (ys : List Nat) : Int := if okI n1 xs && okI n2 ys then (if ys.length = 0 then 3 else 0) else 1
def gcdV (n1 : Bool) (xs : List Nat) (n2 : Bool) (ys : List Nat) : Int := if okI n1 xs && okI n2 ys then ((Nat.gcd (val xs) (val ys) : Nat) : Int) else 0
def gcdE (n1 : Bool) (xs : List Nat) (n2 : Bool) (ys : List Nat) : Int := if okI n1 xs && okI n2 ys then 0 else 1

set_option maxRecDepth 100000 in
set_option maxHeartbeats 1000000 in
theorem ref_Common_left (n1 n2 : Bool) (A B : Option Addr) (c d : Nat) (xs ys : List Nat) (he : xs = []) (w : World) (h : Raw w A c xs) (g : Raw w B d ys) :
    Calls Tryz.prog 91 #[.agg #[.bool n1, .slice A xs.length c], .agg #[.bool n2, .slice B ys.length d]] w fun e w' => e = .returned (sv false B d ys) ∧ Below w.heap.size w w' := by
  have hl1 : ((xs.length : Int) == 0) = true := by subst he; rfl
  have C1 := Lib.hid (fun (V : World) (h : Raw V B d ys) => ref_signed_sv false B d ys V h)
  obtain ⟨b9, A9, k9, c9, hsv⟩ := sv_form false B d ys
  rw [hsv] at C1 ⊢
  clear he hsv
  have px := (((Pair.new w 24 (.bool n1) (.slice A xs.length c)).alloc (.cells #[.bool n2, .slice B ys.length d] 24)).alloc (.cells #[.bool false, .slice none 0 0] 24))
  have py := ((Pair.new (w.alloc (.cells #[.bool n1, .slice A xs.length c] 24)) 24 (.bool n2) (.slice B ys.length d)).alloc (.cells #[.bool false, .slice none 0 0] 24))
  have pq := (Pair.new ((w.alloc (.cells #[.bool n1, .slice A xs.length c] 24)).alloc (.cells #[.bool n2, .slice B ys.length d] 24)) 24 (.bool false) (.slice none 0 0))
  have rx := (((h.alloc (.cells #[.bool n1, .slice A xs.length c] 24)).alloc (.cells #[.bool n2, .slice B ys.length d] 24)).alloc (.cells #[.bool false, .slice none 0 0] 24))
  have ry := (((g.alloc (.cells #[.bool n1, .slice A xs.length c] 24)).alloc (.cells #[.bool n2, .slice B ys.length d] 24)).alloc (.cells #[.bool false, .slice none 0 0] 24))
  have b0 := (((Below.refl w.heap.size w).alloc (Nat.le_refl _) (.cells #[.bool n1, .slice A xs.length c] 24)).alloc (by simp) (.cells #[.bool n2, .slice B ys.length d] 24)).alloc (by simp; omega) (.cells #[.bool false, .slice none 0 0] 24)
  simp only [World.size_alloc] at py pq
  clear h g
  go_enter Tryz.func91, Tryz.ntmps91
  go_wp2_with fail
  obtain ⟨W, E⟩ : ∃ W, W = (((w.alloc (.cells #[.bool n1, .slice A xs.length c] 24)).alloc (.cells #[.bool n2, .slice B ys.length d] 24)).alloc (.cells #[.bool false, .slice none 0 0] 24)) := ⟨_, rfl⟩
  rw [← E] at px py pq b0 rx ry ⊢
  have hsz : W.heap.size = w.heap.size + 3 := by rw [E]; simp
  clear E
  have PX := Lib.hid px
  have PY := Lib.hid py
  have PQ := Lib.hid pq
  have B0 := Lib.hid b0
  have RX := Lib.hid rx
  have RY := Lib.hid ry
  obtain ⟨l1, x0, x1, -, -⟩ := px.facts
  obtain ⟨l2, y0, y1, -, -⟩ := py.facts
  clear px py pq rx ry b0
  go_wp2_with fail
  refine (C1.out W RY.out).mono ?_
  rintro e w1 ⟨rfl, hb⟩
  have pq := PQ.out.below hb
  obtain ⟨l3, q0, q1, f0, f1⟩ := pq.facts
  have hq := pq.store (.bool b9) (.slice A9 k9 c9)
  have HB := Lib.hid (below2 (belowTo B0.out hb) (show w.heap.size ≤ w.heap.size + 1 + 1 by omega) (.bool b9) (.slice A9 k9 c9))
  have HQ := Lib.hid hq
  clear pq hq hb C1 PX PY RX RY
  go_wp2_with fail
  obtain ⟨_, k0, k1, _, _⟩ := HQ.out.facts
  exact bodyPost_ret (by simp [results, Tryz.results91, go_sem, k0, k1]) rfl ⟨rfl, HB.out⟩

set_option maxRecDepth 100000 in
set_option maxHeartbeats 1000000 in
theorem ref_Common_right (n1 n2 : Bool) (A B : Option Addr) (c d : Nat) (xs ys : List Nat) (hne : xs ≠ []) (he : ys = []) (w : World) (h : Raw w A c xs) (g : Raw w B d ys) :
    Calls Tryz.prog 91 #[.agg #[.bool n1, .slice A xs.length c], .agg #[.bool n2, .slice B ys.length d]] w fun e w' => e = .returned (sv false A c xs) ∧ Below w.heap.size w w' := by
  have hl1 : ((xs.length : Int) == 0) = false := by have : xs.length ≠ 0 := fun e => hne (List.eq_nil_of_length_eq_zero e); simp; omega
  have hl2 : ((ys.length : Int) == 0) = true := by subst he; rfl
  have C1 := Lib.hid (fun (V : World) (h : Raw V A c xs) => ref_signed_sv false A c xs V h)
  obtain ⟨b9, A9, k9, c9, hsv⟩ := sv_form false A c xs
  rw [hsv] at C1 ⊢
  clear he hsv hne
  have px := (((Pair.new w 24 (.bool n1) (.slice A xs.length c)).alloc (.cells #[.bool n2, .slice B ys.length d] 24)).alloc (.cells #[.bool false, .slice none 0 0] 24))
  have py := ((Pair.new (w.alloc (.cells #[.bool n1, .slice A xs.length c] 24)) 24 (.bool n2) (.slice B ys.length d)).alloc (.cells #[.bool false, .slice none 0 0] 24))
  have pq := (Pair.new ((w.alloc (.cells #[.bool n1, .slice A xs.length c] 24)).alloc (.cells #[.bool n2, .slice B ys.length d] 24)) 24 (.bool false) (.slice none 0 0))
  have rx := (((h.alloc (.cells #[.bool n1, .slice A xs.length c] 24)).alloc (.cells #[.bool n2, .slice B ys.length d] 24)).alloc (.cells #[.bool false, .slice none 0 0] 24))
  have ry := (((g.alloc (.cells #[.bool n1, .slice A xs.length c] 24)).alloc (.cells #[.bool n2, .slice B ys.length d] 24)).alloc (.cells #[.bool false, .slice none 0 0] 24))
  have b0 := (((Below.refl w.heap.size w).alloc (Nat.le_refl _) (.cells #[.bool n1, .slice A xs.length c] 24)).alloc (by simp) (.cells #[.bool n2, .slice B ys.length d] 24)).alloc (by simp; omega) (.cells #[.bool false, .slice none 0 0] 24)
  simp only [World.size_alloc] at py pq
  clear h g
  go_enter Tryz.func91, Tryz.ntmps91
  go_wp2_with fail
  obtain ⟨W, E⟩ : ∃ W, W = (((w.alloc (.cells #[.bool n1, .slice A xs.length c] 24)).alloc (.cells #[.bool n2, .slice B ys.length d] 24)).alloc (.cells #[.bool false, .slice none 0 0] 24)) := ⟨_, rfl⟩
  rw [← E] at px py pq b0 rx ry ⊢
  have hsz : W.heap.size = w.heap.size + 3 := by rw [E]; simp
  clear E
  have PX := Lib.hid px
  have PY := Lib.hid py
  have PQ := Lib.hid pq
  have B0 := Lib.hid b0
  have RX := Lib.hid rx
  have RY := Lib.hid ry
  obtain ⟨l1, x0, x1, -, -⟩ := px.facts
  obtain ⟨l2, y0, y1, -, -⟩ := py.facts
  clear px py pq rx ry b0
  go_wp2_with fail
  refine (C1.out W RX.out).mono ?_
  rintro e w1 ⟨rfl, hb⟩
  have pq := PQ.out.below hb
  obtain ⟨l3, q0, q1, f0, f1⟩ := pq.facts
  have hq := pq.store (.bool b9) (.slice A9 k9 c9)
  have HB := Lib.hid (below2 (belowTo B0.out hb) (show w.heap.size ≤ w.heap.size + 1 + 1 by omega) (.bool b9) (.slice A9 k9 c9))
  have HQ := Lib.hid hq
  clear pq hq hb C1 PX PY RX RY
  go_wp2_with fail
  obtain ⟨_, k0, k1, _, _⟩ := HQ.out.facts
  exact bodyPost_ret (by simp [results, Tryz.results91, go_sem, k0, k1]) rfl ⟨rfl, HB.out⟩

/-- The greatest common divisor: of the call's own, or one of the two as it came. -/
def RetOf (A B : Option Addr) (c d : Nat) (xs ys : List Nat) (w : World) (z : Int) (e : Ending) (w' : World) : Prop := ∃ v, e = .returned v ∧ (IntOwn w' w.heap.size v z ∨ (v = sv false A c xs ∧ z = ival false xs) ∨ (v = sv false B d ys ∧ z = ival false ys)) ∧ Below w.heap.size w w'
theorem of_shape {A B : Option Addr} {c d base : Nat} {xs ys : List Nat} {w : World} {z : Int} {v : Value} (h : IntOwn w base v z ∨ (v = sv false A c xs ∧ z = ival false xs) ∨ (v = sv false B d ys ∧ z = ival false ys)) : ∃ b A' k c', v = .agg #[.bool b, .slice A' k c'] := by
  rcases h with h | h | h
  · exact h.shape
  · rw [h.1]; exact sv_form _ _ _ _
  · rw [h.1]; exact sv_form _ _ _ _
theorem ref_Common (n1 n2 : Bool) (A B : Option Addr) (c d : Nat) (xs ys : List Nat) (hcx : Canon xs) (hcy : Canon ys) (hlx : xs.length ≤ 4096) (hly : ys.length ≤ 4096) (w : World) (h : Raw w A c xs) (g : Raw w B d ys) :
    Calls Tryz.prog 91 #[.agg #[.bool n1, .slice A xs.length c], .agg #[.bool n2, .slice B ys.length d]] w (RetOf A B c d xs ys w ((Nat.gcd (val xs) (val ys) : Nat) : Int)) := by
  by_cases hx : xs = []
  · refine (ref_Common_left n1 n2 A B c d xs ys hx w h g).mono ?_
    rintro e w' ⟨rfl, hb⟩
    exact ⟨_, rfl, .inr (.inr ⟨rfl, by subst hx; simp [val, ival]⟩), hb⟩
  · by_cases hy : ys = []
    · refine (ref_Common_right n1 n2 A B c d xs ys hx hy w h g).mono ?_
      rintro e w' ⟨rfl, hb⟩
      exact ⟨_, rfl, .inr (.inl ⟨rfl, by subst hy; simp [val, ival]⟩), hb⟩
    · refine (ref_Common_more n1 n2 A B c d xs ys hcx hcy hx hy hlx hly w h g).mono ?_
      rintro e w' ⟨v, rfl, hv, hb⟩
      exact ⟨v, rfl, .inl hv, hb⟩

set_option maxRecDepth 100000 in
set_option maxHeartbeats 2000000 in
theorem whole_QuoRem_ok (n1 n2 : Bool) (A B : Option Addr) (c d : Nat) (xs ys : List Nat) (o1 : okI n1 xs = true) (o2 : okI n2 ys = true) (hne : ys ≠ []) (z1 z2 : Int) (HZ1 : Hid (z1 = (ival n1 xs).tdiv (ival n2 ys))) (HZ2 : Hid (z2 = (ival n1 xs).tmod (ival n2 ys))) (w : World) (h : Raw w A c xs) (g : Raw w B d ys) :
    Calls Tryz.prog 19 #[.agg #[.bool n1, .slice A xs.length c], .agg #[.bool n2, .slice B ys.length d]] w (RetTwo3 w.heap.size w z1 z2 0) := by
  have hlen : ((ys.length : Int) == 0) = false := by
    have : ys.length ≠ 0 := fun e => hne (List.eq_nil_of_length_eq_zero e)
    simp; omega
  have hcx := (okI_true.1 o1).2.1
  have hcy := (okI_true.1 o2).2.1
  have hlx := (okI_true.1 o1).1
  have hly := (okI_true.1 o2).1
  have C0 := fun (V : World) (h : Raw V A c xs) (g : Raw V B d ys) => whole_fine_any n1 n2 A B c d xs ys V h g
  rw [o1, o2, Bool.and_self] at C0
  have H0 := Lib.hid C0
  have H1 := Lib.hid (fun (V : World) (h : Raw V A c xs) (g : Raw V B d ys) => show Calls Tryz.prog 87 #[.agg #[.bool n1, .slice A xs.length c], .agg #[.bool n2, .slice B ys.length d]] V (RetTwo V.heap.size V z1 z2) from by rw [HZ1.out, HZ2.out]; exact exact_Divide n1 n2 A B c d xs ys hcx hcy hne (by omega) (by omega) V h g)
  clear C0 o1 o2 hcx hcy hlx hly
  have px := (((Pair.new w 24 (.bool n1) (.slice A xs.length c)).alloc (.cells #[.bool n2, .slice B ys.length d] 24)).alloc (.cells #[.bool false, .slice none 0 0] 24)).alloc (.cells #[.bool false, .slice none 0 0] 24)
  have py := ((Pair.new (w.alloc (.cells #[.bool n1, .slice A xs.length c] 24)) 24 (.bool n2) (.slice B ys.length d)).alloc (.cells #[.bool false, .slice none 0 0] 24)).alloc (.cells #[.bool false, .slice none 0 0] 24)
  have pq := (Pair.new ((w.alloc (.cells #[.bool n1, .slice A xs.length c] 24)).alloc (.cells #[.bool n2, .slice B ys.length d] 24)) 24 (.bool false) (.slice none 0 0)).alloc (.cells #[.bool false, .slice none 0 0] 24)
  have pr := Pair.new (((w.alloc (.cells #[.bool n1, .slice A xs.length c] 24)).alloc (.cells #[.bool n2, .slice B ys.length d] 24)).alloc (.cells #[.bool false, .slice none 0 0] 24)) 24 (.bool false) (.slice none 0 0)
  have rx := (((h.alloc (.cells #[.bool n1, .slice A xs.length c] 24)).alloc (.cells #[.bool n2, .slice B ys.length d] 24)).alloc (.cells #[.bool false, .slice none 0 0] 24)).alloc (.cells #[.bool false, .slice none 0 0] 24)
  have ry := (((g.alloc (.cells #[.bool n1, .slice A xs.length c] 24)).alloc (.cells #[.bool n2, .slice B ys.length d] 24)).alloc (.cells #[.bool false, .slice none 0 0] 24)).alloc (.cells #[.bool false, .slice none 0 0] 24)
  have b0 := (((Below.refl w.heap.size w).alloc (Nat.le_refl _) (.cells #[.bool n1, .slice A xs.length c] 24)).alloc (by simp) (.cells #[.bool n2, .slice B ys.length d] 24)).alloc (by simp; omega) (.cells #[.bool false, .slice none 0 0] 24)
  have b0 := b0.alloc (by simp; omega) (.cells #[.bool false, .slice none 0 0] 24)
  simp only [World.size_alloc] at py pq pr
  clear h g
  go_enter Tryz.func19, Tryz.ntmps19
  go_wp2_with fail
  obtain ⟨W, E⟩ : ∃ W, W = (((w.alloc (.cells #[.bool n1, .slice A xs.length c] 24)).alloc (.cells #[.bool n2, .slice B ys.length d] 24)).alloc (.cells #[.bool false, .slice none 0 0] 24)).alloc (.cells #[.bool false, .slice none 0 0] 24) := ⟨_, rfl⟩
  rw [← E] at px py pq pr b0 rx ry ⊢
  have hsz : W.heap.size = w.heap.size + 4 := by rw [E]; simp
  clear E
  have PX := Lib.hid px
  have PY := Lib.hid py
  have PQ := Lib.hid pq
  have PR := Lib.hid pr
  have B0 := Lib.hid b0
  have RX := Lib.hid rx
  have RY := Lib.hid ry
  obtain ⟨l1, x0, x1, -, -⟩ := px.facts
  obtain ⟨l2, y0, y1, -, -⟩ := py.facts
  clear px py pq pr rx ry b0
  go_wp2_with (first
    | (go_at_call 28; with_reducible refine (H0.out _ RX.out RY.out).mono ?_; rintro e w1 ⟨rfl, hb⟩; have rx := RX.out.below hb; have ry := RY.out.below hb; obtain ⟨l1, x0, x1, -, -⟩ := (PX.out.below hb).facts; obtain ⟨l2, y0, y1, -, -⟩ := (PY.out.below hb).facts)
    | (go_at_call 87; refine (H1.out _ rx ry).mono ?_; rintro e w2 ⟨v1, v2, rfl, hI, hb2⟩; obtain ⟨b1, A1, m1, c1, rfl⟩ := hI.one.shape; obtain ⟨b2, A2, m2, c2, rfl⟩ := hI.two.shape; have pq := (PQ.out.below hb).below hb2; have pr := (PR.out.below hb).below hb2; obtain ⟨l3, q0, q1, f0, f1⟩ := pq.facts; obtain ⟨l4, r0, r1, g0, g1⟩ := pr.facts))
  have hs1 := hb.size
  have q3 := (pq.store (.bool b1) (.slice A1 m1 c1)).far (show w.heap.size + 1 + 1 ≠ w.heap.size + 1 + 1 + 1 by omega) (.bool b2) (.slice A2 m2 c2)
  have r3 := (pr.far (show w.heap.size + 1 + 1 + 1 ≠ w.heap.size + 1 + 1 by omega) (.bool b1) (.slice A1 m1 c1)).store (.bool b2) (.slice A2 m2 c2)
  have i3 := (hI.pair (g := w.heap.size + 1 + 1) (a := .bool b1) (b := .slice A1 m1 c1) (by omega)).pair (g := w.heap.size + 1 + 1 + 1) (a := .bool b2) (b := .slice A2 m2 c2) (by omega)
  have b3 := below2 (below2 (belowTo (belowTo B0.out hb) hb2) (show w.heap.size ≤ w.heap.size + 1 + 1 by omega) (.bool b1) (.slice A1 m1 c1)) (show w.heap.size ≤ w.heap.size + 1 + 1 + 1 by omega) (.bool b2) (.slice A2 m2 c2)
  obtain ⟨W3, E3⟩ : ∃ W3, W3 = ((((w2.setCell ⟨w.heap.size + 1 + 1, 0, none⟩ (.bool b1)).setCell ⟨w.heap.size + 1 + 1, 1, none⟩ (.slice A1 m1 c1)).setCell ⟨w.heap.size + 1 + 1 + 1, 0, none⟩ (.bool b2)).setCell ⟨w.heap.size + 1 + 1 + 1, 1, none⟩ (.slice A2 m2 c2)) := ⟨_, rfl⟩
  rw [← E3] at q3 r3 i3 b3 ⊢
  have hsz3 : w.heap.size + 4 ≤ w1.heap.size := by omega
  have I4 := Lib.hid ((i3.pair (g := w.heap.size + 1 + 1) (a := .bool b1) (b := .slice A1 m1 c1) (by omega)).pair (g := w.heap.size + 1 + 1 + 1) (a := .bool b2) (b := .slice A2 m2 c2) (by omega) |>.base (b' := w.heap.size) (by omega))
  have Q4 := Lib.hid ((q3.store (.bool b1) (.slice A1 m1 c1)).far (show w.heap.size + 1 + 1 ≠ w.heap.size + 1 + 1 + 1 by omega) (.bool b2) (.slice A2 m2 c2))
  have R4 := Lib.hid ((r3.far (show w.heap.size + 1 + 1 + 1 ≠ w.heap.size + 1 + 1 by omega) (.bool b1) (.slice A1 m1 c1)).store (.bool b2) (.slice A2 m2 c2))
  have B4 := Lib.hid (below2 (below2 b3 (show w.heap.size ≤ w.heap.size + 1 + 1 by omega) (.bool b1) (.slice A1 m1 c1)) (show w.heap.size ≤ w.heap.size + 1 + 1 + 1 by omega) (.bool b2) (.slice A2 m2 c2))
  obtain ⟨l3, q0, q1, f0, f1⟩ := q3.facts
  obtain ⟨l4, r0, r1, g0, g1⟩ := r3.facts
  clear E3 q3 r3 i3 hI pq pr b3 hb hb2 B0 PX PY PQ PR H0 H1 RX RY
  go_region
  all_goals (go_wp2_with fail)
  all_goals
    obtain ⟨_, k0, k1, _, _⟩ := Q4.out.facts
    obtain ⟨_, k2, k3, _, _⟩ := R4.out.facts
    exact bodyPost_ret (by simp [results, Tryz.results19, go_sem, k0, k1, k2, k3]) rfl ⟨_, _, rfl, I4.out.drew, B4.out.drew⟩

set_option maxRecDepth 100000 in
set_option maxHeartbeats 2000000 in
theorem whole_QuoRem_bad (n1 n2 : Bool) (A B : Option Addr) (c d : Nat) (xs ys : List Nat) (o : (okI n1 xs && okI n2 ys) = false) (w : World) (h : Raw w A c xs) (g : Raw w B d ys) :
    Calls Tryz.prog 19 #[.agg #[.bool n1, .slice A xs.length c], .agg #[.bool n2, .slice B ys.length d]] w (RetTwo3 w.heap.size w 0 0 1) := by
  have C0 := fun (V : World) (h : Raw V A c xs) (g : Raw V B d ys) => whole_fine_any n1 n2 A B c d xs ys V h g
  rw [o] at C0
  have H0 := Lib.hid C0
  clear C0 o
  have px := (((Pair.new w 24 (.bool n1) (.slice A xs.length c)).alloc (.cells #[.bool n2, .slice B ys.length d] 24)).alloc (.cells #[.bool false, .slice none 0 0] 24)).alloc (.cells #[.bool false, .slice none 0 0] 24)
  have py := ((Pair.new (w.alloc (.cells #[.bool n1, .slice A xs.length c] 24)) 24 (.bool n2) (.slice B ys.length d)).alloc (.cells #[.bool false, .slice none 0 0] 24)).alloc (.cells #[.bool false, .slice none 0 0] 24)
  have pq := (Pair.new ((w.alloc (.cells #[.bool n1, .slice A xs.length c] 24)).alloc (.cells #[.bool n2, .slice B ys.length d] 24)) 24 (.bool false) (.slice none 0 0)).alloc (.cells #[.bool false, .slice none 0 0] 24)
  have pr := Pair.new (((w.alloc (.cells #[.bool n1, .slice A xs.length c] 24)).alloc (.cells #[.bool n2, .slice B ys.length d] 24)).alloc (.cells #[.bool false, .slice none 0 0] 24)) 24 (.bool false) (.slice none 0 0)
  have rx := (((h.alloc (.cells #[.bool n1, .slice A xs.length c] 24)).alloc (.cells #[.bool n2, .slice B ys.length d] 24)).alloc (.cells #[.bool false, .slice none 0 0] 24)).alloc (.cells #[.bool false, .slice none 0 0] 24)
  have ry := (((g.alloc (.cells #[.bool n1, .slice A xs.length c] 24)).alloc (.cells #[.bool n2, .slice B ys.length d] 24)).alloc (.cells #[.bool false, .slice none 0 0] 24)).alloc (.cells #[.bool false, .slice none 0 0] 24)
  have b0 := (((Below.refl w.heap.size w).alloc (Nat.le_refl _) (.cells #[.bool n1, .slice A xs.length c] 24)).alloc (by simp) (.cells #[.bool n2, .slice B ys.length d] 24)).alloc (by simp; omega) (.cells #[.bool false, .slice none 0 0] 24)
  have b0 := b0.alloc (by simp; omega) (.cells #[.bool false, .slice none 0 0] 24)
  simp only [World.size_alloc] at py pq pr
  clear h g
  go_enter Tryz.func19, Tryz.ntmps19
  go_wp2_with fail
  obtain ⟨W, E⟩ : ∃ W, W = (((w.alloc (.cells #[.bool n1, .slice A xs.length c] 24)).alloc (.cells #[.bool n2, .slice B ys.length d] 24)).alloc (.cells #[.bool false, .slice none 0 0] 24)).alloc (.cells #[.bool false, .slice none 0 0] 24) := ⟨_, rfl⟩
  rw [← E] at px py pq pr b0 rx ry ⊢
  have hsz : W.heap.size = w.heap.size + 4 := by rw [E]; simp
  clear E
  have PX := Lib.hid px
  have PY := Lib.hid py
  have PQ := Lib.hid pq
  have PR := Lib.hid pr
  have B0 := Lib.hid b0
  have RX := Lib.hid rx
  have RY := Lib.hid ry
  obtain ⟨l1, x0, x1, -, -⟩ := px.facts
  obtain ⟨l2, y0, y1, -, -⟩ := py.facts
  clear px py pq pr rx ry b0
  go_wp2_with (first
    | (go_at_call 28; with_reducible refine (H0.out _ RX.out RY.out).mono ?_; rintro e w1 ⟨rfl, hb⟩; have pq := PQ.out.below hb; have pr := PR.out.below hb; obtain ⟨l1, x0, x1, -, -⟩ := (PX.out.below hb).facts; obtain ⟨l2, y0, y1, -, -⟩ := (PY.out.below hb).facts; obtain ⟨l3, q0, q1, f0, f1⟩ := pq.facts; obtain ⟨l4, r0, r1, g0, g1⟩ := pr.facts))
  have Q4 := Lib.hid ((pq.store (.bool false) (.slice none 0 0)).far (show w.heap.size + 1 + 1 ≠ w.heap.size + 1 + 1 + 1 by omega) (.bool false) (.slice none 0 0))
  have R4 := Lib.hid ((pr.far (show w.heap.size + 1 + 1 + 1 ≠ w.heap.size + 1 + 1 by omega) (.bool false) (.slice none 0 0)).store (.bool false) (.slice none 0 0))
  have B4 := Lib.hid (below2 (below2 (belowTo B0.out hb) (show w.heap.size ≤ w.heap.size + 1 + 1 by omega) (.bool false) (.slice none 0 0)) (show w.heap.size ≤ w.heap.size + 1 + 1 + 1 by omega) (.bool false) (.slice none 0 0))
  obtain ⟨_, k0, k1, _, _⟩ := Q4.out.facts
  obtain ⟨_, k2, k3, _, _⟩ := R4.out.facts
  exact bodyPost_ret (by simp [results, Tryz.results19, go_sem, k0, k1, k2, k3]) rfl ⟨_, _, rfl, Ints2.nought _ _, B4.out⟩

set_option maxRecDepth 100000 in
set_option maxHeartbeats 2000000 in
theorem whole_QuoRem_nought (n1 n2 : Bool) (A B : Option Addr) (c d : Nat) (xs ys : List Nat) (o1 : (okI n1 xs && okI n2 ys) = true) (he : ys = []) (w : World) (h : Raw w A c xs) (g : Raw w B d ys) :
    Calls Tryz.prog 19 #[.agg #[.bool n1, .slice A xs.length c], .agg #[.bool n2, .slice B ys.length d]] w (RetTwo3 w.heap.size w 0 0 3) := by
  have C0 := fun (V : World) (h : Raw V A c xs) (g : Raw V B d ys) => whole_fine_any n1 n2 A B c d xs ys V h g
  rw [o1] at C0
  have H0 := Lib.hid C0
  have hlen : ((ys.length : Int) == 0) = true := by subst he; rfl
  clear C0 o1 he
  have px := (((Pair.new w 24 (.bool n1) (.slice A xs.length c)).alloc (.cells #[.bool n2, .slice B ys.length d] 24)).alloc (.cells #[.bool false, .slice none 0 0] 24)).alloc (.cells #[.bool false, .slice none 0 0] 24)
  have py := ((Pair.new (w.alloc (.cells #[.bool n1, .slice A xs.length c] 24)) 24 (.bool n2) (.slice B ys.length d)).alloc (.cells #[.bool false, .slice none 0 0] 24)).alloc (.cells #[.bool false, .slice none 0 0] 24)
  have pq := (Pair.new ((w.alloc (.cells #[.bool n1, .slice A xs.length c] 24)).alloc (.cells #[.bool n2, .slice B ys.length d] 24)) 24 (.bool false) (.slice none 0 0)).alloc (.cells #[.bool false, .slice none 0 0] 24)
  have pr := Pair.new (((w.alloc (.cells #[.bool n1, .slice A xs.length c] 24)).alloc (.cells #[.bool n2, .slice B ys.length d] 24)).alloc (.cells #[.bool false, .slice none 0 0] 24)) 24 (.bool false) (.slice none 0 0)
  have rx := (((h.alloc (.cells #[.bool n1, .slice A xs.length c] 24)).alloc (.cells #[.bool n2, .slice B ys.length d] 24)).alloc (.cells #[.bool false, .slice none 0 0] 24)).alloc (.cells #[.bool false, .slice none 0 0] 24)
  have ry := (((g.alloc (.cells #[.bool n1, .slice A xs.length c] 24)).alloc (.cells #[.bool n2, .slice B ys.length d] 24)).alloc (.cells #[.bool false, .slice none 0 0] 24)).alloc (.cells #[.bool false, .slice none 0 0] 24)
  have b0 := (((Below.refl w.heap.size w).alloc (Nat.le_refl _) (.cells #[.bool n1, .slice A xs.length c] 24)).alloc (by simp) (.cells #[.bool n2, .slice B ys.length d] 24)).alloc (by simp; omega) (.cells #[.bool false, .slice none 0 0] 24)
  have b0 := b0.alloc (by simp; omega) (.cells #[.bool false, .slice none 0 0] 24)
  simp only [World.size_alloc] at py pq pr
  clear h g
  go_enter Tryz.func19, Tryz.ntmps19
  go_wp2_with fail
  obtain ⟨W, E⟩ : ∃ W, W = (((w.alloc (.cells #[.bool n1, .slice A xs.length c] 24)).alloc (.cells #[.bool n2, .slice B ys.length d] 24)).alloc (.cells #[.bool false, .slice none 0 0] 24)).alloc (.cells #[.bool false, .slice none 0 0] 24) := ⟨_, rfl⟩
  rw [← E] at px py pq pr b0 rx ry ⊢
  have hsz : W.heap.size = w.heap.size + 4 := by rw [E]; simp
  clear E
  have PX := Lib.hid px
  have PY := Lib.hid py
  have PQ := Lib.hid pq
  have PR := Lib.hid pr
  have B0 := Lib.hid b0
  have RX := Lib.hid rx
  have RY := Lib.hid ry
  obtain ⟨l1, x0, x1, -, -⟩ := px.facts
  obtain ⟨l2, y0, y1, -, -⟩ := py.facts
  clear px py pq pr rx ry b0
  go_wp2_with (first
    | (go_at_call 28; with_reducible refine (H0.out _ RX.out RY.out).mono ?_; rintro e w1 ⟨rfl, hb⟩; have pq := PQ.out.below hb; have pr := PR.out.below hb; obtain ⟨l1, x0, x1, -, -⟩ := (PX.out.below hb).facts; obtain ⟨l2, y0, y1, -, -⟩ := (PY.out.below hb).facts; obtain ⟨l3, q0, q1, f0, f1⟩ := pq.facts; obtain ⟨l4, r0, r1, g0, g1⟩ := pr.facts))
  have Q4 := Lib.hid ((pq.store (.bool false) (.slice none 0 0)).far (show w.heap.size + 1 + 1 ≠ w.heap.size + 1 + 1 + 1 by omega) (.bool false) (.slice none 0 0))
  have R4 := Lib.hid ((pr.far (show w.heap.size + 1 + 1 + 1 ≠ w.heap.size + 1 + 1 by omega) (.bool false) (.slice none 0 0)).store (.bool false) (.slice none 0 0))
  have B4 := Lib.hid (below2 (below2 (belowTo B0.out hb) (show w.heap.size ≤ w.heap.size + 1 + 1 by omega) (.bool false) (.slice none 0 0)) (show w.heap.size ≤ w.heap.size + 1 + 1 + 1 by omega) (.bool false) (.slice none 0 0))
  obtain ⟨_, k0, k1, _, _⟩ := Q4.out.facts
  obtain ⟨_, k2, k3, _, _⟩ := R4.out.facts
  exact bodyPost_ret (by simp [results, Tryz.results19, go_sem, k0, k1, k2, k3]) rfl ⟨_, _, rfl, Ints2.nought _ _, B4.out⟩

theorem whole_QuoRem (n1 n2 : Bool) (A B : Option Addr) (c d : Nat) (xs ys : List Nat) (w : World) (h : Raw w A c xs) (g : Raw w B d ys) :
    Calls Tryz.prog 19 #[.agg #[.bool n1, .slice A xs.length c], .agg #[.bool n2, .slice B ys.length d]] w (RetTwo3 w.heap.size w (quoV n1 xs n2 ys) (remV n1 xs n2 ys) (quoE n1 xs n2 ys)) := by
  unfold quoV remV quoE
  by_cases o : (okI n1 xs && okI n2 ys) = true
  · rw [if_pos o, if_pos o, if_pos o]
    have o' := Bool.and_eq_true_iff.1 o
    by_cases hy : ys.length = 0
    · rw [if_pos hy, if_pos hy, if_pos hy]
      exact whole_QuoRem_nought n1 n2 A B c d xs ys o (List.eq_nil_of_length_eq_zero hy) w h g
    · rw [if_neg hy, if_neg hy, if_neg hy]
      exact whole_QuoRem_ok n1 n2 A B c d xs ys o'.1 o'.2 (fun e => hy (by rw [e]; rfl)) _ _ (Lib.hid rfl) (Lib.hid rfl) w h g
  · rw [if_neg o, if_neg o, if_neg o]
    exact whole_QuoRem_bad n1 n2 A B c d xs ys (by simpa using o) w h g

set_option maxRecDepth 100000 in
set_option maxHeartbeats 2000000 in
theorem whole_GCD_ok (n1 n2 : Bool) (A B : Option Addr) (c d : Nat) (xs ys : List Nat) (o1 : okI n1 xs = true) (o2 : okI n2 ys = true) (z : Int) (HZ : Hid (z = ((Nat.gcd (val xs) (val ys) : Nat) : Int))) (w : World) (h : Raw w A c xs) (g : Raw w B d ys) :
    Calls Tryz.prog 20 #[.agg #[.bool n1, .slice A xs.length c], .agg #[.bool n2, .slice B ys.length d]] w (RetInt2 w.heap.size w z 0) := by
  have hcx := (okI_true.1 o1).2.1
  have hcy := (okI_true.1 o2).2.1
  have hlx := (okI_true.1 o1).1
  have hly := (okI_true.1 o2).1
  have C0 := fun (V : World) (h : Raw V A c xs) (g : Raw V B d ys) => whole_fine_any n1 n2 A B c d xs ys V h g
  rw [o1, o2, Bool.and_self] at C0
  have H0 := Lib.hid C0
  have H1 := Lib.hid (fun (V : World) (h : Raw V A c xs) (g : Raw V B d ys) => show Calls Tryz.prog 88 #[.agg #[.bool n1, .slice A xs.length c], .agg #[.bool n2, .slice B ys.length d]] V (RetInt V.heap.size V z) from by rw [HZ.out]; exact exact_Common n1 n2 A B c d xs ys (by omega) (by omega) V h g)
  have HH := Lib.hid (And.intro h g)
  clear C0 o1 o2 hcx hcy hlx hly HZ
  have px := (((Pair.new w 24 (.bool n1) (.slice A xs.length c)).alloc (.cells #[.bool n2, .slice B ys.length d] 24)).alloc (.cells #[.bool false, .slice none 0 0] 24))
  have py := ((Pair.new (w.alloc (.cells #[.bool n1, .slice A xs.length c] 24)) 24 (.bool n2) (.slice B ys.length d)).alloc (.cells #[.bool false, .slice none 0 0] 24))
  have pq := (Pair.new ((w.alloc (.cells #[.bool n1, .slice A xs.length c] 24)).alloc (.cells #[.bool n2, .slice B ys.length d] 24)) 24 (.bool false) (.slice none 0 0))
  have rx := (((h.alloc (.cells #[.bool n1, .slice A xs.length c] 24)).alloc (.cells #[.bool n2, .slice B ys.length d] 24)).alloc (.cells #[.bool false, .slice none 0 0] 24))
  have ry := (((g.alloc (.cells #[.bool n1, .slice A xs.length c] 24)).alloc (.cells #[.bool n2, .slice B ys.length d] 24)).alloc (.cells #[.bool false, .slice none 0 0] 24))
  have b0 := (((Below.refl w.heap.size w).alloc (Nat.le_refl _) (.cells #[.bool n1, .slice A xs.length c] 24)).alloc (by simp) (.cells #[.bool n2, .slice B ys.length d] 24)).alloc (by simp; omega) (.cells #[.bool false, .slice none 0 0] 24)
  simp only [World.size_alloc] at py pq
  clear h g
  go_enter Tryz.func20, Tryz.ntmps20
  go_wp2_with fail
  obtain ⟨W, E⟩ : ∃ W, W = (((w.alloc (.cells #[.bool n1, .slice A xs.length c] 24)).alloc (.cells #[.bool n2, .slice B ys.length d] 24)).alloc (.cells #[.bool false, .slice none 0 0] 24)) := ⟨_, rfl⟩
  rw [← E] at px py pq b0 rx ry ⊢
  have hsz : W.heap.size = w.heap.size + 3 := by rw [E]; simp
  clear E
  have PX := Lib.hid px
  have PY := Lib.hid py
  have PQ := Lib.hid pq
  have B0 := Lib.hid b0
  have RX := Lib.hid rx
  have RY := Lib.hid ry
  obtain ⟨l1, x0, x1, -, -⟩ := px.facts
  obtain ⟨l2, y0, y1, -, -⟩ := py.facts
  clear px py pq rx ry b0
  go_wp2_with (first
    | (go_at_call 28; with_reducible refine (H0.out _ RX.out RY.out).mono ?_; rintro e w1 ⟨rfl, hb⟩; have rx := RX.out.below hb; have ry := RY.out.below hb; obtain ⟨l1, x0, x1, -, -⟩ := (PX.out.below hb).facts; obtain ⟨l2, y0, y1, -, -⟩ := (PY.out.below hb).facts)
    | (go_at_call 88; refine (H1.out _ rx ry).mono ?_; rintro e w2 ⟨v, rfl, hI, hb2⟩; obtain ⟨b1, A1, m1, c1, rfl⟩ := hI.shape; have pq := (PQ.out.below hb).below hb2; obtain ⟨l3, q0, q1, f0, f1⟩ := pq.facts))
  have hs1 := hb.size
  have hq := pq.store (.bool b1) (.slice A1 m1 c1)
  obtain ⟨_, k0, k1, _, _⟩ := hq.facts
  have hbf := below2 (belowTo (belowTo B0.out hb) hb2) (show w.heap.size ≤ w.heap.size + 1 + 1 by omega) (.bool b1) (.slice A1 m1 c1)
  exact bodyPost_ret (by simp [results, Tryz.results20, go_sem, k0, k1]) rfl ⟨_, rfl, (hI.pair (by omega)).base (by omega), hbf⟩

set_option maxRecDepth 100000 in
set_option maxHeartbeats 1000000 in
theorem whole_GCD_bad (n1 n2 : Bool) (A B : Option Addr) (c d : Nat) (xs ys : List Nat) (o : (okI n1 xs && okI n2 ys) = false) (w : World) (h : Raw w A c xs) (g : Raw w B d ys) :
    Calls Tryz.prog 20 #[.agg #[.bool n1, .slice A xs.length c], .agg #[.bool n2, .slice B ys.length d]] w (RetInt2 w.heap.size w 0 1) := by
  have C0 := fun (V : World) (h : Raw V A c xs) (g : Raw V B d ys) => whole_fine_any n1 n2 A B c d xs ys V h g
  rw [o] at C0
  have H0 := Lib.hid C0
  clear C0 o
  have px := (((Pair.new w 24 (.bool n1) (.slice A xs.length c)).alloc (.cells #[.bool n2, .slice B ys.length d] 24)).alloc (.cells #[.bool false, .slice none 0 0] 24))
  have py := ((Pair.new (w.alloc (.cells #[.bool n1, .slice A xs.length c] 24)) 24 (.bool n2) (.slice B ys.length d)).alloc (.cells #[.bool false, .slice none 0 0] 24))
  have pq := (Pair.new ((w.alloc (.cells #[.bool n1, .slice A xs.length c] 24)).alloc (.cells #[.bool n2, .slice B ys.length d] 24)) 24 (.bool false) (.slice none 0 0))
  have rx := (((h.alloc (.cells #[.bool n1, .slice A xs.length c] 24)).alloc (.cells #[.bool n2, .slice B ys.length d] 24)).alloc (.cells #[.bool false, .slice none 0 0] 24))
  have ry := (((g.alloc (.cells #[.bool n1, .slice A xs.length c] 24)).alloc (.cells #[.bool n2, .slice B ys.length d] 24)).alloc (.cells #[.bool false, .slice none 0 0] 24))
  have b0 := (((Below.refl w.heap.size w).alloc (Nat.le_refl _) (.cells #[.bool n1, .slice A xs.length c] 24)).alloc (by simp) (.cells #[.bool n2, .slice B ys.length d] 24)).alloc (by simp; omega) (.cells #[.bool false, .slice none 0 0] 24)
  simp only [World.size_alloc] at py pq
  clear h g
  go_enter Tryz.func20, Tryz.ntmps20
  go_wp2_with fail
  obtain ⟨W, E⟩ : ∃ W, W = (((w.alloc (.cells #[.bool n1, .slice A xs.length c] 24)).alloc (.cells #[.bool n2, .slice B ys.length d] 24)).alloc (.cells #[.bool false, .slice none 0 0] 24)) := ⟨_, rfl⟩
  rw [← E] at px py pq b0 rx ry ⊢
  have hsz : W.heap.size = w.heap.size + 3 := by rw [E]; simp
  clear E
  have PX := Lib.hid px
  have PY := Lib.hid py
  have PQ := Lib.hid pq
  have B0 := Lib.hid b0
  have RX := Lib.hid rx
  have RY := Lib.hid ry
  obtain ⟨l1, x0, x1, -, -⟩ := px.facts
  obtain ⟨l2, y0, y1, -, -⟩ := py.facts
  clear px py pq rx ry b0
  go_wp2_with (first | (go_at_call 28; with_reducible refine (H0.out _ RX.out RY.out).mono ?_; rintro e w1 ⟨rfl, hb⟩; have pq := PQ.out.below hb; obtain ⟨l3, z0, z1, f0, f1⟩ := pq.facts))
  have hq := pq.store (.bool false) (.slice none 0 0)
  obtain ⟨_, k0, k1, _, _⟩ := hq.facts
  exact bodyPost_ret (by simp [results, Tryz.results20, go_sem, k0, k1]) rfl ⟨_, rfl, IntOwn.nought _ _, below2 (belowTo B0.out hb) (by omega) _ _⟩

theorem whole_GCD (n1 n2 : Bool) (A B : Option Addr) (c d : Nat) (xs ys : List Nat) (w : World) (h : Raw w A c xs) (g : Raw w B d ys) :
    Calls Tryz.prog 20 #[.agg #[.bool n1, .slice A xs.length c], .agg #[.bool n2, .slice B ys.length d]] w (RetInt2 w.heap.size w (gcdV n1 xs n2 ys) (gcdE n1 xs n2 ys)) := by
  unfold gcdV gcdE
  by_cases o : (okI n1 xs && okI n2 ys) = true
  · rw [if_pos o, if_pos o]
    have o' := Bool.and_eq_true_iff.1 o
    exact whole_GCD_ok n1 n2 A B c d xs ys o'.1 o'.2 _ (Lib.hid rfl) w h g
  · rw [if_neg o, if_neg o]
    exact whole_GCD_bad n1 n2 A B c d xs ys (by simpa using o) w h g

set_option maxRecDepth 100000 in
set_option maxHeartbeats 2000000 in
theorem ref_QuoRem_ok (n1 n2 : Bool) (A B : Option Addr) (c d : Nat) (xs ys : List Nat) (o1 : okI n1 xs = true) (o2 : okI n2 ys = true) (hne : ys ≠ []) (z1 z2 : Int) (HZ1 : Hid (z1 = (ival n1 xs).tdiv (ival n2 ys))) (HZ2 : Hid (z2 = (ival n1 xs).tmod (ival n2 ys))) (w : World) (h : Raw w A c xs) (g : Raw w B d ys) :
    Calls Tryz.prog 21 #[.agg #[.bool n1, .slice A xs.length c], .agg #[.bool n2, .slice B ys.length d]] w (RetBoth3 w.heap.size w z1 z2 0) := by
  have hlen : ((ys.length : Int) == 0) = false := by
    have : ys.length ≠ 0 := fun e => hne (List.eq_nil_of_length_eq_zero e)
    simp; omega
  have hcx := (okI_true.1 o1).2.1
  have hcy := (okI_true.1 o2).2.1
  have hlx := (okI_true.1 o1).1
  have hly := (okI_true.1 o2).1
  have C0 := fun (V : World) (h : Raw V A c xs) (g : Raw V B d ys) => ref_fine_any n1 n2 A B c d xs ys V h g
  rw [o1, o2, Bool.and_self] at C0
  have H0 := Lib.hid C0
  have H1 := Lib.hid (fun (V : World) (h : Raw V A c xs) (g : Raw V B d ys) => show Calls Tryz.prog 90 #[.agg #[.bool n1, .slice A xs.length c], .agg #[.bool n2, .slice B ys.length d]] V (RetBoth V.heap.size V z1 z2) from by rw [HZ1.out, HZ2.out]; exact ref_Divide n1 n2 A B c d xs ys hcy hne (by omega) (by omega) V h g)
  clear C0 o1 o2 hcx hcy hlx hly
  have CS := fun (V : World) (g : Raw V B d ys) => ref_Sign_any n2 B d ys V g
  obtain ⟨s, hs⟩ : ∃ s, s = sgnI n2 ys := ⟨_, rfl⟩
  have hs0 : (s == 0) = false := by
    rw [hs]; unfold sgnI
    have : ys.length ≠ 0 := fun e => hne (List.eq_nil_of_length_eq_zero e)
    rw [if_neg this]; cases n2 <;> rfl
  rw [← hs] at CS
  have HS := Lib.hid CS
  clear CS hs
  have px := (((Pair.new w 24 (.bool n1) (.slice A xs.length c)).alloc (.cells #[.bool n2, .slice B ys.length d] 24)).alloc (.cells #[.bool false, .slice none 0 0] 24)).alloc (.cells #[.bool false, .slice none 0 0] 24)
  have py := ((Pair.new (w.alloc (.cells #[.bool n1, .slice A xs.length c] 24)) 24 (.bool n2) (.slice B ys.length d)).alloc (.cells #[.bool false, .slice none 0 0] 24)).alloc (.cells #[.bool false, .slice none 0 0] 24)
  have pq := (Pair.new ((w.alloc (.cells #[.bool n1, .slice A xs.length c] 24)).alloc (.cells #[.bool n2, .slice B ys.length d] 24)) 24 (.bool false) (.slice none 0 0)).alloc (.cells #[.bool false, .slice none 0 0] 24)
  have pr := Pair.new (((w.alloc (.cells #[.bool n1, .slice A xs.length c] 24)).alloc (.cells #[.bool n2, .slice B ys.length d] 24)).alloc (.cells #[.bool false, .slice none 0 0] 24)) 24 (.bool false) (.slice none 0 0)
  have rx := (((h.alloc (.cells #[.bool n1, .slice A xs.length c] 24)).alloc (.cells #[.bool n2, .slice B ys.length d] 24)).alloc (.cells #[.bool false, .slice none 0 0] 24)).alloc (.cells #[.bool false, .slice none 0 0] 24)
  have ry := (((g.alloc (.cells #[.bool n1, .slice A xs.length c] 24)).alloc (.cells #[.bool n2, .slice B ys.length d] 24)).alloc (.cells #[.bool false, .slice none 0 0] 24)).alloc (.cells #[.bool false, .slice none 0 0] 24)
  have b0 := (((Below.refl w.heap.size w).alloc (Nat.le_refl _) (.cells #[.bool n1, .slice A xs.length c] 24)).alloc (by simp) (.cells #[.bool n2, .slice B ys.length d] 24)).alloc (by simp; omega) (.cells #[.bool false, .slice none 0 0] 24)
  have b0 := b0.alloc (by simp; omega) (.cells #[.bool false, .slice none 0 0] 24)
  simp only [World.size_alloc] at py pq pr
  clear h g
  go_enter Tryz.func21, Tryz.ntmps21
  go_wp2_with fail
  obtain ⟨W, E⟩ : ∃ W, W = (((w.alloc (.cells #[.bool n1, .slice A xs.length c] 24)).alloc (.cells #[.bool n2, .slice B ys.length d] 24)).alloc (.cells #[.bool false, .slice none 0 0] 24)).alloc (.cells #[.bool false, .slice none 0 0] 24) := ⟨_, rfl⟩
  rw [← E] at px py pq pr b0 rx ry ⊢
  have hsz : W.heap.size = w.heap.size + 4 := by rw [E]; simp
  clear E
  have PX := Lib.hid px
  have PY := Lib.hid py
  have PQ := Lib.hid pq
  have PR := Lib.hid pr
  have B0 := Lib.hid b0
  have RX := Lib.hid rx
  have RY := Lib.hid ry
  obtain ⟨l1, x0, x1, -, -⟩ := px.facts
  obtain ⟨l2, y0, y1, -, -⟩ := py.facts
  clear px py pq pr rx ry b0
  go_wp2_with (first
    | (go_at_call 33; with_reducible refine (H0.out _ RX.out RY.out).mono ?_; rintro e w1 ⟨rfl, hb⟩; have rx := RX.out.below hb; have ry := RY.out.below hb; obtain ⟨l1, x0, x1, -, -⟩ := (PX.out.below hb).facts; obtain ⟨l2, y0, y1, -, -⟩ := (PY.out.below hb).facts)
    | (go_at_call 89; refine (HS.out _ ry).mono ?_; rintro e wq ⟨rfl, hbq⟩; have rx := rx.below hbq; have ry := ry.below hbq; obtain ⟨l1, x0, x1, -, -⟩ := ((PX.out.below hb).below hbq).facts; obtain ⟨l2, y0, y1, -, -⟩ := ((PY.out.below hb).below hbq).facts)
    | (go_at_call 90; refine (H1.out _ rx ry).mono ?_; rintro e w2 ⟨v1, v2, rfl, hI1, hI2, hb2⟩; obtain ⟨b1, A1, m1, c1, rfl⟩ := hI1.shape; obtain ⟨b2, A2, m2, c2, rfl⟩ := hI2.shape; have pq := ((PQ.out.below hb).below hbq).below hb2; have pr := ((PR.out.below hb).below hbq).below hb2; obtain ⟨l3, q0, q1, f0, f1⟩ := pq.facts; obtain ⟨l4, r0, r1, g0, g1⟩ := pr.facts))
  have hs1 := hb.size
  have hsq := hbq.size
  have hs2 := hb2.size
  have q3 := (pq.alloc (.cells #[.bool b1, .slice A1 m1 c1] 24)).alloc (.cells #[.bool b2, .slice A2 m2 c2] 24)
  have r3 := (pr.alloc (.cells #[.bool b1, .slice A1 m1 c1] 24)).alloc (.cells #[.bool b2, .slice A2 m2 c2] 24)
  have q7 := (Pair.new w2 24 (.bool b1) (.slice A1 m1 c1)).alloc (.cells #[.bool b2, .slice A2 m2 c2] 24)
  have r8 := Pair.new (w2.alloc (.cells #[.bool b1, .slice A1 m1 c1] 24)) 24 (.bool b2) (.slice A2 m2 c2)
  have i1 := (hI1.alloc (.cells #[.bool b1, .slice A1 m1 c1] 24)).alloc (.cells #[.bool b2, .slice A2 m2 c2] 24)
  have i2 := (hI2.alloc (.cells #[.bool b1, .slice A1 m1 c1] 24)).alloc (.cells #[.bool b2, .slice A2 m2 c2] 24)
  have b3 := ((belowTo (belowTo (belowTo B0.out hb) hbq) hb2).alloc (by omega) (.cells #[.bool b1, .slice A1 m1 c1] 24)).alloc (by simp; omega) (.cells #[.bool b2, .slice A2 m2 c2] 24)
  simp only [World.size_alloc] at r8
  obtain ⟨W3, E3⟩ : ∃ W3, W3 = (w2.alloc (.cells #[.bool b1, .slice A1 m1 c1] 24)).alloc (.cells #[.bool b2, .slice A2 m2 c2] 24) := ⟨_, rfl⟩
  rw [← E3] at q3 r3 q7 r8 i1 i2 b3 ⊢
  have hsz3 : w.heap.size + 4 ≤ w1.heap.size := by omega
  have I41 := Lib.hid ((i1.pair (g := w.heap.size + 1 + 1) (a := .bool b1) (b := .slice A1 m1 c1) (by omega)).pair (g := w.heap.size + 1 + 1 + 1) (a := .bool b2) (b := .slice A2 m2 c2) (by omega) |>.base (b' := w.heap.size) (by omega))
  have I42 := Lib.hid ((i2.pair (g := w.heap.size + 1 + 1) (a := .bool b1) (b := .slice A1 m1 c1) (by omega)).pair (g := w.heap.size + 1 + 1 + 1) (a := .bool b2) (b := .slice A2 m2 c2) (by omega) |>.base (b' := w.heap.size) (by omega))
  have Q4 := Lib.hid ((q3.store (.bool b1) (.slice A1 m1 c1)).far (show w.heap.size + 1 + 1 ≠ w.heap.size + 1 + 1 + 1 by omega) (.bool b2) (.slice A2 m2 c2))
  have R4 := Lib.hid ((r3.far (show w.heap.size + 1 + 1 + 1 ≠ w.heap.size + 1 + 1 by omega) (.bool b1) (.slice A1 m1 c1)).store (.bool b2) (.slice A2 m2 c2))
  have B4 := Lib.hid (below2 (below2 b3 (show w.heap.size ≤ w.heap.size + 1 + 1 by omega) (.bool b1) (.slice A1 m1 c1)) (show w.heap.size ≤ w.heap.size + 1 + 1 + 1 by omega) (.bool b2) (.slice A2 m2 c2))
  obtain ⟨l3, q0, q1, f0, f1⟩ := q3.facts
  obtain ⟨l4, r0, r1, g0, g1⟩ := r3.facts
  obtain ⟨l5, q5, q6, -, -⟩ := q7.facts
  obtain ⟨l6, r5, r6, -, -⟩ := r8.facts
  clear E3 q3 r3 i1 i2 hI1 hI2 pq pr q7 r8 hbq b3 hb hb2 B0 PX PY PQ PR H0 H1 RX RY
  go_region
  all_goals (go_wp2_with fail)
  all_goals
    obtain ⟨_, k0, k1, _, _⟩ := Q4.out.facts
    obtain ⟨_, k2, k3, _, _⟩ := R4.out.facts
    exact bodyPost_ret (by simp [results, Tryz.results21, go_sem, k0, k1, k2, k3]) rfl ⟨_, _, rfl, I41.out.drew, I42.out.drew, B4.out.drew⟩

set_option maxRecDepth 100000 in
set_option maxHeartbeats 2000000 in
theorem ref_QuoRem_bad (n1 n2 : Bool) (A B : Option Addr) (c d : Nat) (xs ys : List Nat) (o : (okI n1 xs && okI n2 ys) = false) (w : World) (h : Raw w A c xs) (g : Raw w B d ys) :
    Calls Tryz.prog 21 #[.agg #[.bool n1, .slice A xs.length c], .agg #[.bool n2, .slice B ys.length d]] w (RetBoth3 w.heap.size w 0 0 1) := by
  have C0 := fun (V : World) (h : Raw V A c xs) (g : Raw V B d ys) => ref_fine_any n1 n2 A B c d xs ys V h g
  rw [o] at C0
  have H0 := Lib.hid C0
  clear C0 o
  have px := (((Pair.new w 24 (.bool n1) (.slice A xs.length c)).alloc (.cells #[.bool n2, .slice B ys.length d] 24)).alloc (.cells #[.bool false, .slice none 0 0] 24)).alloc (.cells #[.bool false, .slice none 0 0] 24)
  have py := ((Pair.new (w.alloc (.cells #[.bool n1, .slice A xs.length c] 24)) 24 (.bool n2) (.slice B ys.length d)).alloc (.cells #[.bool false, .slice none 0 0] 24)).alloc (.cells #[.bool false, .slice none 0 0] 24)
  have pq := (Pair.new ((w.alloc (.cells #[.bool n1, .slice A xs.length c] 24)).alloc (.cells #[.bool n2, .slice B ys.length d] 24)) 24 (.bool false) (.slice none 0 0)).alloc (.cells #[.bool false, .slice none 0 0] 24)
  have pr := Pair.new (((w.alloc (.cells #[.bool n1, .slice A xs.length c] 24)).alloc (.cells #[.bool n2, .slice B ys.length d] 24)).alloc (.cells #[.bool false, .slice none 0 0] 24)) 24 (.bool false) (.slice none 0 0)
  have rx := (((h.alloc (.cells #[.bool n1, .slice A xs.length c] 24)).alloc (.cells #[.bool n2, .slice B ys.length d] 24)).alloc (.cells #[.bool false, .slice none 0 0] 24)).alloc (.cells #[.bool false, .slice none 0 0] 24)
  have ry := (((g.alloc (.cells #[.bool n1, .slice A xs.length c] 24)).alloc (.cells #[.bool n2, .slice B ys.length d] 24)).alloc (.cells #[.bool false, .slice none 0 0] 24)).alloc (.cells #[.bool false, .slice none 0 0] 24)
  have b0 := (((Below.refl w.heap.size w).alloc (Nat.le_refl _) (.cells #[.bool n1, .slice A xs.length c] 24)).alloc (by simp) (.cells #[.bool n2, .slice B ys.length d] 24)).alloc (by simp; omega) (.cells #[.bool false, .slice none 0 0] 24)
  have b0 := b0.alloc (by simp; omega) (.cells #[.bool false, .slice none 0 0] 24)
  simp only [World.size_alloc] at py pq pr
  clear h g
  go_enter Tryz.func21, Tryz.ntmps21
  go_wp2_with fail
  obtain ⟨W, E⟩ : ∃ W, W = (((w.alloc (.cells #[.bool n1, .slice A xs.length c] 24)).alloc (.cells #[.bool n2, .slice B ys.length d] 24)).alloc (.cells #[.bool false, .slice none 0 0] 24)).alloc (.cells #[.bool false, .slice none 0 0] 24) := ⟨_, rfl⟩
  rw [← E] at px py pq pr b0 rx ry ⊢
  have hsz : W.heap.size = w.heap.size + 4 := by rw [E]; simp
  clear E
  have PX := Lib.hid px
  have PY := Lib.hid py
  have PQ := Lib.hid pq
  have PR := Lib.hid pr
  have B0 := Lib.hid b0
  have RX := Lib.hid rx
  have RY := Lib.hid ry
  obtain ⟨l1, x0, x1, -, -⟩ := px.facts
  obtain ⟨l2, y0, y1, -, -⟩ := py.facts
  clear px py pq pr rx ry b0
  go_wp2_with (first
    | (go_at_call 33; with_reducible refine (H0.out _ RX.out RY.out).mono ?_; rintro e w1 ⟨rfl, hb⟩; have pq := PQ.out.below hb; have pr := PR.out.below hb; obtain ⟨l1, x0, x1, -, -⟩ := (PX.out.below hb).facts; obtain ⟨l2, y0, y1, -, -⟩ := (PY.out.below hb).facts; obtain ⟨l3, q0, q1, f0, f1⟩ := pq.facts; obtain ⟨l4, r0, r1, g0, g1⟩ := pr.facts))
  have Q4 := Lib.hid ((pq.store (.bool false) (.slice none 0 0)).far (show w.heap.size + 1 + 1 ≠ w.heap.size + 1 + 1 + 1 by omega) (.bool false) (.slice none 0 0))
  have R4 := Lib.hid ((pr.far (show w.heap.size + 1 + 1 + 1 ≠ w.heap.size + 1 + 1 by omega) (.bool false) (.slice none 0 0)).store (.bool false) (.slice none 0 0))
  have B4 := Lib.hid (below2 (below2 (belowTo B0.out hb) (show w.heap.size ≤ w.heap.size + 1 + 1 by omega) (.bool false) (.slice none 0 0)) (show w.heap.size ≤ w.heap.size + 1 + 1 + 1 by omega) (.bool false) (.slice none 0 0))
  obtain ⟨_, k0, k1, _, _⟩ := Q4.out.facts
  obtain ⟨_, k2, k3, _, _⟩ := R4.out.facts
  exact bodyPost_ret (by simp [results, Tryz.results21, go_sem, k0, k1, k2, k3]) rfl ⟨_, _, rfl, IntOwn.nought _ _, IntOwn.nought _ _, B4.out⟩

set_option maxRecDepth 100000 in
set_option maxHeartbeats 2000000 in
theorem ref_QuoRem_nought (n1 n2 : Bool) (A B : Option Addr) (c d : Nat) (xs ys : List Nat) (o1 : (okI n1 xs && okI n2 ys) = true) (he : ys = []) (w : World) (h : Raw w A c xs) (g : Raw w B d ys) :
    Calls Tryz.prog 21 #[.agg #[.bool n1, .slice A xs.length c], .agg #[.bool n2, .slice B ys.length d]] w (RetBoth3 w.heap.size w 0 0 3) := by
  have C0 := fun (V : World) (h : Raw V A c xs) (g : Raw V B d ys) => ref_fine_any n1 n2 A B c d xs ys V h g
  rw [o1] at C0
  have H0 := Lib.hid C0
  have hlen : ((ys.length : Int) == 0) = true := by subst he; rfl
  have HS := Lib.hid (fun (V : World) (g : Raw V B d ys) => show Calls Tryz.prog 89 #[.agg #[.bool n2, .slice B ys.length d]] V fun e w' => e = .returned (.int .i64 0) ∧ Below V.heap.size V w' from by
    have := ref_Sign_any n2 B d ys V g
    subst he
    exact this)
  clear C0 o1 he
  have px := (((Pair.new w 24 (.bool n1) (.slice A xs.length c)).alloc (.cells #[.bool n2, .slice B ys.length d] 24)).alloc (.cells #[.bool false, .slice none 0 0] 24)).alloc (.cells #[.bool false, .slice none 0 0] 24)
  have py := ((Pair.new (w.alloc (.cells #[.bool n1, .slice A xs.length c] 24)) 24 (.bool n2) (.slice B ys.length d)).alloc (.cells #[.bool false, .slice none 0 0] 24)).alloc (.cells #[.bool false, .slice none 0 0] 24)
  have pq := (Pair.new ((w.alloc (.cells #[.bool n1, .slice A xs.length c] 24)).alloc (.cells #[.bool n2, .slice B ys.length d] 24)) 24 (.bool false) (.slice none 0 0)).alloc (.cells #[.bool false, .slice none 0 0] 24)
  have pr := Pair.new (((w.alloc (.cells #[.bool n1, .slice A xs.length c] 24)).alloc (.cells #[.bool n2, .slice B ys.length d] 24)).alloc (.cells #[.bool false, .slice none 0 0] 24)) 24 (.bool false) (.slice none 0 0)
  have rx := (((h.alloc (.cells #[.bool n1, .slice A xs.length c] 24)).alloc (.cells #[.bool n2, .slice B ys.length d] 24)).alloc (.cells #[.bool false, .slice none 0 0] 24)).alloc (.cells #[.bool false, .slice none 0 0] 24)
  have ry := (((g.alloc (.cells #[.bool n1, .slice A xs.length c] 24)).alloc (.cells #[.bool n2, .slice B ys.length d] 24)).alloc (.cells #[.bool false, .slice none 0 0] 24)).alloc (.cells #[.bool false, .slice none 0 0] 24)
  have b0 := (((Below.refl w.heap.size w).alloc (Nat.le_refl _) (.cells #[.bool n1, .slice A xs.length c] 24)).alloc (by simp) (.cells #[.bool n2, .slice B ys.length d] 24)).alloc (by simp; omega) (.cells #[.bool false, .slice none 0 0] 24)
  have b0 := b0.alloc (by simp; omega) (.cells #[.bool false, .slice none 0 0] 24)
  simp only [World.size_alloc] at py pq pr
  clear h g
  go_enter Tryz.func21, Tryz.ntmps21
  go_wp2_with fail
  obtain ⟨W, E⟩ : ∃ W, W = (((w.alloc (.cells #[.bool n1, .slice A xs.length c] 24)).alloc (.cells #[.bool n2, .slice B ys.length d] 24)).alloc (.cells #[.bool false, .slice none 0 0] 24)).alloc (.cells #[.bool false, .slice none 0 0] 24) := ⟨_, rfl⟩
  rw [← E] at px py pq pr b0 rx ry ⊢
  have hsz : W.heap.size = w.heap.size + 4 := by rw [E]; simp
  clear E
  have PX := Lib.hid px
  have PY := Lib.hid py
  have PQ := Lib.hid pq
  have PR := Lib.hid pr
  have B0 := Lib.hid b0
  have RX := Lib.hid rx
  have RY := Lib.hid ry
  obtain ⟨l1, x0, x1, -, -⟩ := px.facts
  obtain ⟨l2, y0, y1, -, -⟩ := py.facts
  clear px py pq pr rx ry b0
  go_wp2_with (first
    | (go_at_call 33; with_reducible refine (H0.out _ RX.out RY.out).mono ?_; rintro e w1 ⟨rfl, hb⟩; have pq := PQ.out.below hb; have pr := PR.out.below hb; obtain ⟨l1, x0, x1, -, -⟩ := (PX.out.below hb).facts; obtain ⟨l2, y0, y1, -, -⟩ := (PY.out.below hb).facts; obtain ⟨l3, q0, q1, f0, f1⟩ := pq.facts; obtain ⟨l4, r0, r1, g0, g1⟩ := pr.facts)
    | (go_at_call 89; refine (HS.out _ (RY.out.below hb)).mono ?_; rintro e wq ⟨rfl, hbq⟩; have pq := pq.below hbq; have pr := pr.below hbq; have hb := belowTo hb hbq; obtain ⟨l1, x0, x1, -, -⟩ := (PX.out.below hb).facts; obtain ⟨l2, y0, y1, -, -⟩ := (PY.out.below hb).facts; obtain ⟨l3, q0, q1, f0, f1⟩ := pq.facts; obtain ⟨l4, r0, r1, g0, g1⟩ := pr.facts))
  have Q4 := Lib.hid ((pq.store (.bool false) (.slice none 0 0)).far (show w.heap.size + 1 + 1 ≠ w.heap.size + 1 + 1 + 1 by omega) (.bool false) (.slice none 0 0))
  have R4 := Lib.hid ((pr.far (show w.heap.size + 1 + 1 + 1 ≠ w.heap.size + 1 + 1 by omega) (.bool false) (.slice none 0 0)).store (.bool false) (.slice none 0 0))
  have B4 := Lib.hid (below2 (below2 (belowTo B0.out hb) (show w.heap.size ≤ w.heap.size + 1 + 1 by omega) (.bool false) (.slice none 0 0)) (show w.heap.size ≤ w.heap.size + 1 + 1 + 1 by omega) (.bool false) (.slice none 0 0))
  obtain ⟨_, k0, k1, _, _⟩ := Q4.out.facts
  obtain ⟨_, k2, k3, _, _⟩ := R4.out.facts
  exact bodyPost_ret (by simp [results, Tryz.results21, go_sem, k0, k1, k2, k3]) rfl ⟨_, _, rfl, IntOwn.nought _ _, IntOwn.nought _ _, B4.out⟩

theorem ref_QuoRem (n1 n2 : Bool) (A B : Option Addr) (c d : Nat) (xs ys : List Nat) (w : World) (h : Raw w A c xs) (g : Raw w B d ys) :
    Calls Tryz.prog 21 #[.agg #[.bool n1, .slice A xs.length c], .agg #[.bool n2, .slice B ys.length d]] w (RetBoth3 w.heap.size w (quoV n1 xs n2 ys) (remV n1 xs n2 ys) (quoE n1 xs n2 ys)) := by
  unfold quoV remV quoE
  by_cases o : (okI n1 xs && okI n2 ys) = true
  · rw [if_pos o, if_pos o, if_pos o]
    have o' := Bool.and_eq_true_iff.1 o
    by_cases hy : ys.length = 0
    · rw [if_pos hy, if_pos hy, if_pos hy]
      exact ref_QuoRem_nought n1 n2 A B c d xs ys o (List.eq_nil_of_length_eq_zero hy) w h g
    · rw [if_neg hy, if_neg hy, if_neg hy]
      exact ref_QuoRem_ok n1 n2 A B c d xs ys o'.1 o'.2 (fun e => hy (by rw [e]; rfl)) _ _ (Lib.hid rfl) (Lib.hid rfl) w h g
  · rw [if_neg o, if_neg o, if_neg o]
    exact ref_QuoRem_bad n1 n2 A B c d xs ys (by simpa using o) w h g

set_option maxRecDepth 100000 in
set_option maxHeartbeats 2000000 in
theorem ref_GCD_ok (n1 n2 : Bool) (A B : Option Addr) (c d : Nat) (xs ys : List Nat) (o1 : okI n1 xs = true) (o2 : okI n2 ys = true) (z : Int) (HZ : Hid (z = ((Nat.gcd (val xs) (val ys) : Nat) : Int))) (w : World) (h : Raw w A c xs) (g : Raw w B d ys) :
    Calls Tryz.prog 22 #[.agg #[.bool n1, .slice A xs.length c], .agg #[.bool n2, .slice B ys.length d]] w (RetAt2 w z 0) := by
  have hcx := (okI_true.1 o1).2.1
  have hcy := (okI_true.1 o2).2.1
  have hlx := (okI_true.1 o1).1
  have hly := (okI_true.1 o2).1
  have C0 := fun (V : World) (h : Raw V A c xs) (g : Raw V B d ys) => ref_fine_any n1 n2 A B c d xs ys V h g
  rw [o1, o2, Bool.and_self] at C0
  have H0 := Lib.hid C0
  have H1 := Lib.hid (fun (V : World) (h : Raw V A c xs) (g : Raw V B d ys) => show Calls Tryz.prog 91 #[.agg #[.bool n1, .slice A xs.length c], .agg #[.bool n2, .slice B ys.length d]] V (RetOf A B c d xs ys V z) from by rw [HZ.out]; exact ref_Common n1 n2 A B c d xs ys hcx hcy (by omega) (by omega) V h g)
  have HH := Lib.hid (And.intro h g)
  clear C0 o1 o2 hcx hcy hlx hly HZ
  have px := (((Pair.new w 24 (.bool n1) (.slice A xs.length c)).alloc (.cells #[.bool n2, .slice B ys.length d] 24)).alloc (.cells #[.bool false, .slice none 0 0] 24))
  have py := ((Pair.new (w.alloc (.cells #[.bool n1, .slice A xs.length c] 24)) 24 (.bool n2) (.slice B ys.length d)).alloc (.cells #[.bool false, .slice none 0 0] 24))
  have pq := (Pair.new ((w.alloc (.cells #[.bool n1, .slice A xs.length c] 24)).alloc (.cells #[.bool n2, .slice B ys.length d] 24)) 24 (.bool false) (.slice none 0 0))
  have rx := (((h.alloc (.cells #[.bool n1, .slice A xs.length c] 24)).alloc (.cells #[.bool n2, .slice B ys.length d] 24)).alloc (.cells #[.bool false, .slice none 0 0] 24))
  have ry := (((g.alloc (.cells #[.bool n1, .slice A xs.length c] 24)).alloc (.cells #[.bool n2, .slice B ys.length d] 24)).alloc (.cells #[.bool false, .slice none 0 0] 24))
  have b0 := (((Below.refl w.heap.size w).alloc (Nat.le_refl _) (.cells #[.bool n1, .slice A xs.length c] 24)).alloc (by simp) (.cells #[.bool n2, .slice B ys.length d] 24)).alloc (by simp; omega) (.cells #[.bool false, .slice none 0 0] 24)
  simp only [World.size_alloc] at py pq
  clear h g
  go_enter Tryz.func22, Tryz.ntmps22
  go_wp2_with fail
  obtain ⟨W, E⟩ : ∃ W, W = (((w.alloc (.cells #[.bool n1, .slice A xs.length c] 24)).alloc (.cells #[.bool n2, .slice B ys.length d] 24)).alloc (.cells #[.bool false, .slice none 0 0] 24)) := ⟨_, rfl⟩
  rw [← E] at px py pq b0 rx ry ⊢
  have hsz : W.heap.size = w.heap.size + 3 := by rw [E]; simp
  clear E
  have PX := Lib.hid px
  have PY := Lib.hid py
  have PQ := Lib.hid pq
  have B0 := Lib.hid b0
  have RX := Lib.hid rx
  have RY := Lib.hid ry
  obtain ⟨l1, x0, x1, -, -⟩ := px.facts
  obtain ⟨l2, y0, y1, -, -⟩ := py.facts
  clear px py pq rx ry b0
  go_wp2_with (first
    | (go_at_call 33; with_reducible refine (H0.out _ RX.out RY.out).mono ?_; rintro e w1 ⟨rfl, hb⟩; have rx := RX.out.below hb; have ry := RY.out.below hb; obtain ⟨l1, x0, x1, -, -⟩ := (PX.out.below hb).facts; obtain ⟨l2, y0, y1, -, -⟩ := (PY.out.below hb).facts)
    | (go_at_call 91; refine (H1.out _ rx ry).mono ?_; rintro e w2 ⟨v, rfl, hI, hb2⟩; have hsh := of_shape hI; obtain ⟨b1, A1, m1, c1, rfl⟩ := hsh; have pq := (PQ.out.below hb).below hb2; obtain ⟨l3, q0, q1, f0, f1⟩ := pq.facts))
  have hs1 := hb.size
  have hq := pq.store (.bool b1) (.slice A1 m1 c1)
  obtain ⟨_, k0, k1, _, _⟩ := hq.facts
  have hbf := below2 (belowTo (belowTo B0.out hb) hb2) (show w.heap.size ≤ w.heap.size + 1 + 1 by omega) (.bool b1) (.slice A1 m1 c1)
  have hfin : IntAt ((w2.setCell ⟨w.heap.size + 1 + 1, 0, none⟩ (.bool b1)).setCell ⟨w.heap.size + 1 + 1, 1, none⟩ (.slice A1 m1 c1)) (.agg #[.bool b1, .slice A1 m1 c1]) z := by
    rcases hI with hI | ⟨h1, h2⟩ | ⟨h1, h2⟩
    · exact (hI.pair (by omega)).at_
    · rw [h1, h2]; exact IntAt.sv (HH.out.1.below hbf)
    · rw [h1, h2]; exact IntAt.sv (HH.out.2.below hbf)
  exact bodyPost_ret (by simp [results, Tryz.results22, go_sem, k0, k1]) rfl ⟨_, rfl, hfin, hbf⟩

set_option maxRecDepth 100000 in
set_option maxHeartbeats 1000000 in
theorem ref_GCD_bad (n1 n2 : Bool) (A B : Option Addr) (c d : Nat) (xs ys : List Nat) (o : (okI n1 xs && okI n2 ys) = false) (w : World) (h : Raw w A c xs) (g : Raw w B d ys) :
    Calls Tryz.prog 22 #[.agg #[.bool n1, .slice A xs.length c], .agg #[.bool n2, .slice B ys.length d]] w (RetAt2 w 0 1) := by
  have C0 := fun (V : World) (h : Raw V A c xs) (g : Raw V B d ys) => ref_fine_any n1 n2 A B c d xs ys V h g
  rw [o] at C0
  have H0 := Lib.hid C0
  clear C0 o
  have px := (((Pair.new w 24 (.bool n1) (.slice A xs.length c)).alloc (.cells #[.bool n2, .slice B ys.length d] 24)).alloc (.cells #[.bool false, .slice none 0 0] 24))
  have py := ((Pair.new (w.alloc (.cells #[.bool n1, .slice A xs.length c] 24)) 24 (.bool n2) (.slice B ys.length d)).alloc (.cells #[.bool false, .slice none 0 0] 24))
  have pq := (Pair.new ((w.alloc (.cells #[.bool n1, .slice A xs.length c] 24)).alloc (.cells #[.bool n2, .slice B ys.length d] 24)) 24 (.bool false) (.slice none 0 0))
  have rx := (((h.alloc (.cells #[.bool n1, .slice A xs.length c] 24)).alloc (.cells #[.bool n2, .slice B ys.length d] 24)).alloc (.cells #[.bool false, .slice none 0 0] 24))
  have ry := (((g.alloc (.cells #[.bool n1, .slice A xs.length c] 24)).alloc (.cells #[.bool n2, .slice B ys.length d] 24)).alloc (.cells #[.bool false, .slice none 0 0] 24))
  have b0 := (((Below.refl w.heap.size w).alloc (Nat.le_refl _) (.cells #[.bool n1, .slice A xs.length c] 24)).alloc (by simp) (.cells #[.bool n2, .slice B ys.length d] 24)).alloc (by simp; omega) (.cells #[.bool false, .slice none 0 0] 24)
  simp only [World.size_alloc] at py pq
  clear h g
  go_enter Tryz.func22, Tryz.ntmps22
  go_wp2_with fail
  obtain ⟨W, E⟩ : ∃ W, W = (((w.alloc (.cells #[.bool n1, .slice A xs.length c] 24)).alloc (.cells #[.bool n2, .slice B ys.length d] 24)).alloc (.cells #[.bool false, .slice none 0 0] 24)) := ⟨_, rfl⟩
  rw [← E] at px py pq b0 rx ry ⊢
  have hsz : W.heap.size = w.heap.size + 3 := by rw [E]; simp
  clear E
  have PX := Lib.hid px
  have PY := Lib.hid py
  have PQ := Lib.hid pq
  have B0 := Lib.hid b0
  have RX := Lib.hid rx
  have RY := Lib.hid ry
  obtain ⟨l1, x0, x1, -, -⟩ := px.facts
  obtain ⟨l2, y0, y1, -, -⟩ := py.facts
  clear px py pq rx ry b0
  go_wp2_with (first | (go_at_call 33; with_reducible refine (H0.out _ RX.out RY.out).mono ?_; rintro e w1 ⟨rfl, hb⟩; have pq := PQ.out.below hb; obtain ⟨l3, z0, z1, f0, f1⟩ := pq.facts))
  have hq := pq.store (.bool false) (.slice none 0 0)
  obtain ⟨_, k0, k1, _, _⟩ := hq.facts
  exact bodyPost_ret (by simp [results, Tryz.results22, go_sem, k0, k1]) rfl ⟨_, rfl, IntAt.nought _, below2 (belowTo B0.out hb) (by omega) _ _⟩

theorem ref_GCD (n1 n2 : Bool) (A B : Option Addr) (c d : Nat) (xs ys : List Nat) (w : World) (h : Raw w A c xs) (g : Raw w B d ys) :
    Calls Tryz.prog 22 #[.agg #[.bool n1, .slice A xs.length c], .agg #[.bool n2, .slice B ys.length d]] w (RetAt2 w (gcdV n1 xs n2 ys) (gcdE n1 xs n2 ys)) := by
  unfold gcdV gcdE
  by_cases o : (okI n1 xs && okI n2 ys) = true
  · rw [if_pos o, if_pos o]
    have o' := Bool.and_eq_true_iff.1 o
    exact ref_GCD_ok n1 n2 A B c d xs ys o'.1 o'.2 _ (Lib.hid rfl) w h g
  · rw [if_neg o, if_neg o]
    exact ref_GCD_bad n1 n2 A B c d xs ys (by simpa using o) w h g
end Go.Proofs.YtpcdiijmhllejaaGreatDoor

/- WholeParts: the walk. (Written by wip/whole/genparts.py.) -/
namespace Go.Proofs.YtpcdiijmhllejaaGreatDoor
open Go.RowKit

theorem int_agg {b b' : Bool} {A A' : Option Addr} {n n' c c' : Nat} (h : Value.agg #[.bool b, .slice A n c] = .agg #[.bool b', .slice A' n' c']) : (Value.slice A n c) = .slice A' n' c' := by
  simp only [Value.agg.injEq] at h
  have := congrArg (fun a : Array Value => a[1]?) h
  simpa using this
/-- A variable that holds a number of the call's own: its block, its limbs from lo on and below hi. -/
structure VarOwn (w : World) (g : Nat) (b : Bool) (A : Option Addr) (n c lo hi : Nat) (r : Int) : Prop where
  pair : Pair w g 24 (.bool b) (.slice A n c)
  own : IntOwn w lo (.agg #[.bool b, .slice A n c]) r
  top : ∀ x, (Value.slice A n c).ownBlock = some x → x < hi
theorem VarOwn.below {w w' : World} {g n c lo hi : Nat} {b : Bool} {A : Option Addr} {r : Int} (h : VarOwn w g b A n c lo hi r) (hb : Below w.heap.size w w') : VarOwn w' g b A n c lo hi r := ⟨h.pair.below hb, h.own.below hb, h.top⟩
theorem VarOwn.of {w w' : World} {g n c lo : Nat} {b : Bool} {A : Option Addr} {r : Int} (h : IntOwn w lo (.agg #[.bool b, .slice A n c]) r) (hb : Below w.heap.size w w') (p : Pair w' g 24 (.bool b) (.slice A n c)) : VarOwn w' g b A n c lo w.heap.size r := by
  refine ⟨p, h.below hb, fun x hx => ?_⟩
  obtain ⟨A', c', h1, h2, h3, h4⟩ := h.form
  rw [int_agg h1] at hx
  exact (h4.lt x hx).2
theorem VarOwn.row {w : World} {g n c lo hi : Nat} {b : Bool} {A : Option Addr} {r : Int} (h : VarOwn w g b A n c lo hi r) (hn : n ≤ 1073741824) : ∃ k X, k ≤ 1073741824 ∧ w.ownsRow lo tLimb 1 (.slice A n c) k X := by
  obtain ⟨A', c', h1, h2, h3, h4⟩ := h.own.form
  have e := int_agg h1
  rw [e]
  injection e with e1 e2 e3
  exact ⟨_, _, by omega, h4⟩
theorem TwinAt.row_ {w : World} {g lo : Nat} {xs : List Nat} (h : TwinAt w g xs) (hlo : lo ≤ g) (hl : xs.length ≤ 1048576) : w.ownsRow lo tLimb 1 (.slice (some ⟨g, 0, none⟩) xs.length (xs.length + 1)) xs.length (cellsU xs) := by
  refine ⟨by rw [cellsU_length, Nat.mul_one], .inr ⟨g, xs.length + 1, _, rfl, hlo, h.blk, Nat.le_succ _, by unfold maxLen; omega, by simp [cellsU], ?_⟩⟩
  simp [cellsU]
/-- A variable that holds a number, wherever its limbs lie. -/
structure VarAt (w : World) (g : Nat) (b : Bool) (A : Option Addr) (n c : Nat) (r : Int) : Prop where
  pair : Pair w g 24 (.bool b) (.slice A n c)
  at_ : IntAt w (.agg #[.bool b, .slice A n c]) r
theorem VarAt.below {w w' : World} {g n c : Nat} {b : Bool} {A : Option Addr} {r : Int} (h : VarAt w g b A n c r) (hb : Below w.heap.size w w') : VarAt w' g b A n c r := ⟨h.pair.below hb, h.at_.below hb⟩
theorem same_true (v1 v2 : Value) (r : Int) (w : World) (h : IntAt w v1 r) (g : IntAt w v2 r) :
    Calls Tryz.prog 23 #[v1, v2] w fun e w' => e = .returned (.bool true) ∧ Below w.heap.size w w' := by
  obtain ⟨A, c, rfl, h1⟩ := h.form
  obtain ⟨B, d, rfl, g1⟩ := g.form
  have := same_any (decide (r < 0)) (decide (r < 0)) A B c d _ _ w h1 g1
  simpa using this
theorem tdiv_short (x y : Int) : (natL (x.tdiv y).natAbs).length ≤ (natL x.natAbs).length := by
  refine natL_mono ?_
  rw [Int.natAbs_tdiv]
  exact Nat.div_le_self _ _
theorem tmod_short (x y : Int) : (natL (x.tmod y).natAbs).length ≤ (natL x.natAbs).length := by
  refine natL_mono ?_
  rw [Int.natAbs_tmod]
  exact Nat.mod_le _ _
theorem ival_abs (n : Bool) (xs : List Nat) : (ival n xs).natAbs = val xs := by unfold ival; split <;> omega
theorem ok_short {n : Bool} {xs : List Nat} (hl : Limbs xs) (o : okI n xs = true) : (natL (ival n xs).natAbs).length ≤ 2048 := by
  rw [ival_abs]
  exact Nat.le_trans (natL_val_le hl) (okI_true.1 o).1
theorem quo_short {n1 n2 : Bool} {xs ys : List Nat} (hl : Limbs xs) : (natL (quoV n1 xs n2 ys).natAbs).length ≤ 2048 := by
  unfold quoV
  split
  · rename_i o
    split
    · decide
    · exact Nat.le_trans (tdiv_short _ _) (ok_short hl (Bool.and_eq_true_iff.1 o).1)
  · decide
theorem rem_short {n1 n2 : Bool} {xs ys : List Nat} (hl : Limbs xs) : (natL (remV n1 xs n2 ys).natAbs).length ≤ 2048 := by
  unfold remV
  split
  · rename_i o
    split
    · decide
    · exact Nat.le_trans (tmod_short _ _) (ok_short hl (Bool.and_eq_true_iff.1 o).1)
  · decide
theorem gcd_short {n1 n2 : Bool} {xs ys : List Nat} (hl : Limbs xs) (hr : Limbs ys) : (natL (gcdV n1 xs n2 ys).natAbs).length ≤ 2048 := by
  unfold gcdV
  split
  · rename_i o
    have o' := Bool.and_eq_true_iff.1 o
    rw [Int.natAbs_natCast]
    rcases Nat.eq_zero_or_pos (val xs) with h0 | h0
    · rw [h0, Nat.gcd_zero_left]
      exact Nat.le_trans (natL_val_le hr) (okI_true.1 o'.2).1
    · exact Nat.le_trans (natL_mono (Nat.gcd_le_left _ h0)) (Nat.le_trans (natL_val_le hl) (okI_true.1 o'.1).1)
  · decide

set_option maxRecDepth 100000 in
set_option maxHeartbeats 4000000 in
theorem parts_true (n1 n2 : Bool) (A B : Option Addr) (c d : Nat) (xs ys : List Nat) (w : World) (h : Raw w A c xs) (g : Raw w B d ys) (hx : xs.length ≤ 1152921504606846975) (hy : ys.length ≤ 1152921504606846975) :
    Calls Tryz.prog 4 #[.agg #[.bool n1, .slice A xs.length c], .agg #[.bool n2, .slice B ys.length d]] w fun e w' => e = .returned (.bool true) ∧ Below w.heap.size w w' := by
  have px := (Pair.new w 24 (.bool n1) (.slice A xs.length c)).alloc (.cells #[.bool n2, .slice B ys.length d] 24)
  have py := Pair.new (w.alloc (.cells #[.bool n1, .slice A xs.length c] 24)) 24 (.bool n2) (.slice B ys.length d)
  have rx := (h.alloc (.cells #[.bool n1, .slice A xs.length c] 24)).alloc (.cells #[.bool n2, .slice B ys.length d] 24)
  have ry := (g.alloc (.cells #[.bool n1, .slice A xs.length c] 24)).alloc (.cells #[.bool n2, .slice B ys.length d] 24)
  have b0 := ((Below.refl w.heap.size w).alloc (Nat.le_refl _) (.cells #[.bool n1, .slice A xs.length c] 24)).alloc (by simp) (.cells #[.bool n2, .slice B ys.length d] 24)
  have D1 := fun V => intSize_any n1 A c xs.length hx V
  have D2 := fun V => intSize_any n2 B d ys.length hy V
  have D3 := fun V => beyond_new xs.length ys.length hx hy 3 V
  have H1 := Lib.hid D1
  have H2 := Lib.hid D2
  have H3 := Lib.hid D3
  have RX := Lib.hid rx
  have RY := Lib.hid ry
  clear D1 D2 D3 h g rx ry
  go_enter Tryz.func4, Tryz.ntmps4
  go_wp2_with fail
  rw [show (w.alloc (.cells #[.bool n1, .slice A xs.length c] 24)).heap.size = w.heap.size + 1 by simp] at py
  obtain ⟨W, E⟩ : ∃ W, W = (w.alloc (.cells #[.bool n1, .slice A xs.length c] 24)).alloc (.cells #[.bool n2, .slice B ys.length d] 24) := ⟨_, rfl⟩
  rw [← E] at px py b0 RX RY ⊢
  clear E
  obtain ⟨l1, x0, x1, -, -⟩ := px.facts
  obtain ⟨l2, y0, y1, -, -⟩ := py.facts
  have PX := Lib.hid px
  have PY := Lib.hid py
  clear px py
  by_cases hb : 1048576 < 2 + xs.length + ys.length
  · have HB := Lib.hid (decide_eq_true hb)
    clear hb
    go_region_held3 (fun w' => Below W.heap.size W w' ∧ ∀ b o, b < W.heap.size → w'.cell? ⟨b, o, none⟩ = W.cell? ⟨b, o, none⟩)
      (first
        | exact ⟨(Below.refl _ _).drew, fun _ _ _ => rfl⟩
        | (obtain ⟨q, _⟩ := ‹Below W.heap.size W _ ∧ _›; have q' := belowTo q hbx; exact ⟨q', fun b o h => q'.cell (p := ⟨b, o, none⟩) h⟩)
        | (obtain ⟨q, _⟩ := ‹Below W.heap.size W _ ∧ _›; refine have q' := q.alloc q.size _; ⟨q', fun b o h => q'.cell (p := ⟨b, o, none⟩) h⟩))
      (first
        | (go_at_call 7; with_reducible refine (H1.out _).mono ?_; rintro e wx ⟨rfl, hbx⟩)
        | (go_at_call 7; with_reducible refine (H2.out _).mono ?_; rintro e wx ⟨rfl, hbx⟩)
        | (go_at_call 6; with_reducible refine (H3.out _).mono ?_; rintro e wx ⟨rfl, hbx⟩; rw [HB.out]))
    obtain ⟨q, _⟩ := ‹Below W.heap.size W _ ∧ _›
    go_wp2_with fail
    go_ret
    exact ⟨rfl, b0.trans (q.mono b0.size)⟩
  · have HB := Lib.hid (decide_eq_false hb)
    clear l1 x0 x1 l2 y0 y1
    obtain ⟨l1, x0, x1, -, -⟩ := PX.out.facts
    obtain ⟨l2, y0, y1, -, -⟩ := PY.out.facts
    go_region_held3 (fun w' => Below W.heap.size W w' ∧ ∀ b o, b < W.heap.size → w'.cell? ⟨b, o, none⟩ = W.cell? ⟨b, o, none⟩)
      (first
        | exact ⟨(Below.refl _ _).drew, fun _ _ _ => rfl⟩
        | (obtain ⟨q, _⟩ := ‹Below W.heap.size W _ ∧ _›; have q' := belowTo q hbx; exact ⟨q', fun b o h => q'.cell (p := ⟨b, o, none⟩) h⟩)
        | (obtain ⟨q, _⟩ := ‹Below W.heap.size W _ ∧ _›; refine have q' := q.alloc q.size _; ⟨q', fun b o h => q'.cell (p := ⟨b, o, none⟩) h⟩))
      (first
        | (go_at_call 7; with_reducible refine (H1.out _).mono ?_; rintro e wx ⟨rfl, hbx⟩)
        | (go_at_call 7; with_reducible refine (H2.out _).mono ?_; rintro e wx ⟨rfl, hbx⟩)
        | (go_at_call 6; with_reducible refine (H3.out _).mono ?_; rintro e wx ⟨rfl, hbx⟩; rw [HB.out]))
    obtain ⟨q, qc⟩ := ‹Below W.heap.size W _ ∧ _›
    clear H1 H2 H3 HB x0 x1 l1 y0 y1 l2
    have B0 := b0.trans (q.mono b0.size)
    have RX1 := Lib.hid (RX.out.below q)
    have RY1 := Lib.hid (RY.out.below q)
    have PX1 := Lib.hid (PX.out.below q)
    have PY1 := Lib.hid (PY.out.below q)
    clear RX RY PX PY qc b0 q
    have D4 := fun (V : World) (hV : Below wx.heap.size wx V) => twin_any n1 A c xs V (RX1.out.below hV) (by omega)
    have D5 := fun (V : World) (hV : Below wx.heap.size wx V) => twin_any n2 B d ys V (RY1.out.below hV) (by omega)
    have H4 := Lib.hid D4
    have H5 := Lib.hid D5
    have hlim : xs.length ≤ 1048576 ∧ ys.length ≤ 1048576 := by omega
    have HL := Lib.hid hlim
    clear hb hlim D4 D5
    go_upto_region 3 with fail
    go_cut [5, 6] (fun s5 s6 wz => ∃ g1 g2 b1 b2 : Nat, s5 = .pointer (some ⟨b1, 0, none⟩) ∧ s6 = .pointer (some ⟨b2, 0, none⟩) ∧ Below wx.heap.size wx wz ∧ (wx.heap.size ≤ g1 ∧ g1 < g2) ∧ TwinAt wz g1 xs ∧ TwinAt wz g2 ys ∧
      Pair wz b1 24 (.bool n1) (.slice (some ⟨g1, 0, none⟩) xs.length (xs.length + 1)) ∧ Pair wz b2 24 (.bool n2) (.slice (some ⟨g2, 0, none⟩) ys.length (ys.length + 1)))
    case first =>
      have qq : Below wx.heap.size wx wx := Below.refl _ _
      obtain ⟨l1, x0, x1, -, -⟩ := PX1.out.facts
      obtain ⟨l2, y0, y1, -, -⟩ := PY1.out.facts
      go_region_held3 (fun w' => Below wx.heap.size wx w' ∧ ∀ b o, b < wx.heap.size → w'.cell? ⟨b, o, none⟩ = wx.cell? ⟨b, o, none⟩)
        (((with_reducible refine keep_of ?_); (repeat' (with_reducible first | exact qb | exact qa | exact qq | refine Below.drew ?_ | refine below_one ?_ _ | refine below2 ?_ ?_ _ _ | exact Nat.le_refl _ | omega | (have := qb.size; omega) | (have := qa.size; omega) | (have := qb.size; simp; omega) | (have := qa.size; simp; omega)))))
        (first
        | (go_at_call 8
           with_reducible refine (H4.out _ ?_).mono ?_
           with_reducible first | exact qq.drew | exact (below_one qq _).drew | exact (below_two qq _ _).drew
           rintro e wa ⟨g1, rfl, t1, m1, hba⟩
           have qa : Below wx.heap.size wx wa := by with_reducible first | exact belowTo qq.drew hba | exact belowTo (below_one qq _).drew hba | exact belowTo (below_two qq _ _).drew hba
           try (have na := (by with_reducible exact ((Pair.new _ 24 (.bool false) (.slice none 0 0)).drew).below hba); (try simp at na); obtain ⟨na1, na2, na3, na4, na5⟩ := na.facts)
           try (have nb := (by with_reducible exact (((Pair.new _ 24 (.bool false) (.slice none 0 0)).alloc _).drew).below hba); (try simp at nb); obtain ⟨nb1, nb2, nb3, nb4, nb5⟩ := nb.facts)
           obtain ⟨k1, k2, k3, -, -⟩ := (PY1.out.below qa).facts
           have k0 : w.heap.size < wa.heap.size := by omega
           clear l1 x0 x1 l2 y0 y1)
        | (go_at_call 8
           with_reducible refine (H5.out _ ?_).mono ?_
           with_reducible first | exact qa | exact below_one qa _ | exact below_two qa _ _
           rintro e wb ⟨g2, rfl, t2, m2, hbb⟩
           have qb : Below wx.heap.size wx wb := by with_reducible first | exact belowTo qa hbb | exact belowTo (below_one qa _) hbb | exact belowTo (below_two qa _ _) hbb
           have t1b : TwinAt wb g1 xs := by with_reducible first | exact t1.below hbb | exact (t1.alloc _).below hbb | exact ((t1.alloc _).alloc _).below hbb
           try (have nc := (by with_reducible exact (Pair.new _ 24 (.bool false) (.slice none 0 0)).below hbb); (try simp at nc); obtain ⟨nc1, nc2, nc3, nc4, nc5⟩ := nc.facts)
           try (have nd := (by with_reducible exact ((Pair.new _ 24 (.bool false) (.slice none 0 0)).alloc _).below hbb); (try simp at nd); obtain ⟨nd1, nd2, nd3, nd4, nd5⟩ := nd.facts)
           try (have ne := (show Pair wb _ _ _ _ by with_reducible first | exact na.below hbb | exact (na.alloc _).below hbb); (try simp at ne); obtain ⟨ne1, ne2, ne3, ne4, ne5⟩ := ne.facts)
           try (have nf := (by with_reducible exact nb.below hbb); (try simp at nf); obtain ⟨nf1, nf2, nf3, nf4, nf5⟩ := nf.facts)))
      all_goals (go_wp2_with fail; go_meet)
      all_goals
        have e1 := t1.blk.lt
        have e2 := t2.blk.lt
        (try simp at m1)
        (try simp at m2)
        refine ⟨g1, g2, _, _, rfl, rfl, ?_, by have := t1.blk.lt; have := qa.size; omega, ?_, ?_, ?_, ?_⟩
        · repeat' (with_reducible first | exact qb | refine below_one ?_ _ | refine below2 ?_ ?_ _ _ | exact Nat.le_refl _ | omega | (have := qb.size; omega) | (have := qa.size; omega))
        · repeat' (with_reducible first | exact t1b | refine TwinAt.alloc ?_ _ | refine TwinAt.far2 ?_ ?_ _ _ | omega)
        · repeat' (with_reducible first | exact t2 | refine TwinAt.alloc ?_ _ | refine TwinAt.far2 ?_ ?_ _ _ | omega)
        · repeat' (with_reducible first | exact Pair.new' (by simp) _ _ _ | exact Pair.store (by assumption) _ _ | exact Pair.store (Pair.far (by assumption) (by omega) _ _) _ _ | refine Pair.alloc ?_ _ | refine Pair.far ?_ ?_ _ _ | omega)
        · repeat' (with_reducible first | exact Pair.new' (by simp) _ _ _ | exact Pair.store (by assumption) _ _ | exact Pair.store (Pair.far (by assumption) (by omega) _ _) _ _ | refine Pair.alloc ?_ _ | refine Pair.far ?_ ?_ _ _ | omega)
    case rest =>
      obtain ⟨g1, g2, b1, b2, rfl, rfl, qz, hg12, t1, t2, p1, p2⟩ := hcut
      have B1 := Lib.hid (B0.trans (qz.mono B0.size))
      have rx := RX1.out.below qz
      have ry := RY1.out.below qz
      have px := PX1.out.below qz
      have py := PY1.out.below qz
      have hbase := B0.size
      have hqz := qz.size
      have ra := t1.raw rx.limbs (by omega)
      have rb := t2.raw ry.limbs (by omega)
      have PX := Lib.hid px
      have PY := Lib.hid py
      have P1 := Lib.hid p1
      have P2 := Lib.hid p2
      have T1 := Lib.hid t1
      have T2 := Lib.hid t2
      have HLX := Lib.hid (fun (V : World) (hV : Below wc.heap.size wc V) => left_any n1 A c g1 xs V (rx.below hV) (t1.below hV) HL.out.1)
      have HLY := Lib.hid (fun (V : World) (hV : Below wc.heap.size wc V) => left_any n2 B d g2 ys V (ry.below hV) (t2.below hV) HL.out.2)
      have HS := Lib.hid (show (natL (quoV n1 xs n2 ys).natAbs).length ≤ 2048 ∧ (natL (remV n1 xs n2 ys).natAbs).length ≤ 2048 ∧ (natL (gcdV n1 xs n2 ys).natAbs).length ≤ 2048 from ⟨quo_short rx.limbs, rem_short rx.limbs, gcd_short rx.limbs ry.limbs⟩)
      have C0 := fun (V : World) (hV : Below wc.heap.size wc V) => whole_QuoRem n1 n2 (some ⟨g1, 0, none⟩) (some ⟨g2, 0, none⟩) (xs.length + 1) (ys.length + 1) xs ys V (ra.below hV) (rb.below hV)
      have C1 := fun (V : World) (hV : Below wc.heap.size wc V) => whole_GCD n1 n2 (some ⟨g1, 0, none⟩) (some ⟨g2, 0, none⟩) (xs.length + 1) (ys.length + 1) xs ys V (ra.below hV) (rb.below hV)
      have C2 := fun (V : World) (hV : Below wc.heap.size wc V) => ref_QuoRem n1 n2 A B c d xs ys V (rx.below hV) (ry.below hV)
      have C3 := fun (V : World) (hV : Below wc.heap.size wc V) => ref_GCD n1 n2 A B c d xs ys V (rx.below hV) (ry.below hV)
      clear H4 H5
      generalize quoV n1 xs n2 ys = r0 at C0 C2 HS
      generalize remV n1 xs n2 ys = r1 at C0 C2 HS
      generalize quoE n1 xs n2 ys = k0 at C0 C2
      generalize gcdV n1 xs n2 ys = r2 at C1 C3 HS
      generalize gcdE n1 xs n2 ys = k1 at C1 C3
      have H0 := Lib.hid C0
      have H1 := Lib.hid C1
      have H2 := Lib.hid C2
      have H3 := Lib.hid C3
      clear C0 C1 C2 C3 rx ry px py p1 p2 t1 t2 ra rb RX1 RY1 PX1 PY1 qz
      have hV0 := Lib.hid (Below.refl wc.heap.size wc)
      obtain ⟨u1, u2, u3, -, -⟩ := (P1.out.below hV0.out).facts
      obtain ⟨v1, v2, v3, -, -⟩ := (P2.out.below hV0.out).facts
      go_wp2_with fail
      refine (H0.out _ hV0.out).mono ?_
      rintro e x0 ⟨va, vb, rfl, hI, hb⟩
      obtain ⟨A0, c0, rfl, -⟩ := hI.one.value
      obtain ⟨A1, c1, rfl, -⟩ := hI.two.value
      have I0 := hI.one
      have I1 := hI.two
      have HAP := Lib.hid hI.apart
      have hV1 := Lib.hid (((belowTo hV0.out hb).alloc (Nat.le_trans hV0.out.size hb.size) (.cells #[.bool (decide (r0 < 0)), .slice A0 (natL r0.natAbs).length c0] 24)).alloc (by have := hb.size; have := hV0.out.size; simp; omega) (.cells #[.bool (decide (r1 < 0)), .slice A1 (natL r1.natAbs).length c1] 24))
      have hst0 := Lib.hid ((hb.alloc hb.size (.cells #[.bool (decide (r0 < 0)), .slice A0 (natL r0.natAbs).length c0] 24)).alloc (by have := hb.size; simp; omega) (.cells #[.bool (decide (r1 < 0)), .slice A1 (natL r1.natAbs).length c1] 24))
      have ha0 := (((Below.refl x0.heap.size x0).alloc (Nat.le_refl _) (.cells #[.bool (decide (r0 < 0)), .slice A0 (natL r0.natAbs).length c0] 24)).alloc (by simp) (.cells #[.bool (decide (r1 < 0)), .slice A1 (natL r1.natAbs).length c1] 24))
      have hsz0 := hV0.out.size
      have hup0 := hb.size
      have p0 := (Pair.new x0 24 (.bool (decide (r0 < 0))) (.slice A0 (natL r0.natAbs).length c0)).alloc (.cells #[.bool (decide (r1 < 0)), .slice A1 (natL r1.natAbs).length c1] 24)
      have p1 := Pair.new (x0.alloc (.cells #[.bool (decide (r0 < 0)), .slice A0 (natL r0.natAbs).length c0] 24)) 24 (.bool (decide (r1 < 0))) (.slice A1 (natL r1.natAbs).length c1)
      simp only [World.size_alloc] at p1
      clear u1 u2 u3 v1 v2 v3 hb H0
      go_upto_region 5 with fail
      obtain ⟨y1, E⟩ : ∃ W, W = (x0.alloc (.cells #[.bool (decide (r0 < 0)), .slice A0 (natL r0.natAbs).length c0] 24)).alloc (.cells #[.bool (decide (r1 < 0)), .slice A1 (natL r1.natAbs).length c1] 24) := ⟨_, rfl⟩
      have hyz1 : y1.heap.size = x0.heap.size + 2 := by rw [E]; simp
      rw [← E] at ha0 hV1 hst0 p0 p1 ⊢
      have N0 := Lib.hid (VarOwn.of I0 ha0 p0)
      have N1 := Lib.hid (VarOwn.of I1 ha0 p1)
      obtain ⟨q0, hq0⟩ : ∃ q, q = x0.heap.size := ⟨_, rfl⟩
      rw [← hq0] at N0 N1 hyz1 hup0 ⊢
      clear E ha0 hq0 p0 I0 p1 I1 hI
      obtain ⟨u1, u2, u3, -, -⟩ := (P1.out.below hV1.out).facts
      obtain ⟨v1, v2, v3, -, -⟩ := (P2.out.below hV1.out).facts
      go_wp2_with fail
      refine (H1.out _ hV1.out).mono ?_
      rintro e x1 ⟨va, rfl, hI, hb⟩
      obtain ⟨A2, c2, rfl, -⟩ := hI.value
      have I2 := hI
      have hV2 := Lib.hid ((belowTo hV1.out hb).alloc (Nat.le_trans hV1.out.size hb.size) (.cells #[.bool (decide (r2 < 0)), .slice A2 (natL r2.natAbs).length c2] 24))
      have hst1 := Lib.hid (hb.alloc hb.size (.cells #[.bool (decide (r2 < 0)), .slice A2 (natL r2.natAbs).length c2] 24))
      have ha0 := ((Below.refl x1.heap.size x1).alloc (Nat.le_refl _) (.cells #[.bool (decide (r2 < 0)), .slice A2 (natL r2.natAbs).length c2] 24))
      have hsz1 := hV1.out.size
      have hup1 := hb.size
      have p2 := Pair.new x1 24 (.bool (decide (r2 < 0))) (.slice A2 (natL r2.natAbs).length c2)
      clear u1 u2 u3 v1 v2 v3 hb H1
      go_upto_region 6 with fail
      obtain ⟨y2, E⟩ : ∃ W, W = x1.alloc (.cells #[.bool (decide (r2 < 0)), .slice A2 (natL r2.natAbs).length c2] 24) := ⟨_, rfl⟩
      have hyz2 : y2.heap.size = x1.heap.size + 1 := by rw [E]; simp
      rw [← E] at ha0 hV2 hst1 p2 ⊢
      have N2 := Lib.hid (VarOwn.of I2 ha0 p2)
      obtain ⟨q1, hq1⟩ : ∃ q, q = x1.heap.size := ⟨_, rfl⟩
      rw [← hq1] at N2 hyz2 hup1 ⊢
      clear E ha0 hq1 p2 I2 hI
      have N0 := Lib.hid (N0.out.below hst1.out)
      have N1 := Lib.hid (N1.out.below hst1.out)
      obtain ⟨u1, u2, u3, -, -⟩ := (PX.out.below hV2.out).facts
      obtain ⟨v1, v2, v3, -, -⟩ := (PY.out.below hV2.out).facts
      go_wp2_with fail
      refine (H2.out _ hV2.out).mono ?_
      rintro e x2 ⟨va, vb, rfl, hI3, hI4, hb⟩
      obtain ⟨A3, c3, rfl, -⟩ := hI3.value
      obtain ⟨A4, c4, rfl, -⟩ := hI4.value
      have I3 := hI3.at_
      have I4 := hI4.at_
      have hV3 := Lib.hid (((belowTo hV2.out hb).alloc (Nat.le_trans hV2.out.size hb.size) (.cells #[.bool (decide (r0 < 0)), .slice A3 (natL r0.natAbs).length c3] 24)).alloc (by have := hb.size; have := hV2.out.size; simp; omega) (.cells #[.bool (decide (r1 < 0)), .slice A4 (natL r1.natAbs).length c4] 24))
      have hst2 := Lib.hid ((hb.alloc hb.size (.cells #[.bool (decide (r0 < 0)), .slice A3 (natL r0.natAbs).length c3] 24)).alloc (by have := hb.size; simp; omega) (.cells #[.bool (decide (r1 < 0)), .slice A4 (natL r1.natAbs).length c4] 24))
      have ha0 := (((Below.refl x2.heap.size x2).alloc (Nat.le_refl _) (.cells #[.bool (decide (r0 < 0)), .slice A3 (natL r0.natAbs).length c3] 24)).alloc (by simp) (.cells #[.bool (decide (r1 < 0)), .slice A4 (natL r1.natAbs).length c4] 24))
      have hsz2 := hV2.out.size
      have hup2 := hb.size
      have p3 := (Pair.new x2 24 (.bool (decide (r0 < 0))) (.slice A3 (natL r0.natAbs).length c3)).alloc (.cells #[.bool (decide (r1 < 0)), .slice A4 (natL r1.natAbs).length c4] 24)
      have p4 := Pair.new (x2.alloc (.cells #[.bool (decide (r0 < 0)), .slice A3 (natL r0.natAbs).length c3] 24)) 24 (.bool (decide (r1 < 0))) (.slice A4 (natL r1.natAbs).length c4)
      simp only [World.size_alloc] at p4
      clear u1 u2 u3 v1 v2 v3 hb H2
      go_upto_region 7 with fail
      obtain ⟨y3, E⟩ : ∃ W, W = (x2.alloc (.cells #[.bool (decide (r0 < 0)), .slice A3 (natL r0.natAbs).length c3] 24)).alloc (.cells #[.bool (decide (r1 < 0)), .slice A4 (natL r1.natAbs).length c4] 24) := ⟨_, rfl⟩
      have hyz3 : y3.heap.size = x2.heap.size + 2 := by rw [E]; simp
      rw [← E] at ha0 hV3 hst2 p3 p4 ⊢
      have N3 := Lib.hid (VarAt.mk p3 (I3.below ha0))
      have N4 := Lib.hid (VarAt.mk p4 (I4.below ha0))
      obtain ⟨q2, hq2⟩ : ∃ q, q = x2.heap.size := ⟨_, rfl⟩
      rw [← hq2] at N3 N4 hyz3 hup2 ⊢
      clear E ha0 hq2 p3 I3 p4 I4 hI3 hI4
      have N0 := Lib.hid (N0.out.below hst2.out)
      have N1 := Lib.hid (N1.out.below hst2.out)
      have N2 := Lib.hid (N2.out.below hst2.out)
      obtain ⟨u1, u2, u3, -, -⟩ := (PX.out.below hV3.out).facts
      obtain ⟨v1, v2, v3, -, -⟩ := (PY.out.below hV3.out).facts
      go_wp2_with fail
      refine (H3.out _ hV3.out).mono ?_
      rintro e x3 ⟨va, rfl, hI, hb⟩
      obtain ⟨A5, c5, rfl, -⟩ := hI.form
      have I5 := hI
      have hV4 := Lib.hid ((belowTo hV3.out hb).alloc (Nat.le_trans hV3.out.size hb.size) (.cells #[.bool (decide (r2 < 0)), .slice A5 (natL r2.natAbs).length c5] 24))
      have hst3 := Lib.hid (hb.alloc hb.size (.cells #[.bool (decide (r2 < 0)), .slice A5 (natL r2.natAbs).length c5] 24))
      have ha0 := ((Below.refl x3.heap.size x3).alloc (Nat.le_refl _) (.cells #[.bool (decide (r2 < 0)), .slice A5 (natL r2.natAbs).length c5] 24))
      have hsz3 := hV3.out.size
      have hup3 := hb.size
      have p5 := Pair.new x3 24 (.bool (decide (r2 < 0))) (.slice A5 (natL r2.natAbs).length c5)
      clear u1 u2 u3 v1 v2 v3 hb H3
      go_upto_region 8 with fail
      obtain ⟨y4, E⟩ : ∃ W, W = x3.alloc (.cells #[.bool (decide (r2 < 0)), .slice A5 (natL r2.natAbs).length c5] 24) := ⟨_, rfl⟩
      have hyz4 : y4.heap.size = x3.heap.size + 1 := by rw [E]; simp
      rw [← E] at ha0 hV4 hst3 p5 ⊢
      have N5 := Lib.hid (VarAt.mk p5 (I5.below ha0))
      obtain ⟨q3, hq3⟩ : ∃ q, q = x3.heap.size := ⟨_, rfl⟩
      rw [← hq3] at N5 hyz4 hup3 ⊢
      clear E ha0 hq3 p5 I5 hI
      have N0 := Lib.hid (N0.out.below hst3.out)
      have N1 := Lib.hid (N1.out.below hst3.out)
      have N2 := Lib.hid (N2.out.below hst3.out)
      have N3 := Lib.hid (N3.out.below hst3.out)
      have N4 := Lib.hid (N4.out.below hst3.out)
      have HA0 := Lib.hid (fun (V : World) (hV : Below y4.heap.size y4 V) => answered_true _ _ r0 k0 V (N0.out.own.at_.below hV) (N3.out.at_.below hV))
      have HA1 := Lib.hid (fun (V : World) (hV : Below y4.heap.size y4 V) => same_true _ _ r1 V (N1.out.own.at_.below hV) (N4.out.at_.below hV))
      have HA2 := Lib.hid (fun (V : World) (hV : Below y4.heap.size y4 V) => answered_true _ _ r2 k1 V (N2.out.own.at_.below hV) (N5.out.at_.below hV))
      have hZ0 := Lib.hid (Below.refl y4.heap.size y4)
      obtain ⟨u1, u2, u3, -, -⟩ := (N0.out.pair.below hZ0.out).facts
      obtain ⟨v1, v2, v3, -, -⟩ := (N3.out.pair.below hZ0.out).facts
      go_wp2_with fail
      refine (HA0.out _ hZ0.out).mono ?_
      rintro e z1 ⟨rfl, hb⟩
      have hZ1 := Lib.hid (belowTo hZ0.out hb)
      clear u1 u2 u3 v1 v2 v3 hb
      obtain ⟨u1, u2, u3, -, -⟩ := (N1.out.pair.below hZ1.out).facts
      obtain ⟨v1, v2, v3, -, -⟩ := (N4.out.pair.below hZ1.out).facts
      go_wp2_with fail
      refine (HA1.out _ hZ1.out).mono ?_
      rintro e z2 ⟨rfl, hb⟩
      have hZ2 := Lib.hid (belowTo hZ1.out hb)
      clear u1 u2 u3 v1 v2 v3 hb
      obtain ⟨u1, u2, u3, -, -⟩ := (N2.out.pair.below hZ2.out).facts
      obtain ⟨v1, v2, v3, -, -⟩ := (N5.out.pair.below hZ2.out).facts
      go_wp2_with fail
      refine (HA2.out _ hZ2.out).mono ?_
      rintro e z3 ⟨rfl, hb⟩
      have hZ3 := Lib.hid (belowTo hZ2.out hb)
      clear u1 u2 u3 v1 v2 v3 hb
      obtain ⟨u1, u2, u3, -, -⟩ := ((P1.out.below hV4.out).below hZ3.out).facts
      obtain ⟨v1, v2, v3, -, -⟩ := ((PX.out.below hV4.out).below hZ3.out).facts
      go_wp2_with fail
      refine (HLX.out _ (belowTo hV4.out hZ3.out)).mono ?_
      rintro e z4 ⟨rfl, hb⟩
      have hZ4 := Lib.hid (belowTo hZ3.out hb)
      clear u1 u2 u3 v1 v2 v3 hb
      obtain ⟨u1, u2, u3, -, -⟩ := ((P2.out.below hV4.out).below hZ4.out).facts
      obtain ⟨v1, v2, v3, -, -⟩ := ((PY.out.below hV4.out).below hZ4.out).facts
      go_wp2_with fail
      refine (HLY.out _ (belowTo hV4.out hZ4.out)).mono ?_
      rintro e z5 ⟨rfl, hb⟩
      have hZ5 := Lib.hid (belowTo hZ4.out hb)
      clear u1 u2 u3 v1 v2 v3 hb
      clear HA0 HA1 HA2 HLX HLY PX PY
      -- the rows: the two, the quotient and the rest, the divisor
      have hZw := Lib.hid (belowTo hV4.out hZ5.out)
      have R : RowsIn z5 w.heap.size [.slice (some ⟨g1, 0, none⟩) xs.length (xs.length + 1), .slice (some ⟨g2, 0, none⟩) ys.length (ys.length + 1), .slice A0 (natL r0.natAbs).length c0, .slice A1 (natL r1.natAbs).length c1, .slice A2 (natL r2.natAbs).length c2] z5.heap.size := by
        have t1 := (T1.out.below hZw.out).row_ (lo := w.heap.size) (by omega) HL.out.1
        have t2 := (T2.out.below hZw.out).row_ (lo := g2) (Nat.le_refl _) HL.out.2
        have t2lt := T2.out.blk.lt
        obtain ⟨n0, X0, a0, s0⟩ := (N0.out.below hZ5.out).row (by have := HS.out; omega)
        obtain ⟨n1, X1, a1, s1⟩ := (N1.out.below hZ5.out).row (by have := HS.out; omega)
        obtain ⟨n2, X2, a2, s2⟩ := (N2.out.below hZ5.out).row (by have := HS.out; omega)
        have z0 := RowsIn.nil z5 w.heap.size
        have z1 := RowsIn.snoc (hi' := g2) z0 (by have := HL.out; omega) t1 (fun g hg => by injection hg with hg; have : g1 = g := hg; omega) (by omega)
        have z2 := RowsIn.snoc (hi' := wc.heap.size) z1 (by have := HL.out; omega) t2 (fun g hg => by injection hg with hg; have : g2 = g := hg; omega) (by omega)
        have z3 := (RowsIn.snoc2 (hi' := q0) z2 a0 a1 s0 s1 N0.out.top N1.out.top (by omega) HAP.out).up (hi' := y1.heap.size) (by omega)
        exact (RowsIn.snoc (hi' := q1) z3 a2 s2 N2.out.top (by omega)).up (hi' := z5.heap.size) (by have := hst1.out.size; have := hst2.out.size; have := hst3.out.size; have := hZ5.out.size; omega)
      have HR := Lib.hid R
      have hlow := Lib.hid (belowTo B1.out hZw.out)
      clear R T1 T2 HAP
      obtain ⟨u1, u2, u3, -, -⟩ := (P1.out.below hZw.out).facts
      go_upto_region 11 with fail
      obtain ⟨v0, E⟩ : ∃ W, W = z5.alloc (.cells #[.int .i64 0, .slice none 0 0, .slice none 0 0, .slice none 0 0, .slice none 0 0, .slice none 0 0, .slice none 0 0, .slice none 0 0, .slice none 0 0, .slice none 0 0, .slice none 0 0, .slice none 0 0, .slice none 0 0, .slice none 0 0, .slice none 0 0, .slice none 0 0, .slice none 0 0] 50) := ⟨_, rfl⟩
      have hk0 : Keep v0 z5.heap.size 0 (fun _ => nilS) nilS := by rw [E]; exact Keep.new z5 _
      have hW0 := Lib.hid (show Below z5.heap.size z5 v0 from by rw [E]; exact (Below.refl _ _).alloc (Nat.le_refl _) _)
      rw [← E] at ⊢
      obtain ⟨b, hbb⟩ : ∃ b, b = z5.heap.size := ⟨_, rfl⟩
      rw [← hbb] at hk0 ⊢
      have HBB := Lib.hid hbb
      have K0 := Lib.hid hk0
      clear E hk0 hbb u1 u2 u3
      obtain ⟨u1, u2, u3, -, -⟩ := (P1.out.below (belowTo hZw.out hW0.out)).facts
      go_wp2_with fail
      refine (book_Int b 0 (fun _ => nilS) nilS n1 (some ⟨g1, 0, none⟩) xs.length (xs.length + 1) (by omega) _ K0.out).mono ?_
      rintro e v1 ⟨rfl, lims1, hk, hb⟩
      have hW1 := Lib.hid (hW0.out.trans (HBB.out ▸ hb))
      have K1 := Lib.hid hk
      clear u1 u2 u3 hk hb K0
      obtain ⟨u1, u2, u3, -, -⟩ := (P2.out.below (belowTo hZw.out hW1.out)).facts
      go_wp2_with fail
      refine (book_Int b 1 (updV (fun _ => nilS) 0 (.slice (some ⟨g1, 0, none⟩) xs.length (xs.length + 1))) lims1 n2 (some ⟨g2, 0, none⟩) ys.length (ys.length + 1) (by omega) _ K1.out).mono ?_
      rintro e v2 ⟨rfl, lims2, hk, hb⟩
      have hW2 := Lib.hid (hW1.out.trans (HBB.out ▸ hb))
      have K2 := Lib.hid hk
      clear u1 u2 u3 hk hb K1
      obtain ⟨u1, u2, u3, -, -⟩ := (N0.out.pair.below (belowTo hZ5.out hW2.out)).facts
      go_wp2_with fail
      refine (book_Int b 2 (updV (updV (fun _ => nilS) 0 (.slice (some ⟨g1, 0, none⟩) xs.length (xs.length + 1))) 1 (.slice (some ⟨g2, 0, none⟩) ys.length (ys.length + 1))) lims2 (decide (r0 < 0)) A0 (natL r0.natAbs).length c0 (by omega) _ K2.out).mono ?_
      rintro e v3 ⟨rfl, lims3, hk, hb⟩
      have hW3 := Lib.hid (hW2.out.trans (HBB.out ▸ hb))
      have K3 := Lib.hid hk
      clear u1 u2 u3 hk hb K2
      obtain ⟨u1, u2, u3, -, -⟩ := (N1.out.pair.below (belowTo hZ5.out hW3.out)).facts
      go_wp2_with fail
      refine (book_Int b 3 (updV (updV (updV (fun _ => nilS) 0 (.slice (some ⟨g1, 0, none⟩) xs.length (xs.length + 1))) 1 (.slice (some ⟨g2, 0, none⟩) ys.length (ys.length + 1))) 2 (.slice A0 (natL r0.natAbs).length c0)) lims3 (decide (r1 < 0)) A1 (natL r1.natAbs).length c1 (by omega) _ K3.out).mono ?_
      rintro e v4 ⟨rfl, lims4, hk, hb⟩
      have hW4 := Lib.hid (hW3.out.trans (HBB.out ▸ hb))
      have K4 := Lib.hid hk
      clear u1 u2 u3 hk hb K3
      obtain ⟨u1, u2, u3, -, -⟩ := (N2.out.pair.below (belowTo hZ5.out hW4.out)).facts
      go_wp2_with fail
      refine (book_Int b 4 (updV (updV (updV (updV (fun _ => nilS) 0 (.slice (some ⟨g1, 0, none⟩) xs.length (xs.length + 1))) 1 (.slice (some ⟨g2, 0, none⟩) ys.length (ys.length + 1))) 2 (.slice A0 (natL r0.natAbs).length c0)) 3 (.slice A1 (natL r1.natAbs).length c1)) lims4 (decide (r2 < 0)) A2 (natL r2.natAbs).length c2 (by omega) _ K4.out).mono ?_
      rintro e v5 ⟨rfl, lims5, hk, hb⟩
      have hW5 := Lib.hid (hW4.out.trans (HBB.out ▸ hb))
      have K5 := Lib.hid hk
      clear u1 u2 u3 hk hb K4
      have HF := Lib.hid (apart_in b w.heap.size [.slice (some ⟨g1, 0, none⟩) xs.length (xs.length + 1), .slice (some ⟨g2, 0, none⟩) ys.length (ys.length + 1), .slice A0 (natL r0.natAbs).length c0, .slice A1 (natL r1.natAbs).length c1, .slice A2 (natL r2.natAbs).length c2] lims5 w v5 (by simp) (by simp) (K5.out.cong (fun j hj => by
        rcases (by omega : j = 0 ∨ j = 1 ∨ j = 2 ∨ j = 3 ∨ j = 4) with rfl | rfl | rfl | rfl | rfl <;> rfl)) (by rw [HBB.out]; exact HR.out.below hW5.out) (belowTo hlow.out hW5.out))
      clear HR K5
      go_wp2_with fail
      refine HF.out.mono ?_
      rintro e wf ⟨rfl, hbf⟩
      go_wp2_with fail
      go_ret
      exact ⟨rfl, hbf⟩
end Go.Proofs.YtpcdiijmhllejaaGreatDoor
