/- Several texts in one: DivOps, Lz, Ints0. -/
import Derived.Test.YtpcdiijmhllejaaGreatDoorPk21
import Derived.Test.YtpcdiijmhllejaaGreatDoorPk11
import Derived.Test.YtpcdiijmhllejaaGreatDoorPk01
import Derived.Test.YtpcdiijmhllejaaGreatDoorPk07
import Derived.Test.YtpcdiijmhllejaaGreatDoorPk03
/- QuoRem and GCD of package whole and of the references. (Written by wip/exact/gendivops.py.) -/
namespace Go.Proofs.YtpcdiijmhllejaaGreatDoor
open Go.RowKit

/-- Two numbers of the call's own that share no memory, and an error. -/
def RetTwo3 (base : Nat) (w : World) (z1 z2 k : Int) (e : Ending) (w' : World) : Prop := ∃ v1 v2, e = .returned (.tuple #[v1, v2, .int .i64 k]) ∧ Ints2 w' base v1 z1 v2 z2 ∧ Below w.heap.size w w'
/-- Two numbers of the call's own, and an error. -/
def RetBoth3 (base : Nat) (w : World) (z1 z2 k : Int) (e : Ending) (w' : World) : Prop := ∃ v1 v2, e = .returned (.tuple #[v1, v2, .int .i64 k]) ∧ IntOwn w' base v1 z1 ∧ IntOwn w' base v2 z2 ∧ Below w.heap.size w w'
/-- A number wherever it lies, and an error. -/
def RetAt2 (w : World) (z k : Int) (e : Ending) (w' : World) : Prop := ∃ v, e = .returned (.tuple #[v, .int .i64 k]) ∧ IntAt w' v z ∧ Below w.heap.size w w'
theorem Ints2.drew {w : World} {base : Nat} {v1 v2 : Value} {z1 z2 : Int} (h : Ints2 w base v1 z1 v2 z2) : Ints2 w.drew base v1 z1 v2 z2 := h.below (Below.refl _ _).drew
theorem IntOwn.drew {w : World} {base : Nat} {v : Value} {x : Int} (h : IntOwn w base v x) : IntOwn w.drew base v x := h.below (Below.refl _ _).drew
theorem Ints2.nought (w : World) (base : Nat) : Ints2 w base (.agg #[.bool false, .slice none 0 0]) 0 (.agg #[.bool false, .slice none 0 0]) 0 :=
  ⟨IntOwn.nought _ _, IntOwn.nought _ _, fun g h => by cases h⟩
def quoV (n1 : Bool) (xs : List Nat) (n2 : Bool) (ys : List Nat) : Int := if okI n1 xs && okI n2 ys then (if ys.length = 0 then 0 else (ival n1 xs).tdiv (ival n2 ys)) else 0
def remV (n1 : Bool) (xs : List Nat) (n2 : Bool) (ys : List Nat) : Int := if okI n1 xs && okI n2 ys then (if ys.length = 0 then 0 else (ival n1 xs).tmod (ival n2 ys)) else 0
def quoE (n1 : Bool) (xs : List Nat) (n2 : Bool) (ys : List Nat) : Int := if okI n1 xs && okI n2 ys then (if ys.length = 0 then 3 else 0) else 1
def gcdV (n1 : Bool) (xs : List Nat) (n2 : Bool) (ys : List Nat) : Int := if okI n1 xs && okI n2 ys then ((Nat.gcd (val xs) (val ys) : Nat) : Int) else 0
def gcdE (n1 : Bool) (xs : List Nat) (n2 : Bool) (ys : List Nat) : Int := if okI n1 xs && okI n2 ys then 0 else 1

set_option maxRecDepth 100000 in
set_option maxHeartbeats 1000000 in
theorem ref_Common_left (n1 n2 : Bool) (A B : Option Addr) (c d : Nat) (xs ys : List Nat) (he : xs = []) (w : World) (h : Raw w A c xs) (g : Raw w B d ys) :
    Calls Tryz.prog 91 #[.agg #[.bool n1, .slice A xs.length c], .agg #[.bool n2, .slice B ys.length d]] w fun e w' => e = .returned (sv false B d ys) ∧ Below w.heap.size w w' := by
  have hl1 : ((xs.length : Int) == 0) = true := by subst he; rfl
  have C1 := Lib.hid (fun (V : World) (h : Raw V B d ys) => ref_signed_sv false B d ys V h)
  obtain ⟨b9, A9, k9, c9, hsv⟩ := sv_form false B d ys
  rw [hsv] at C1 ⊢
  clear he hsv
  have px := (((Pair.new w 24 (.bool n1) (.slice A xs.length c)).alloc (.cells #[.bool n2, .slice B ys.length d] 24)).alloc (.cells #[.bool false, .slice none 0 0] 24))
  have py := ((Pair.new (w.alloc (.cells #[.bool n1, .slice A xs.length c] 24)) 24 (.bool n2) (.slice B ys.length d)).alloc (.cells #[.bool false, .slice none 0 0] 24))
  have pq := (Pair.new ((w.alloc (.cells #[.bool n1, .slice A xs.length c] 24)).alloc (.cells #[.bool n2, .slice B ys.length d] 24)) 24 (.bool false) (.slice none 0 0))
  have rx := (((h.alloc (.cells #[.bool n1, .slice A xs.length c] 24)).alloc (.cells #[.bool n2, .slice B ys.length d] 24)).alloc (.cells #[.bool false, .slice none 0 0] 24))
  have ry := (((g.alloc (.cells #[.bool n1, .slice A xs.length c] 24)).alloc (.cells #[.bool n2, .slice B ys.length d] 24)).alloc (.cells #[.bool false, .slice none 0 0] 24))
  have b0 := (((Below.refl w.heap.size w).alloc (Nat.le_refl _) (.cells #[.bool n1, .slice A xs.length c] 24)).alloc (by simp) (.cells #[.bool n2, .slice B ys.length d] 24)).alloc (by simp; omega) (.cells #[.bool false, .slice none 0 0] 24)
  simp only [World.size_alloc] at py pq
  clear h g
  go_enter Tryz.func91, Tryz.ntmps91
  go_wp2_with fail
  obtain ⟨W, E⟩ : ∃ W, W = (((w.alloc (.cells #[.bool n1, .slice A xs.length c] 24)).alloc (.cells #[.bool n2, .slice B ys.length d] 24)).alloc (.cells #[.bool false, .slice none 0 0] 24)) := ⟨_, rfl⟩
  rw [← E] at px py pq b0 rx ry ⊢
  have hsz : W.heap.size = w.heap.size + 3 := by rw [E]; simp
  clear E
  have PX := Lib.hid px
  have PY := Lib.hid py
  have PQ := Lib.hid pq
  have B0 := Lib.hid b0
  have RX := Lib.hid rx
  have RY := Lib.hid ry
  obtain ⟨l1, x0, x1, -, -⟩ := px.facts
  obtain ⟨l2, y0, y1, -, -⟩ := py.facts
  clear px py pq rx ry b0
  go_wp2_with fail
  refine (C1.out W RY.out).mono ?_
  rintro e w1 ⟨rfl, hb⟩
  have pq := PQ.out.below hb
  obtain ⟨l3, q0, q1, f0, f1⟩ := pq.facts
  have hq := pq.store (.bool b9) (.slice A9 k9 c9)
  have HB := Lib.hid (below2 (belowTo B0.out hb) (show w.heap.size ≤ w.heap.size + 1 + 1 by omega) (.bool b9) (.slice A9 k9 c9))
  have HQ := Lib.hid hq
  clear pq hq hb C1 PX PY RX RY
  go_wp2_with fail
  obtain ⟨_, k0, k1, _, _⟩ := HQ.out.facts
  exact bodyPost_ret (by simp [results, Tryz.results91, go_sem, k0, k1]) rfl ⟨rfl, HB.out⟩

set_option maxRecDepth 100000 in
set_option maxHeartbeats 1000000 in
theorem ref_Common_right (n1 n2 : Bool) (A B : Option Addr) (c d : Nat) (xs ys : List Nat) (hne : xs ≠ []) (he : ys = []) (w : World) (h : Raw w A c xs) (g : Raw w B d ys) :
    Calls Tryz.prog 91 #[.agg #[.bool n1, .slice A xs.length c], .agg #[.bool n2, .slice B ys.length d]] w fun e w' => e = .returned (sv false A c xs) ∧ Below w.heap.size w w' := by
  have hl1 : ((xs.length : Int) == 0) = false := by have : xs.length ≠ 0 := fun e => hne (List.eq_nil_of_length_eq_zero e); simp; omega
  have hl2 : ((ys.length : Int) == 0) = true := by subst he; rfl
  have C1 := Lib.hid (fun (V : World) (h : Raw V A c xs) => ref_signed_sv false A c xs V h)
  obtain ⟨b9, A9, k9, c9, hsv⟩ := sv_form false A c xs
  rw [hsv] at C1 ⊢
  clear he hsv hne
  have px := (((Pair.new w 24 (.bool n1) (.slice A xs.length c)).alloc (.cells #[.bool n2, .slice B ys.length d] 24)).alloc (.cells #[.bool false, .slice none 0 0] 24))
  have py := ((Pair.new (w.alloc (.cells #[.bool n1, .slice A xs.length c] 24)) 24 (.bool n2) (.slice B ys.length d)).alloc (.cells #[.bool false, .slice none 0 0] 24))
  have pq := (Pair.new ((w.alloc (.cells #[.bool n1, .slice A xs.length c] 24)).alloc (.cells #[.bool n2, .slice B ys.length d] 24)) 24 (.bool false) (.slice none 0 0))
  have rx := (((h.alloc (.cells #[.bool n1, .slice A xs.length c] 24)).alloc (.cells #[.bool n2, .slice B ys.length d] 24)).alloc (.cells #[.bool false, .slice none 0 0] 24))
  have ry := (((g.alloc (.cells #[.bool n1, .slice A xs.length c] 24)).alloc (.cells #[.bool n2, .slice B ys.length d] 24)).alloc (.cells #[.bool false, .slice none 0 0] 24))
  have b0 := (((Below.refl w.heap.size w).alloc (Nat.le_refl _) (.cells #[.bool n1, .slice A xs.length c] 24)).alloc (by simp) (.cells #[.bool n2, .slice B ys.length d] 24)).alloc (by simp; omega) (.cells #[.bool false, .slice none 0 0] 24)
  simp only [World.size_alloc] at py pq
  clear h g
  go_enter Tryz.func91, Tryz.ntmps91
  go_wp2_with fail
  obtain ⟨W, E⟩ : ∃ W, W = (((w.alloc (.cells #[.bool n1, .slice A xs.length c] 24)).alloc (.cells #[.bool n2, .slice B ys.length d] 24)).alloc (.cells #[.bool false, .slice none 0 0] 24)) := ⟨_, rfl⟩
  rw [← E] at px py pq b0 rx ry ⊢
  have hsz : W.heap.size = w.heap.size + 3 := by rw [E]; simp
  clear E
  have PX := Lib.hid px
  have PY := Lib.hid py
  have PQ := Lib.hid pq
  have B0 := Lib.hid b0
  have RX := Lib.hid rx
  have RY := Lib.hid ry
  obtain ⟨l1, x0, x1, -, -⟩ := px.facts
  obtain ⟨l2, y0, y1, -, -⟩ := py.facts
  clear px py pq rx ry b0
  go_wp2_with fail
  refine (C1.out W RX.out).mono ?_
  rintro e w1 ⟨rfl, hb⟩
  have pq := PQ.out.below hb
  obtain ⟨l3, q0, q1, f0, f1⟩ := pq.facts
  have hq := pq.store (.bool b9) (.slice A9 k9 c9)
  have HB := Lib.hid (below2 (belowTo B0.out hb) (show w.heap.size ≤ w.heap.size + 1 + 1 by omega) (.bool b9) (.slice A9 k9 c9))
  have HQ := Lib.hid hq
  clear pq hq hb C1 PX PY RX RY
  go_wp2_with fail
  obtain ⟨_, k0, k1, _, _⟩ := HQ.out.facts
  exact bodyPost_ret (by simp [results, Tryz.results91, go_sem, k0, k1]) rfl ⟨rfl, HB.out⟩

/-- The greatest common divisor: of the call's own, or one of the two as it came. -/
def RetOf (A B : Option Addr) (c d : Nat) (xs ys : List Nat) (w : World) (z : Int) (e : Ending) (w' : World) : Prop := ∃ v, e = .returned v ∧ (IntOwn w' w.heap.size v z ∨ (v = sv false A c xs ∧ z = ival false xs) ∨ (v = sv false B d ys ∧ z = ival false ys)) ∧ Below w.heap.size w w'
theorem of_shape {A B : Option Addr} {c d base : Nat} {xs ys : List Nat} {w : World} {z : Int} {v : Value} (h : IntOwn w base v z ∨ (v = sv false A c xs ∧ z = ival false xs) ∨ (v = sv false B d ys ∧ z = ival false ys)) : ∃ b A' k c', v = .agg #[.bool b, .slice A' k c'] := by
  rcases h with h | h | h
  · exact h.shape
  · rw [h.1]; exact sv_form _ _ _ _
  · rw [h.1]; exact sv_form _ _ _ _
theorem ref_Common (n1 n2 : Bool) (A B : Option Addr) (c d : Nat) (xs ys : List Nat) (hcx : Canon xs) (hcy : Canon ys) (hlx : xs.length ≤ 4096) (hly : ys.length ≤ 4096) (w : World) (h : Raw w A c xs) (g : Raw w B d ys) :
    Calls Tryz.prog 91 #[.agg #[.bool n1, .slice A xs.length c], .agg #[.bool n2, .slice B ys.length d]] w (RetOf A B c d xs ys w ((Nat.gcd (val xs) (val ys) : Nat) : Int)) := by
  by_cases hx : xs = []
  · refine (ref_Common_left n1 n2 A B c d xs ys hx w h g).mono ?_
    rintro e w' ⟨rfl, hb⟩
    exact ⟨_, rfl, .inr (.inr ⟨rfl, by subst hx; simp [val, ival]⟩), hb⟩
  · by_cases hy : ys = []
    · refine (ref_Common_right n1 n2 A B c d xs ys hx hy w h g).mono ?_
      rintro e w' ⟨rfl, hb⟩
      exact ⟨_, rfl, .inr (.inl ⟨rfl, by subst hy; simp [val, ival]⟩), hb⟩
    · refine (ref_Common_more n1 n2 A B c d xs ys hcx hcy hx hy hlx hly w h g).mono ?_
      rintro e w' ⟨v, rfl, hv, hb⟩
      exact ⟨v, rfl, .inl hv, hb⟩

set_option maxRecDepth 100000 in
set_option maxHeartbeats 2000000 in
theorem whole_QuoRem_ok (n1 n2 : Bool) (A B : Option Addr) (c d : Nat) (xs ys : List Nat) (o1 : okI n1 xs = true) (o2 : okI n2 ys = true) (hne : ys ≠ []) (z1 z2 : Int) (HZ1 : Hid (z1 = (ival n1 xs).tdiv (ival n2 ys))) (HZ2 : Hid (z2 = (ival n1 xs).tmod (ival n2 ys))) (w : World) (h : Raw w A c xs) (g : Raw w B d ys) :
    Calls Tryz.prog 19 #[.agg #[.bool n1, .slice A xs.length c], .agg #[.bool n2, .slice B ys.length d]] w (RetTwo3 w.heap.size w z1 z2 0) := by
  have hlen : ((ys.length : Int) == 0) = false := by
    have : ys.length ≠ 0 := fun e => hne (List.eq_nil_of_length_eq_zero e)
    simp; omega
  have hcx := (okI_true.1 o1).2.1
  have hcy := (okI_true.1 o2).2.1
  have hlx := (okI_true.1 o1).1
  have hly := (okI_true.1 o2).1
  have C0 := fun (V : World) (h : Raw V A c xs) (g : Raw V B d ys) => whole_fine_any n1 n2 A B c d xs ys V h g
  rw [o1, o2, Bool.and_self] at C0
  have H0 := Lib.hid C0
  have H1 := Lib.hid (fun (V : World) (h : Raw V A c xs) (g : Raw V B d ys) => show Calls Tryz.prog 87 #[.agg #[.bool n1, .slice A xs.length c], .agg #[.bool n2, .slice B ys.length d]] V (RetTwo V.heap.size V z1 z2) from by rw [HZ1.out, HZ2.out]; exact exact_Divide n1 n2 A B c d xs ys hcx hcy hne (by omega) (by omega) V h g)
  clear C0 o1 o2 hcx hcy hlx hly
  have px := (((Pair.new w 24 (.bool n1) (.slice A xs.length c)).alloc (.cells #[.bool n2, .slice B ys.length d] 24)).alloc (.cells #[.bool false, .slice none 0 0] 24)).alloc (.cells #[.bool false, .slice none 0 0] 24)
  have py := ((Pair.new (w.alloc (.cells #[.bool n1, .slice A xs.length c] 24)) 24 (.bool n2) (.slice B ys.length d)).alloc (.cells #[.bool false, .slice none 0 0] 24)).alloc (.cells #[.bool false, .slice none 0 0] 24)
  have pq := (Pair.new ((w.alloc (.cells #[.bool n1, .slice A xs.length c] 24)).alloc (.cells #[.bool n2, .slice B ys.length d] 24)) 24 (.bool false) (.slice none 0 0)).alloc (.cells #[.bool false, .slice none 0 0] 24)
  have pr := Pair.new (((w.alloc (.cells #[.bool n1, .slice A xs.length c] 24)).alloc (.cells #[.bool n2, .slice B ys.length d] 24)).alloc (.cells #[.bool false, .slice none 0 0] 24)) 24 (.bool false) (.slice none 0 0)
  have rx := (((h.alloc (.cells #[.bool n1, .slice A xs.length c] 24)).alloc (.cells #[.bool n2, .slice B ys.length d] 24)).alloc (.cells #[.bool false, .slice none 0 0] 24)).alloc (.cells #[.bool false, .slice none 0 0] 24)
  have ry := (((g.alloc (.cells #[.bool n1, .slice A xs.length c] 24)).alloc (.cells #[.bool n2, .slice B ys.length d] 24)).alloc (.cells #[.bool false, .slice none 0 0] 24)).alloc (.cells #[.bool false, .slice none 0 0] 24)
  have b0 := (((Below.refl w.heap.size w).alloc (Nat.le_refl _) (.cells #[.bool n1, .slice A xs.length c] 24)).alloc (by simp) (.cells #[.bool n2, .slice B ys.length d] 24)).alloc (by simp; omega) (.cells #[.bool false, .slice none 0 0] 24)
  have b0 := b0.alloc (by simp; omega) (.cells #[.bool false, .slice none 0 0] 24)
  simp only [World.size_alloc] at py pq pr
  clear h g
  go_enter Tryz.func19, Tryz.ntmps19
  go_wp2_with fail
  obtain ⟨W, E⟩ : ∃ W, W = (((w.alloc (.cells #[.bool n1, .slice A xs.length c] 24)).alloc (.cells #[.bool n2, .slice B ys.length d] 24)).alloc (.cells #[.bool false, .slice none 0 0] 24)).alloc (.cells #[.bool false, .slice none 0 0] 24) := ⟨_, rfl⟩
  rw [← E] at px py pq pr b0 rx ry ⊢
  have hsz : W.heap.size = w.heap.size + 4 := by rw [E]; simp
  clear E
  have PX := Lib.hid px
  have PY := Lib.hid py
  have PQ := Lib.hid pq
  have PR := Lib.hid pr
  have B0 := Lib.hid b0
  have RX := Lib.hid rx
  have RY := Lib.hid ry
  obtain ⟨l1, x0, x1, -, -⟩ := px.facts
  obtain ⟨l2, y0, y1, -, -⟩ := py.facts
  clear px py pq pr rx ry b0
  go_wp2_with (first
    | (go_at_call 28; with_reducible refine (H0.out _ RX.out RY.out).mono ?_; rintro e w1 ⟨rfl, hb⟩; have rx := RX.out.below hb; have ry := RY.out.below hb; obtain ⟨l1, x0, x1, -, -⟩ := (PX.out.below hb).facts; obtain ⟨l2, y0, y1, -, -⟩ := (PY.out.below hb).facts)
    | (go_at_call 87; refine (H1.out _ rx ry).mono ?_; rintro e w2 ⟨v1, v2, rfl, hI, hb2⟩; obtain ⟨b1, A1, m1, c1, rfl⟩ := hI.one.shape; obtain ⟨b2, A2, m2, c2, rfl⟩ := hI.two.shape; have pq := (PQ.out.below hb).below hb2; have pr := (PR.out.below hb).below hb2; obtain ⟨l3, q0, q1, f0, f1⟩ := pq.facts; obtain ⟨l4, r0, r1, g0, g1⟩ := pr.facts))
  have hs1 := hb.size
  have q3 := (pq.store (.bool b1) (.slice A1 m1 c1)).far (show w.heap.size + 1 + 1 ≠ w.heap.size + 1 + 1 + 1 by omega) (.bool b2) (.slice A2 m2 c2)
  have r3 := (pr.far (show w.heap.size + 1 + 1 + 1 ≠ w.heap.size + 1 + 1 by omega) (.bool b1) (.slice A1 m1 c1)).store (.bool b2) (.slice A2 m2 c2)
  have i3 := (hI.pair (g := w.heap.size + 1 + 1) (a := .bool b1) (b := .slice A1 m1 c1) (by omega)).pair (g := w.heap.size + 1 + 1 + 1) (a := .bool b2) (b := .slice A2 m2 c2) (by omega)
  have b3 := below2 (below2 (belowTo (belowTo B0.out hb) hb2) (show w.heap.size ≤ w.heap.size + 1 + 1 by omega) (.bool b1) (.slice A1 m1 c1)) (show w.heap.size ≤ w.heap.size + 1 + 1 + 1 by omega) (.bool b2) (.slice A2 m2 c2)
  obtain ⟨W3, E3⟩ : ∃ W3, W3 = ((((w2.setCell ⟨w.heap.size + 1 + 1, 0, none⟩ (.bool b1)).setCell ⟨w.heap.size + 1 + 1, 1, none⟩ (.slice A1 m1 c1)).setCell ⟨w.heap.size + 1 + 1 + 1, 0, none⟩ (.bool b2)).setCell ⟨w.heap.size + 1 + 1 + 1, 1, none⟩ (.slice A2 m2 c2)) := ⟨_, rfl⟩
  rw [← E3] at q3 r3 i3 b3 ⊢
  have hsz3 : w.heap.size + 4 ≤ w1.heap.size := by omega
  have I4 := Lib.hid ((i3.pair (g := w.heap.size + 1 + 1) (a := .bool b1) (b := .slice A1 m1 c1) (by omega)).pair (g := w.heap.size + 1 + 1 + 1) (a := .bool b2) (b := .slice A2 m2 c2) (by omega) |>.base (b' := w.heap.size) (by omega))
  have Q4 := Lib.hid ((q3.store (.bool b1) (.slice A1 m1 c1)).far (show w.heap.size + 1 + 1 ≠ w.heap.size + 1 + 1 + 1 by omega) (.bool b2) (.slice A2 m2 c2))
  have R4 := Lib.hid ((r3.far (show w.heap.size + 1 + 1 + 1 ≠ w.heap.size + 1 + 1 by omega) (.bool b1) (.slice A1 m1 c1)).store (.bool b2) (.slice A2 m2 c2))
  have B4 := Lib.hid (below2 (below2 b3 (show w.heap.size ≤ w.heap.size + 1 + 1 by omega) (.bool b1) (.slice A1 m1 c1)) (show w.heap.size ≤ w.heap.size + 1 + 1 + 1 by omega) (.bool b2) (.slice A2 m2 c2))
  obtain ⟨l3, q0, q1, f0, f1⟩ := q3.facts
  obtain ⟨l4, r0, r1, g0, g1⟩ := r3.facts
  clear E3 q3 r3 i3 hI pq pr b3 hb hb2 B0 PX PY PQ PR H0 H1 RX RY
  go_region
  all_goals (go_wp2_with fail)
  all_goals
    obtain ⟨_, k0, k1, _, _⟩ := Q4.out.facts
    obtain ⟨_, k2, k3, _, _⟩ := R4.out.facts
    exact bodyPost_ret (by simp [results, Tryz.results19, go_sem, k0, k1, k2, k3]) rfl ⟨_, _, rfl, I4.out.drew, B4.out.drew⟩

set_option maxRecDepth 100000 in
set_option maxHeartbeats 2000000 in
theorem whole_QuoRem_bad (n1 n2 : Bool) (A B : Option Addr) (c d : Nat) (xs ys : List Nat) (o : (okI n1 xs && okI n2 ys) = false) (w : World) (h : Raw w A c xs) (g : Raw w B d ys) :
    Calls Tryz.prog 19 #[.agg #[.bool n1, .slice A xs.length c], .agg #[.bool n2, .slice B ys.length d]] w (RetTwo3 w.heap.size w 0 0 1) := by
  have C0 := fun (V : World) (h : Raw V A c xs) (g : Raw V B d ys) => whole_fine_any n1 n2 A B c d xs ys V h g
  rw [o] at C0
  have H0 := Lib.hid C0
  clear C0 o
  have px := (((Pair.new w 24 (.bool n1) (.slice A xs.length c)).alloc (.cells #[.bool n2, .slice B ys.length d] 24)).alloc (.cells #[.bool false, .slice none 0 0] 24)).alloc (.cells #[.bool false, .slice none 0 0] 24)
  have py := ((Pair.new (w.alloc (.cells #[.bool n1, .slice A xs.length c] 24)) 24 (.bool n2) (.slice B ys.length d)).alloc (.cells #[.bool false, .slice none 0 0] 24)).alloc (.cells #[.bool false, .slice none 0 0] 24)
  have pq := (Pair.new ((w.alloc (.cells #[.bool n1, .slice A xs.length c] 24)).alloc (.cells #[.bool n2, .slice B ys.length d] 24)) 24 (.bool false) (.slice none 0 0)).alloc (.cells #[.bool false, .slice none 0 0] 24)
  have pr := Pair.new (((w.alloc (.cells #[.bool n1, .slice A xs.length c] 24)).alloc (.cells #[.bool n2, .slice B ys.length d] 24)).alloc (.cells #[.bool false, .slice none 0 0] 24)) 24 (.bool false) (.slice none 0 0)
  have rx := (((h.alloc (.cells #[.bool n1, .slice A xs.length c] 24)).alloc (.cells #[.bool n2, .slice B ys.length d] 24)).alloc (.cells #[.bool false, .slice none 0 0] 24)).alloc (.cells #[.bool false, .slice none 0 0] 24)
  have ry := (((g.alloc (.cells #[.bool n1, .slice A xs.length c] 24)).alloc (.cells #[.bool n2, .slice B ys.length d] 24)).alloc (.cells #[.bool false, .slice none 0 0] 24)).alloc (.cells #[.bool false, .slice none 0 0] 24)
  have b0 := (((Below.refl w.heap.size w).alloc (Nat.le_refl _) (.cells #[.bool n1, .slice A xs.length c] 24)).alloc (by simp) (.cells #[.bool n2, .slice B ys.length d] 24)).alloc (by simp; omega) (.cells #[.bool false, .slice none 0 0] 24)
  have b0 := b0.alloc (by simp; omega) (.cells #[.bool false, .slice none 0 0] 24)
  simp only [World.size_alloc] at py pq pr
  clear h g
  go_enter Tryz.func19, Tryz.ntmps19
  go_wp2_with fail
  obtain ⟨W, E⟩ : ∃ W, W = (((w.alloc (.cells #[.bool n1, .slice A xs.length c] 24)).alloc (.cells #[.bool n2, .slice B ys.length d] 24)).alloc (.cells #[.bool false, .slice none 0 0] 24)).alloc (.cells #[.bool false, .slice none 0 0] 24) := ⟨_, rfl⟩
  rw [← E] at px py pq pr b0 rx ry ⊢
  have hsz : W.heap.size = w.heap.size + 4 := by rw [E]; simp
  clear E
  have PX := Lib.hid px
  have PY := Lib.hid py
  have PQ := Lib.hid pq
  have PR := Lib.hid pr
  have B0 := Lib.hid b0
  have RX := Lib.hid rx
  have RY := Lib.hid ry
  obtain ⟨l1, x0, x1, -, -⟩ := px.facts
  obtain ⟨l2, y0, y1, -, -⟩ := py.facts
  clear px py pq pr rx ry b0
  go_wp2_with (first
    | (go_at_call 28; with_reducible refine (H0.out _ RX.out RY.out).mono ?_; rintro e w1 ⟨rfl, hb⟩; have pq := PQ.out.below hb; have pr := PR.out.below hb; obtain ⟨l1, x0, x1, -, -⟩ := (PX.out.below hb).facts; obtain ⟨l2, y0, y1, -, -⟩ := (PY.out.below hb).facts; obtain ⟨l3, q0, q1, f0, f1⟩ := pq.facts; obtain ⟨l4, r0, r1, g0, g1⟩ := pr.facts))
  have Q4 := Lib.hid ((pq.store (.bool false) (.slice none 0 0)).far (show w.heap.size + 1 + 1 ≠ w.heap.size + 1 + 1 + 1 by omega) (.bool false) (.slice none 0 0))
  have R4 := Lib.hid ((pr.far (show w.heap.size + 1 + 1 + 1 ≠ w.heap.size + 1 + 1 by omega) (.bool false) (.slice none 0 0)).store (.bool false) (.slice none 0 0))
  have B4 := Lib.hid (below2 (below2 (belowTo B0.out hb) (show w.heap.size ≤ w.heap.size + 1 + 1 by omega) (.bool false) (.slice none 0 0)) (show w.heap.size ≤ w.heap.size + 1 + 1 + 1 by omega) (.bool false) (.slice none 0 0))
  obtain ⟨_, k0, k1, _, _⟩ := Q4.out.facts
  obtain ⟨_, k2, k3, _, _⟩ := R4.out.facts
  exact bodyPost_ret (by simp [results, Tryz.results19, go_sem, k0, k1, k2, k3]) rfl ⟨_, _, rfl, Ints2.nought _ _, B4.out⟩

set_option maxRecDepth 100000 in
set_option maxHeartbeats 2000000 in
theorem whole_QuoRem_nought (n1 n2 : Bool) (A B : Option Addr) (c d : Nat) (xs ys : List Nat) (o1 : (okI n1 xs && okI n2 ys) = true) (he : ys = []) (w : World) (h : Raw w A c xs) (g : Raw w B d ys) :
    Calls Tryz.prog 19 #[.agg #[.bool n1, .slice A xs.length c], .agg #[.bool n2, .slice B ys.length d]] w (RetTwo3 w.heap.size w 0 0 3) := by
  have C0 := fun (V : World) (h : Raw V A c xs) (g : Raw V B d ys) => whole_fine_any n1 n2 A B c d xs ys V h g
  rw [o1] at C0
  have H0 := Lib.hid C0
  have hlen : ((ys.length : Int) == 0) = true := by subst he; rfl
  clear C0 o1 he
  have px := (((Pair.new w 24 (.bool n1) (.slice A xs.length c)).alloc (.cells #[.bool n2, .slice B ys.length d] 24)).alloc (.cells #[.bool false, .slice none 0 0] 24)).alloc (.cells #[.bool false, .slice none 0 0] 24)
  have py := ((Pair.new (w.alloc (.cells #[.bool n1, .slice A xs.length c] 24)) 24 (.bool n2) (.slice B ys.length d)).alloc (.cells #[.bool false, .slice none 0 0] 24)).alloc (.cells #[.bool false, .slice none 0 0] 24)
  have pq := (Pair.new ((w.alloc (.cells #[.bool n1, .slice A xs.length c] 24)).alloc (.cells #[.bool n2, .slice B ys.length d] 24)) 24 (.bool false) (.slice none 0 0)).alloc (.cells #[.bool false, .slice none 0 0] 24)
  have pr := Pair.new (((w.alloc (.cells #[.bool n1, .slice A xs.length c] 24)).alloc (.cells #[.bool n2, .slice B ys.length d] 24)).alloc (.cells #[.bool false, .slice none 0 0] 24)) 24 (.bool false) (.slice none 0 0)
  have rx := (((h.alloc (.cells #[.bool n1, .slice A xs.length c] 24)).alloc (.cells #[.bool n2, .slice B ys.length d] 24)).alloc (.cells #[.bool false, .slice none 0 0] 24)).alloc (.cells #[.bool false, .slice none 0 0] 24)
  have ry := (((g.alloc (.cells #[.bool n1, .slice A xs.length c] 24)).alloc (.cells #[.bool n2, .slice B ys.length d] 24)).alloc (.cells #[.bool false, .slice none 0 0] 24)).alloc (.cells #[.bool false, .slice none 0 0] 24)
  have b0 := (((Below.refl w.heap.size w).alloc (Nat.le_refl _) (.cells #[.bool n1, .slice A xs.length c] 24)).alloc (by simp) (.cells #[.bool n2, .slice B ys.length d] 24)).alloc (by simp; omega) (.cells #[.bool false, .slice none 0 0] 24)
  have b0 := b0.alloc (by simp; omega) (.cells #[.bool false, .slice none 0 0] 24)
  simp only [World.size_alloc] at py pq pr
  clear h g
  go_enter Tryz.func19, Tryz.ntmps19
  go_wp2_with fail
  obtain ⟨W, E⟩ : ∃ W, W = (((w.alloc (.cells #[.bool n1, .slice A xs.length c] 24)).alloc (.cells #[.bool n2, .slice B ys.length d] 24)).alloc (.cells #[.bool false, .slice none 0 0] 24)).alloc (.cells #[.bool false, .slice none 0 0] 24) := ⟨_, rfl⟩
  rw [← E] at px py pq pr b0 rx ry ⊢
  have hsz : W.heap.size = w.heap.size + 4 := by rw [E]; simp
  clear E
  have PX := Lib.hid px
  have PY := Lib.hid py
  have PQ := Lib.hid pq
  have PR := Lib.hid pr
  have B0 := Lib.hid b0
  have RX := Lib.hid rx
  have RY := Lib.hid ry
  obtain ⟨l1, x0, x1, -, -⟩ := px.facts
  obtain ⟨l2, y0, y1, -, -⟩ := py.facts
  clear px py pq pr rx ry b0
  go_wp2_with (first
    | (go_at_call 28; with_reducible refine (H0.out _ RX.out RY.out).mono ?_; rintro e w1 ⟨rfl, hb⟩; have pq := PQ.out.below hb; have pr := PR.out.below hb; obtain ⟨l1, x0, x1, -, -⟩ := (PX.out.below hb).facts; obtain ⟨l2, y0, y1, -, -⟩ := (PY.out.below hb).facts; obtain ⟨l3, q0, q1, f0, f1⟩ := pq.facts; obtain ⟨l4, r0, r1, g0, g1⟩ := pr.facts))
  have Q4 := Lib.hid ((pq.store (.bool false) (.slice none 0 0)).far (show w.heap.size + 1 + 1 ≠ w.heap.size + 1 + 1 + 1 by omega) (.bool false) (.slice none 0 0))
  have R4 := Lib.hid ((pr.far (show w.heap.size + 1 + 1 + 1 ≠ w.heap.size + 1 + 1 by omega) (.bool false) (.slice none 0 0)).store (.bool false) (.slice none 0 0))
  have B4 := Lib.hid (below2 (below2 (belowTo B0.out hb) (show w.heap.size ≤ w.heap.size + 1 + 1 by omega) (.bool false) (.slice none 0 0)) (show w.heap.size ≤ w.heap.size + 1 + 1 + 1 by omega) (.bool false) (.slice none 0 0))
  obtain ⟨_, k0, k1, _, _⟩ := Q4.out.facts
  obtain ⟨_, k2, k3, _, _⟩ := R4.out.facts
  exact bodyPost_ret (by simp [results, Tryz.results19, go_sem, k0, k1, k2, k3]) rfl ⟨_, _, rfl, Ints2.nought _ _, B4.out⟩

theorem whole_QuoRem (n1 n2 : Bool) (A B : Option Addr) (c d : Nat) (xs ys : List Nat) (w : World) (h : Raw w A c xs) (g : Raw w B d ys) :
    Calls Tryz.prog 19 #[.agg #[.bool n1, .slice A xs.length c], .agg #[.bool n2, .slice B ys.length d]] w (RetTwo3 w.heap.size w (quoV n1 xs n2 ys) (remV n1 xs n2 ys) (quoE n1 xs n2 ys)) := by
  unfold quoV remV quoE
  by_cases o : (okI n1 xs && okI n2 ys) = true
  · rw [if_pos o, if_pos o, if_pos o]
    have o' := Bool.and_eq_true_iff.1 o
    by_cases hy : ys.length = 0
    · rw [if_pos hy, if_pos hy, if_pos hy]
      exact whole_QuoRem_nought n1 n2 A B c d xs ys o (List.eq_nil_of_length_eq_zero hy) w h g
    · rw [if_neg hy, if_neg hy, if_neg hy]
      exact whole_QuoRem_ok n1 n2 A B c d xs ys o'.1 o'.2 (fun e => hy (by rw [e]; rfl)) _ _ (Lib.hid rfl) (Lib.hid rfl) w h g
  · rw [if_neg o, if_neg o, if_neg o]
    exact whole_QuoRem_bad n1 n2 A B c d xs ys (by simpa using o) w h g

set_option maxRecDepth 100000 in
set_option maxHeartbeats 2000000 in
theorem whole_GCD_ok (n1 n2 : Bool) (A B : Option Addr) (c d : Nat) (xs ys : List Nat) (o1 : okI n1 xs = true) (o2 : okI n2 ys = true) (z : Int) (HZ : Hid (z = ((Nat.gcd (val xs) (val ys) : Nat) : Int))) (w : World) (h : Raw w A c xs) (g : Raw w B d ys) :
    Calls Tryz.prog 20 #[.agg #[.bool n1, .slice A xs.length c], .agg #[.bool n2, .slice B ys.length d]] w (RetInt2 w.heap.size w z 0) := by
  have hcx := (okI_true.1 o1).2.1
  have hcy := (okI_true.1 o2).2.1
  have hlx := (okI_true.1 o1).1
  have hly := (okI_true.1 o2).1
  have C0 := fun (V : World) (h : Raw V A c xs) (g : Raw V B d ys) => whole_fine_any n1 n2 A B c d xs ys V h g
  rw [o1, o2, Bool.and_self] at C0
  have H0 := Lib.hid C0
  have H1 := Lib.hid (fun (V : World) (h : Raw V A c xs) (g : Raw V B d ys) => show Calls Tryz.prog 88 #[.agg #[.bool n1, .slice A xs.length c], .agg #[.bool n2, .slice B ys.length d]] V (RetInt V.heap.size V z) from by rw [HZ.out]; exact exact_Common n1 n2 A B c d xs ys (by omega) (by omega) V h g)
  have HH := Lib.hid (And.intro h g)
  clear C0 o1 o2 hcx hcy hlx hly HZ
  have px := (((Pair.new w 24 (.bool n1) (.slice A xs.length c)).alloc (.cells #[.bool n2, .slice B ys.length d] 24)).alloc (.cells #[.bool false, .slice none 0 0] 24))
  have py := ((Pair.new (w.alloc (.cells #[.bool n1, .slice A xs.length c] 24)) 24 (.bool n2) (.slice B ys.length d)).alloc (.cells #[.bool false, .slice none 0 0] 24))
  have pq := (Pair.new ((w.alloc (.cells #[.bool n1, .slice A xs.length c] 24)).alloc (.cells #[.bool n2, .slice B ys.length d] 24)) 24 (.bool false) (.slice none 0 0))
  have rx := (((h.alloc (.cells #[.bool n1, .slice A xs.length c] 24)).alloc (.cells #[.bool n2, .slice B ys.length d] 24)).alloc (.cells #[.bool false, .slice none 0 0] 24))
  have ry := (((g.alloc (.cells #[.bool n1, .slice A xs.length c] 24)).alloc (.cells #[.bool n2, .slice B ys.length d] 24)).alloc (.cells #[.bool false, .slice none 0 0] 24))
  have b0 := (((Below.refl w.heap.size w).alloc (Nat.le_refl _) (.cells #[.bool n1, .slice A xs.length c] 24)).alloc (by simp) (.cells #[.bool n2, .slice B ys.length d] 24)).alloc (by simp; omega) (.cells #[.bool false, .slice none 0 0] 24)
  simp only [World.size_alloc] at py pq
  clear h g
  go_enter Tryz.func20, Tryz.ntmps20
  go_wp2_with fail
  obtain ⟨W, E⟩ : ∃ W, W = (((w.alloc (.cells #[.bool n1, .slice A xs.length c] 24)).alloc (.cells #[.bool n2, .slice B ys.length d] 24)).alloc (.cells #[.bool false, .slice none 0 0] 24)) := ⟨_, rfl⟩
  rw [← E] at px py pq b0 rx ry ⊢
  have hsz : W.heap.size = w.heap.size + 3 := by rw [E]; simp
  clear E
  have PX := Lib.hid px
  have PY := Lib.hid py
  have PQ := Lib.hid pq
  have B0 := Lib.hid b0
  have RX := Lib.hid rx
  have RY := Lib.hid ry
  obtain ⟨l1, x0, x1, -, -⟩ := px.facts
  obtain ⟨l2, y0, y1, -, -⟩ := py.facts
  clear px py pq rx ry b0
  go_wp2_with (first
    | (go_at_call 28; with_reducible refine (H0.out _ RX.out RY.out).mono ?_; rintro e w1 ⟨rfl, hb⟩; have rx := RX.out.below hb; have ry := RY.out.below hb; obtain ⟨l1, x0, x1, -, -⟩ := (PX.out.below hb).facts; obtain ⟨l2, y0, y1, -, -⟩ := (PY.out.below hb).facts)
    | (go_at_call 88; refine (H1.out _ rx ry).mono ?_; rintro e w2 ⟨v, rfl, hI, hb2⟩; obtain ⟨b1, A1, m1, c1, rfl⟩ := hI.shape; have pq := (PQ.out.below hb).below hb2; obtain ⟨l3, q0, q1, f0, f1⟩ := pq.facts))
  have hs1 := hb.size
  have hq := pq.store (.bool b1) (.slice A1 m1 c1)
  obtain ⟨_, k0, k1, _, _⟩ := hq.facts
  have hbf := below2 (belowTo (belowTo B0.out hb) hb2) (show w.heap.size ≤ w.heap.size + 1 + 1 by omega) (.bool b1) (.slice A1 m1 c1)
  exact bodyPost_ret (by simp [results, Tryz.results20, go_sem, k0, k1]) rfl ⟨_, rfl, (hI.pair (by omega)).base (by omega), hbf⟩

set_option maxRecDepth 100000 in
set_option maxHeartbeats 1000000 in
theorem whole_GCD_bad (n1 n2 : Bool) (A B : Option Addr) (c d : Nat) (xs ys : List Nat) (o : (okI n1 xs && okI n2 ys) = false) (w : World) (h : Raw w A c xs) (g : Raw w B d ys) :
    Calls Tryz.prog 20 #[.agg #[.bool n1, .slice A xs.length c], .agg #[.bool n2, .slice B ys.length d]] w (RetInt2 w.heap.size w 0 1) := by
  have C0 := fun (V : World) (h : Raw V A c xs) (g : Raw V B d ys) => whole_fine_any n1 n2 A B c d xs ys V h g
  rw [o] at C0
  have H0 := Lib.hid C0
  clear C0 o
  have px := (((Pair.new w 24 (.bool n1) (.slice A xs.length c)).alloc (.cells #[.bool n2, .slice B ys.length d] 24)).alloc (.cells #[.bool false, .slice none 0 0] 24))
  have py := ((Pair.new (w.alloc (.cells #[.bool n1, .slice A xs.length c] 24)) 24 (.bool n2) (.slice B ys.length d)).alloc (.cells #[.bool false, .slice none 0 0] 24))
  have pq := (Pair.new ((w.alloc (.cells #[.bool n1, .slice A xs.length c] 24)).alloc (.cells #[.bool n2, .slice B ys.length d] 24)) 24 (.bool false) (.slice none 0 0))
  have rx := (((h.alloc (.cells #[.bool n1, .slice A xs.length c] 24)).alloc (.cells #[.bool n2, .slice B ys.length d] 24)).alloc (.cells #[.bool false, .slice none 0 0] 24))
  have ry := (((g.alloc (.cells #[.bool n1, .slice A xs.length c] 24)).alloc (.cells #[.bool n2, .slice B ys.length d] 24)).alloc (.cells #[.bool false, .slice none 0 0] 24))
  have b0 := (((Below.refl w.heap.size w).alloc (Nat.le_refl _) (.cells #[.bool n1, .slice A xs.length c] 24)).alloc (by simp) (.cells #[.bool n2, .slice B ys.length d] 24)).alloc (by simp; omega) (.cells #[.bool false, .slice none 0 0] 24)
  simp only [World.size_alloc] at py pq
  clear h g
  go_enter Tryz.func20, Tryz.ntmps20
  go_wp2_with fail
  obtain ⟨W, E⟩ : ∃ W, W = (((w.alloc (.cells #[.bool n1, .slice A xs.length c] 24)).alloc (.cells #[.bool n2, .slice B ys.length d] 24)).alloc (.cells #[.bool false, .slice none 0 0] 24)) := ⟨_, rfl⟩
  rw [← E] at px py pq b0 rx ry ⊢
  have hsz : W.heap.size = w.heap.size + 3 := by rw [E]; simp
  clear E
  have PX := Lib.hid px
  have PY := Lib.hid py
  have PQ := Lib.hid pq
  have B0 := Lib.hid b0
  have RX := Lib.hid rx
  have RY := Lib.hid ry
  obtain ⟨l1, x0, x1, -, -⟩ := px.facts
  obtain ⟨l2, y0, y1, -, -⟩ := py.facts
  clear px py pq rx ry b0
  go_wp2_with (first | (go_at_call 28; with_reducible refine (H0.out _ RX.out RY.out).mono ?_; rintro e w1 ⟨rfl, hb⟩; have pq := PQ.out.below hb; obtain ⟨l3, z0, z1, f0, f1⟩ := pq.facts))
  have hq := pq.store (.bool false) (.slice none 0 0)
  obtain ⟨_, k0, k1, _, _⟩ := hq.facts
  exact bodyPost_ret (by simp [results, Tryz.results20, go_sem, k0, k1]) rfl ⟨_, rfl, IntOwn.nought _ _, below2 (belowTo B0.out hb) (by omega) _ _⟩

theorem whole_GCD (n1 n2 : Bool) (A B : Option Addr) (c d : Nat) (xs ys : List Nat) (w : World) (h : Raw w A c xs) (g : Raw w B d ys) :
    Calls Tryz.prog 20 #[.agg #[.bool n1, .slice A xs.length c], .agg #[.bool n2, .slice B ys.length d]] w (RetInt2 w.heap.size w (gcdV n1 xs n2 ys) (gcdE n1 xs n2 ys)) := by
  unfold gcdV gcdE
  by_cases o : (okI n1 xs && okI n2 ys) = true
  · rw [if_pos o, if_pos o]
    have o' := Bool.and_eq_true_iff.1 o
    exact whole_GCD_ok n1 n2 A B c d xs ys o'.1 o'.2 _ (Lib.hid rfl) w h g
  · rw [if_neg o, if_neg o]
    exact whole_GCD_bad n1 n2 A B c d xs ys (by simpa using o) w h g

set_option maxRecDepth 100000 in
set_option maxHeartbeats 2000000 in
theorem ref_QuoRem_ok (n1 n2 : Bool) (A B : Option Addr) (c d : Nat) (xs ys : List Nat) (o1 : okI n1 xs = true) (o2 : okI n2 ys = true) (hne : ys ≠ []) (z1 z2 : Int) (HZ1 : Hid (z1 = (ival n1 xs).tdiv (ival n2 ys))) (HZ2 : Hid (z2 = (ival n1 xs).tmod (ival n2 ys))) (w : World) (h : Raw w A c xs) (g : Raw w B d ys) :
    Calls Tryz.prog 21 #[.agg #[.bool n1, .slice A xs.length c], .agg #[.bool n2, .slice B ys.length d]] w (RetBoth3 w.heap.size w z1 z2 0) := by
  have hlen : ((ys.length : Int) == 0) = false := by
    have : ys.length ≠ 0 := fun e => hne (List.eq_nil_of_length_eq_zero e)
    simp; omega
  have hcx := (okI_true.1 o1).2.1
  have hcy := (okI_true.1 o2).2.1
  have hlx := (okI_true.1 o1).1
  have hly := (okI_true.1 o2).1
  have C0 := fun (V : World) (h : Raw V A c xs) (g : Raw V B d ys) => ref_fine_any n1 n2 A B c d xs ys V h g
  rw [o1, o2, Bool.and_self] at C0
  have H0 := Lib.hid C0
  have H1 := Lib.hid (fun (V : World) (h : Raw V A c xs) (g : Raw V B d ys) => show Calls Tryz.prog 90 #[.agg #[.bool n1, .slice A xs.length c], .agg #[.bool n2, .slice B ys.length d]] V (RetBoth V.heap.size V z1 z2) from by rw [HZ1.out, HZ2.out]; exact ref_Divide n1 n2 A B c d xs ys hcy hne (by omega) (by omega) V h g)
  clear C0 o1 o2 hcx hcy hlx hly
  have CS := fun (V : World) (g : Raw V B d ys) => ref_Sign_any n2 B d ys V g
  obtain ⟨s, hs⟩ : ∃ s, s = sgnI n2 ys := ⟨_, rfl⟩
  have hs0 : (s == 0) = false := by
    rw [hs]; unfold sgnI
    have : ys.length ≠ 0 := fun e => hne (List.eq_nil_of_length_eq_zero e)
    rw [if_neg this]; cases n2 <;> rfl
  rw [← hs] at CS
  have HS := Lib.hid CS
  clear CS hs
  have px := (((Pair.new w 24 (.bool n1) (.slice A xs.length c)).alloc (.cells #[.bool n2, .slice B ys.length d] 24)).alloc (.cells #[.bool false, .slice none 0 0] 24)).alloc (.cells #[.bool false, .slice none 0 0] 24)
  have py := ((Pair.new (w.alloc (.cells #[.bool n1, .slice A xs.length c] 24)) 24 (.bool n2) (.slice B ys.length d)).alloc (.cells #[.bool false, .slice none 0 0] 24)).alloc (.cells #[.bool false, .slice none 0 0] 24)
  have pq := (Pair.new ((w.alloc (.cells #[.bool n1, .slice A xs.length c] 24)).alloc (.cells #[.bool n2, .slice B ys.length d] 24)) 24 (.bool false) (.slice none 0 0)).alloc (.cells #[.bool false, .slice none 0 0] 24)
  have pr := Pair.new (((w.alloc (.cells #[.bool n1, .slice A xs.length c] 24)).alloc (.cells #[.bool n2, .slice B ys.length d] 24)).alloc (.cells #[.bool false, .slice none 0 0] 24)) 24 (.bool false) (.slice none 0 0)
  have rx := (((h.alloc (.cells #[.bool n1, .slice A xs.length c] 24)).alloc (.cells #[.bool n2, .slice B ys.length d] 24)).alloc (.cells #[.bool false, .slice none 0 0] 24)).alloc (.cells #[.bool false, .slice none 0 0] 24)
  have ry := (((g.alloc (.cells #[.bool n1, .slice A xs.length c] 24)).alloc (.cells #[.bool n2, .slice B ys.length d] 24)).alloc (.cells #[.bool false, .slice none 0 0] 24)).alloc (.cells #[.bool false, .slice none 0 0] 24)
  have b0 := (((Below.refl w.heap.size w).alloc (Nat.le_refl _) (.cells #[.bool n1, .slice A xs.length c] 24)).alloc (by simp) (.cells #[.bool n2, .slice B ys.length d] 24)).alloc (by simp; omega) (.cells #[.bool false, .slice none 0 0] 24)
  have b0 := b0.alloc (by simp; omega) (.cells #[.bool false, .slice none 0 0] 24)
  simp only [World.size_alloc] at py pq pr
  clear h g
  go_enter Tryz.func21, Tryz.ntmps21
  go_wp2_with fail
  obtain ⟨W, E⟩ : ∃ W, W = (((w.alloc (.cells #[.bool n1, .slice A xs.length c] 24)).alloc (.cells #[.bool n2, .slice B ys.length d] 24)).alloc (.cells #[.bool false, .slice none 0 0] 24)).alloc (.cells #[.bool false, .slice none 0 0] 24) := ⟨_, rfl⟩
  rw [← E] at px py pq pr b0 rx ry ⊢
  have hsz : W.heap.size = w.heap.size + 4 := by rw [E]; simp
  clear E
  have PX := Lib.hid px
  have PY := Lib.hid py
  have PQ := Lib.hid pq
  have PR := Lib.hid pr
  have B0 := Lib.hid b0
  have RX := Lib.hid rx
  have RY := Lib.hid ry
  obtain ⟨l1, x0, x1, -, -⟩ := px.facts
  obtain ⟨l2, y0, y1, -, -⟩ := py.facts
  clear px py pq pr rx ry b0
  go_wp2_with (first
    | (go_at_call 33; with_reducible refine (H0.out _ RX.out RY.out).mono ?_; rintro e w1 ⟨rfl, hb⟩; have rx := RX.out.below hb; have ry := RY.out.below hb; obtain ⟨l1, x0, x1, -, -⟩ := (PX.out.below hb).facts; obtain ⟨l2, y0, y1, -, -⟩ := (PY.out.below hb).facts)
    | (go_at_call 89; refine (HS.out _ ry).mono ?_; rintro e wq ⟨rfl, hbq⟩; have rx := rx.below hbq; have ry := ry.below hbq; obtain ⟨l1, x0, x1, -, -⟩ := ((PX.out.below hb).below hbq).facts; obtain ⟨l2, y0, y1, -, -⟩ := ((PY.out.below hb).below hbq).facts)
    | (go_at_call 90; refine (H1.out _ rx ry).mono ?_; rintro e w2 ⟨v1, v2, rfl, hI1, hI2, hb2⟩; obtain ⟨b1, A1, m1, c1, rfl⟩ := hI1.shape; obtain ⟨b2, A2, m2, c2, rfl⟩ := hI2.shape; have pq := ((PQ.out.below hb).below hbq).below hb2; have pr := ((PR.out.below hb).below hbq).below hb2; obtain ⟨l3, q0, q1, f0, f1⟩ := pq.facts; obtain ⟨l4, r0, r1, g0, g1⟩ := pr.facts))
  have hs1 := hb.size
  have hsq := hbq.size
  have hs2 := hb2.size
  have q3 := (pq.alloc (.cells #[.bool b1, .slice A1 m1 c1] 24)).alloc (.cells #[.bool b2, .slice A2 m2 c2] 24)
  have r3 := (pr.alloc (.cells #[.bool b1, .slice A1 m1 c1] 24)).alloc (.cells #[.bool b2, .slice A2 m2 c2] 24)
  have q7 := (Pair.new w2 24 (.bool b1) (.slice A1 m1 c1)).alloc (.cells #[.bool b2, .slice A2 m2 c2] 24)
  have r8 := Pair.new (w2.alloc (.cells #[.bool b1, .slice A1 m1 c1] 24)) 24 (.bool b2) (.slice A2 m2 c2)
  have i1 := (hI1.alloc (.cells #[.bool b1, .slice A1 m1 c1] 24)).alloc (.cells #[.bool b2, .slice A2 m2 c2] 24)
  have i2 := (hI2.alloc (.cells #[.bool b1, .slice A1 m1 c1] 24)).alloc (.cells #[.bool b2, .slice A2 m2 c2] 24)
  have b3 := ((belowTo (belowTo (belowTo B0.out hb) hbq) hb2).alloc (by omega) (.cells #[.bool b1, .slice A1 m1 c1] 24)).alloc (by simp; omega) (.cells #[.bool b2, .slice A2 m2 c2] 24)
  simp only [World.size_alloc] at r8
  obtain ⟨W3, E3⟩ : ∃ W3, W3 = (w2.alloc (.cells #[.bool b1, .slice A1 m1 c1] 24)).alloc (.cells #[.bool b2, .slice A2 m2 c2] 24) := ⟨_, rfl⟩
  rw [← E3] at q3 r3 q7 r8 i1 i2 b3 ⊢
  have hsz3 : w.heap.size + 4 ≤ w1.heap.size := by omega
  have I41 := Lib.hid ((i1.pair (g := w.heap.size + 1 + 1) (a := .bool b1) (b := .slice A1 m1 c1) (by omega)).pair (g := w.heap.size + 1 + 1 + 1) (a := .bool b2) (b := .slice A2 m2 c2) (by omega) |>.base (b' := w.heap.size) (by omega))
  have I42 := Lib.hid ((i2.pair (g := w.heap.size + 1 + 1) (a := .bool b1) (b := .slice A1 m1 c1) (by omega)).pair (g := w.heap.size + 1 + 1 + 1) (a := .bool b2) (b := .slice A2 m2 c2) (by omega) |>.base (b' := w.heap.size) (by omega))
  have Q4 := Lib.hid ((q3.store (.bool b1) (.slice A1 m1 c1)).far (show w.heap.size + 1 + 1 ≠ w.heap.size + 1 + 1 + 1 by omega) (.bool b2) (.slice A2 m2 c2))
  have R4 := Lib.hid ((r3.far (show w.heap.size + 1 + 1 + 1 ≠ w.heap.size + 1 + 1 by omega) (.bool b1) (.slice A1 m1 c1)).store (.bool b2) (.slice A2 m2 c2))
  have B4 := Lib.hid (below2 (below2 b3 (show w.heap.size ≤ w.heap.size + 1 + 1 by omega) (.bool b1) (.slice A1 m1 c1)) (show w.heap.size ≤ w.heap.size + 1 + 1 + 1 by omega) (.bool b2) (.slice A2 m2 c2))
  obtain ⟨l3, q0, q1, f0, f1⟩ := q3.facts
  obtain ⟨l4, r0, r1, g0, g1⟩ := r3.facts
  obtain ⟨l5, q5, q6, -, -⟩ := q7.facts
  obtain ⟨l6, r5, r6, -, -⟩ := r8.facts
  clear E3 q3 r3 i1 i2 hI1 hI2 pq pr q7 r8 hbq b3 hb hb2 B0 PX PY PQ PR H0 H1 RX RY
  go_region
  all_goals (go_wp2_with fail)
  all_goals
    obtain ⟨_, k0, k1, _, _⟩ := Q4.out.facts
    obtain ⟨_, k2, k3, _, _⟩ := R4.out.facts
    exact bodyPost_ret (by simp [results, Tryz.results21, go_sem, k0, k1, k2, k3]) rfl ⟨_, _, rfl, I41.out.drew, I42.out.drew, B4.out.drew⟩

set_option maxRecDepth 100000 in
set_option maxHeartbeats 2000000 in
theorem ref_QuoRem_bad (n1 n2 : Bool) (A B : Option Addr) (c d : Nat) (xs ys : List Nat) (o : (okI n1 xs && okI n2 ys) = false) (w : World) (h : Raw w A c xs) (g : Raw w B d ys) :
    Calls Tryz.prog 21 #[.agg #[.bool n1, .slice A xs.length c], .agg #[.bool n2, .slice B ys.length d]] w (RetBoth3 w.heap.size w 0 0 1) := by
  have C0 := fun (V : World) (h : Raw V A c xs) (g : Raw V B d ys) => ref_fine_any n1 n2 A B c d xs ys V h g
  rw [o] at C0
  have H0 := Lib.hid C0
  clear C0 o
  have px := (((Pair.new w 24 (.bool n1) (.slice A xs.length c)).alloc (.cells #[.bool n2, .slice B ys.length d] 24)).alloc (.cells #[.bool false, .slice none 0 0] 24)).alloc (.cells #[.bool false, .slice none 0 0] 24)
  have py := ((Pair.new (w.alloc (.cells #[.bool n1, .slice A xs.length c] 24)) 24 (.bool n2) (.slice B ys.length d)).alloc (.cells #[.bool false, .slice none 0 0] 24)).alloc (.cells #[.bool false, .slice none 0 0] 24)
  have pq := (Pair.new ((w.alloc (.cells #[.bool n1, .slice A xs.length c] 24)).alloc (.cells #[.bool n2, .slice B ys.length d] 24)) 24 (.bool false) (.slice none 0 0)).alloc (.cells #[.bool false, .slice none 0 0] 24)
  have pr := Pair.new (((w.alloc (.cells #[.bool n1, .slice A xs.length c] 24)).alloc (.cells #[.bool n2, .slice B ys.length d] 24)).alloc (.cells #[.bool false, .slice none 0 0] 24)) 24 (.bool false) (.slice none 0 0)
  have rx := (((h.alloc (.cells #[.bool n1, .slice A xs.length c] 24)).alloc (.cells #[.bool n2, .slice B ys.length d] 24)).alloc (.cells #[.bool false, .slice none 0 0] 24)).alloc (.cells #[.bool false, .slice none 0 0] 24)
  have ry := (((g.alloc (.cells #[.bool n1, .slice A xs.length c] 24)).alloc (.cells #[.bool n2, .slice B ys.length d] 24)).alloc (.cells #[.bool false, .slice none 0 0] 24)).alloc (.cells #[.bool false, .slice none 0 0] 24)
  have b0 := (((Below.refl w.heap.size w).alloc (Nat.le_refl _) (.cells #[.bool n1, .slice A xs.length c] 24)).alloc (by simp) (.cells #[.bool n2, .slice B ys.length d] 24)).alloc (by simp; omega) (.cells #[.bool false, .slice none 0 0] 24)
  have b0 := b0.alloc (by simp; omega) (.cells #[.bool false, .slice none 0 0] 24)
  simp only [World.size_alloc] at py pq pr
  clear h g
  go_enter Tryz.func21, Tryz.ntmps21
  go_wp2_with fail
  obtain ⟨W, E⟩ : ∃ W, W = (((w.alloc (.cells #[.bool n1, .slice A xs.length c] 24)).alloc (.cells #[.bool n2, .slice B ys.length d] 24)).alloc (.cells #[.bool false, .slice none 0 0] 24)).alloc (.cells #[.bool false, .slice none 0 0] 24) := ⟨_, rfl⟩
  rw [← E] at px py pq pr b0 rx ry ⊢
  have hsz : W.heap.size = w.heap.size + 4 := by rw [E]; simp
  clear E
  have PX := Lib.hid px
  have PY := Lib.hid py
  have PQ := Lib.hid pq
  have PR := Lib.hid pr
  have B0 := Lib.hid b0
  have RX := Lib.hid rx
  have RY := Lib.hid ry
  obtain ⟨l1, x0, x1, -, -⟩ := px.facts
  obtain ⟨l2, y0, y1, -, -⟩ := py.facts
  clear px py pq pr rx ry b0
  go_wp2_with (first
    | (go_at_call 33; with_reducible refine (H0.out _ RX.out RY.out).mono ?_; rintro e w1 ⟨rfl, hb⟩; have pq := PQ.out.below hb; have pr := PR.out.below hb; obtain ⟨l1, x0, x1, -, -⟩ := (PX.out.below hb).facts; obtain ⟨l2, y0, y1, -, -⟩ := (PY.out.below hb).facts; obtain ⟨l3, q0, q1, f0, f1⟩ := pq.facts; obtain ⟨l4, r0, r1, g0, g1⟩ := pr.facts))
  have Q4 := Lib.hid ((pq.store (.bool false) (.slice none 0 0)).far (show w.heap.size + 1 + 1 ≠ w.heap.size + 1 + 1 + 1 by omega) (.bool false) (.slice none 0 0))
  have R4 := Lib.hid ((pr.far (show w.heap.size + 1 + 1 + 1 ≠ w.heap.size + 1 + 1 by omega) (.bool false) (.slice none 0 0)).store (.bool false) (.slice none 0 0))
  have B4 := Lib.hid (below2 (below2 (belowTo B0.out hb) (show w.heap.size ≤ w.heap.size + 1 + 1 by omega) (.bool false) (.slice none 0 0)) (show w.heap.size ≤ w.heap.size + 1 + 1 + 1 by omega) (.bool false) (.slice none 0 0))
  obtain ⟨_, k0, k1, _, _⟩ := Q4.out.facts
  obtain ⟨_, k2, k3, _, _⟩ := R4.out.facts
  exact bodyPost_ret (by simp [results, Tryz.results21, go_sem, k0, k1, k2, k3]) rfl ⟨_, _, rfl, IntOwn.nought _ _, IntOwn.nought _ _, B4.out⟩

set_option maxRecDepth 100000 in
set_option maxHeartbeats 2000000 in
theorem ref_QuoRem_nought (n1 n2 : Bool) (A B : Option Addr) (c d : Nat) (xs ys : List Nat) (o1 : (okI n1 xs && okI n2 ys) = true) (he : ys = []) (w : World) (h : Raw w A c xs) (g : Raw w B d ys) :
    Calls Tryz.prog 21 #[.agg #[.bool n1, .slice A xs.length c], .agg #[.bool n2, .slice B ys.length d]] w (RetBoth3 w.heap.size w 0 0 3) := by
  have C0 := fun (V : World) (h : Raw V A c xs) (g : Raw V B d ys) => ref_fine_any n1 n2 A B c d xs ys V h g
  rw [o1] at C0
  have H0 := Lib.hid C0
  have hlen : ((ys.length : Int) == 0) = true := by subst he; rfl
  have HS := Lib.hid (fun (V : World) (g : Raw V B d ys) => show Calls Tryz.prog 89 #[.agg #[.bool n2, .slice B ys.length d]] V fun e w' => e = .returned (.int .i64 0) ∧ Below V.heap.size V w' from by
    have := ref_Sign_any n2 B d ys V g
    subst he
    exact this)
  clear C0 o1 he
  have px := (((Pair.new w 24 (.bool n1) (.slice A xs.length c)).alloc (.cells #[.bool n2, .slice B ys.length d] 24)).alloc (.cells #[.bool false, .slice none 0 0] 24)).alloc (.cells #[.bool false, .slice none 0 0] 24)
  have py := ((Pair.new (w.alloc (.cells #[.bool n1, .slice A xs.length c] 24)) 24 (.bool n2) (.slice B ys.length d)).alloc (.cells #[.bool false, .slice none 0 0] 24)).alloc (.cells #[.bool false, .slice none 0 0] 24)
  have pq := (Pair.new ((w.alloc (.cells #[.bool n1, .slice A xs.length c] 24)).alloc (.cells #[.bool n2, .slice B ys.length d] 24)) 24 (.bool false) (.slice none 0 0)).alloc (.cells #[.bool false, .slice none 0 0] 24)
  have pr := Pair.new (((w.alloc (.cells #[.bool n1, .slice A xs.length c] 24)).alloc (.cells #[.bool n2, .slice B ys.length d] 24)).alloc (.cells #[.bool false, .slice none 0 0] 24)) 24 (.bool false) (.slice none 0 0)
  have rx := (((h.alloc (.cells #[.bool n1, .slice A xs.length c] 24)).alloc (.cells #[.bool n2, .slice B ys.length d] 24)).alloc (.cells #[.bool false, .slice none 0 0] 24)).alloc (.cells #[.bool false, .slice none 0 0] 24)
  have ry := (((g.alloc (.cells #[.bool n1, .slice A xs.length c] 24)).alloc (.cells #[.bool n2, .slice B ys.length d] 24)).alloc (.cells #[.bool false, .slice none 0 0] 24)).alloc (.cells #[.bool false, .slice none 0 0] 24)
  have b0 := (((Below.refl w.heap.size w).alloc (Nat.le_refl _) (.cells #[.bool n1, .slice A xs.length c] 24)).alloc (by simp) (.cells #[.bool n2, .slice B ys.length d] 24)).alloc (by simp; omega) (.cells #[.bool false, .slice none 0 0] 24)
  have b0 := b0.alloc (by simp; omega) (.cells #[.bool false, .slice none 0 0] 24)
  simp only [World.size_alloc] at py pq pr
  clear h g
  go_enter Tryz.func21, Tryz.ntmps21
  go_wp2_with fail
  obtain ⟨W, E⟩ : ∃ W, W = (((w.alloc (.cells #[.bool n1, .slice A xs.length c] 24)).alloc (.cells #[.bool n2, .slice B ys.length d] 24)).alloc (.cells #[.bool false, .slice none 0 0] 24)).alloc (.cells #[.bool false, .slice none 0 0] 24) := ⟨_, rfl⟩
  rw [← E] at px py pq pr b0 rx ry ⊢
  have hsz : W.heap.size = w.heap.size + 4 := by rw [E]; simp
  clear E
  have PX := Lib.hid px
  have PY := Lib.hid py
  have PQ := Lib.hid pq
  have PR := Lib.hid pr
  have B0 := Lib.hid b0
  have RX := Lib.hid rx
  have RY := Lib.hid ry
  obtain ⟨l1, x0, x1, -, -⟩ := px.facts
  obtain ⟨l2, y0, y1, -, -⟩ := py.facts
  clear px py pq pr rx ry b0
  go_wp2_with (first
    | (go_at_call 33; with_reducible refine (H0.out _ RX.out RY.out).mono ?_; rintro e w1 ⟨rfl, hb⟩; have pq := PQ.out.below hb; have pr := PR.out.below hb; obtain ⟨l1, x0, x1, -, -⟩ := (PX.out.below hb).facts; obtain ⟨l2, y0, y1, -, -⟩ := (PY.out.below hb).facts; obtain ⟨l3, q0, q1, f0, f1⟩ := pq.facts; obtain ⟨l4, r0, r1, g0, g1⟩ := pr.facts)
    | (go_at_call 89; refine (HS.out _ (RY.out.below hb)).mono ?_; rintro e wq ⟨rfl, hbq⟩; have pq := pq.below hbq; have pr := pr.below hbq; have hb := belowTo hb hbq; obtain ⟨l1, x0, x1, -, -⟩ := (PX.out.below hb).facts; obtain ⟨l2, y0, y1, -, -⟩ := (PY.out.below hb).facts; obtain ⟨l3, q0, q1, f0, f1⟩ := pq.facts; obtain ⟨l4, r0, r1, g0, g1⟩ := pr.facts))
  have Q4 := Lib.hid ((pq.store (.bool false) (.slice none 0 0)).far (show w.heap.size + 1 + 1 ≠ w.heap.size + 1 + 1 + 1 by omega) (.bool false) (.slice none 0 0))
  have R4 := Lib.hid ((pr.far (show w.heap.size + 1 + 1 + 1 ≠ w.heap.size + 1 + 1 by omega) (.bool false) (.slice none 0 0)).store (.bool false) (.slice none 0 0))
  have B4 := Lib.hid (below2 (below2 (belowTo B0.out hb) (show w.heap.size ≤ w.heap.size + 1 + 1 by omega) (.bool false) (.slice none 0 0)) (show w.heap.size ≤ w.heap.size + 1 + 1 + 1 by omega) (.bool false) (.slice none 0 0))
  obtain ⟨_, k0, k1, _, _⟩ := Q4.out.facts
  obtain ⟨_, k2, k3, _, _⟩ := R4.out.facts
  exact bodyPost_ret (by simp [results, Tryz.results21, go_sem, k0, k1, k2, k3]) rfl ⟨_, _, rfl, IntOwn.nought _ _, IntOwn.nought _ _, B4.out⟩

theorem ref_QuoRem (n1 n2 : Bool) (A B : Option Addr) (c d : Nat) (xs ys : List Nat) (w : World) (h : Raw w A c xs) (g : Raw w B d ys) :
    Calls Tryz.prog 21 #[.agg #[.bool n1, .slice A xs.length c], .agg #[.bool n2, .slice B ys.length d]] w (RetBoth3 w.heap.size w (quoV n1 xs n2 ys) (remV n1 xs n2 ys) (quoE n1 xs n2 ys)) := by
  unfold quoV remV quoE
  by_cases o : (okI n1 xs && okI n2 ys) = true
  · rw [if_pos o, if_pos o, if_pos o]
    have o' := Bool.and_eq_true_iff.1 o
    by_cases hy : ys.length = 0
    · rw [if_pos hy, if_pos hy, if_pos hy]
      exact ref_QuoRem_nought n1 n2 A B c d xs ys o (List.eq_nil_of_length_eq_zero hy) w h g
    · rw [if_neg hy, if_neg hy, if_neg hy]
      exact ref_QuoRem_ok n1 n2 A B c d xs ys o'.1 o'.2 (fun e => hy (by rw [e]; rfl)) _ _ (Lib.hid rfl) (Lib.hid rfl) w h g
  · rw [if_neg o, if_neg o, if_neg o]
    exact ref_QuoRem_bad n1 n2 A B c d xs ys (by simpa using o) w h g

set_option maxRecDepth 100000 in
set_option maxHeartbeats 2000000 in
theorem ref_GCD_ok (n1 n2 : Bool) (A B : Option Addr) (c d : Nat) (xs ys : List Nat) (o1 : okI n1 xs = true) (o2 : okI n2 ys = true) (z : Int) (HZ : Hid (z = ((Nat.gcd (val xs) (val ys) : Nat) : Int))) (w : World) (h : Raw w A c xs) (g : Raw w B d ys) :
    Calls Tryz.prog 22 #[.agg #[.bool n1, .slice A xs.length c], .agg #[.bool n2, .slice B ys.length d]] w (RetAt2 w z 0) := by
  have hcx := (okI_true.1 o1).2.1
  have hcy := (okI_true.1 o2).2.1
  have hlx := (okI_true.1 o1).1
  have hly := (okI_true.1 o2).1
  have C0 := fun (V : World) (h : Raw V A c xs) (g : Raw V B d ys) => ref_fine_any n1 n2 A B c d xs ys V h g
  rw [o1, o2, Bool.and_self] at C0
  have H0 := Lib.hid C0
  have H1 := Lib.hid (fun (V : World) (h : Raw V A c xs) (g : Raw V B d ys) => show Calls Tryz.prog 91 #[.agg #[.bool n1, .slice A xs.length c], .agg #[.bool n2, .slice B ys.length d]] V (RetOf A B c d xs ys V z) from by rw [HZ.out]; exact ref_Common n1 n2 A B c d xs ys hcx hcy (by omega) (by omega) V h g)
  have HH := Lib.hid (And.intro h g)
  clear C0 o1 o2 hcx hcy hlx hly HZ
  have px := (((Pair.new w 24 (.bool n1) (.slice A xs.length c)).alloc (.cells #[.bool n2, .slice B ys.length d] 24)).alloc (.cells #[.bool false, .slice none 0 0] 24))
  have py := ((Pair.new (w.alloc (.cells #[.bool n1, .slice A xs.length c] 24)) 24 (.bool n2) (.slice B ys.length d)).alloc (.cells #[.bool false, .slice none 0 0] 24))
  have pq := (Pair.new ((w.alloc (.cells #[.bool n1, .slice A xs.length c] 24)).alloc (.cells #[.bool n2, .slice B ys.length d] 24)) 24 (.bool false) (.slice none 0 0))
  have rx := (((h.alloc (.cells #[.bool n1, .slice A xs.length c] 24)).alloc (.cells #[.bool n2, .slice B ys.length d] 24)).alloc (.cells #[.bool false, .slice none 0 0] 24))
  have ry := (((g.alloc (.cells #[.bool n1, .slice A xs.length c] 24)).alloc (.cells #[.bool n2, .slice B ys.length d] 24)).alloc (.cells #[.bool false, .slice none 0 0] 24))
  have b0 := (((Below.refl w.heap.size w).alloc (Nat.le_refl _) (.cells #[.bool n1, .slice A xs.length c] 24)).alloc (by simp) (.cells #[.bool n2, .slice B ys.length d] 24)).alloc (by simp; omega) (.cells #[.bool false, .slice none 0 0] 24)
  simp only [World.size_alloc] at py pq
  clear h g
  go_enter Tryz.func22, Tryz.ntmps22
  go_wp2_with fail
  obtain ⟨W, E⟩ : ∃ W, W = (((w.alloc (.cells #[.bool n1, .slice A xs.length c] 24)).alloc (.cells #[.bool n2, .slice B ys.length d] 24)).alloc (.cells #[.bool false, .slice none 0 0] 24)) := ⟨_, rfl⟩
  rw [← E] at px py pq b0 rx ry ⊢
  have hsz : W.heap.size = w.heap.size + 3 := by rw [E]; simp
  clear E
  have PX := Lib.hid px
  have PY := Lib.hid py
  have PQ := Lib.hid pq
  have B0 := Lib.hid b0
  have RX := Lib.hid rx
  have RY := Lib.hid ry
  obtain ⟨l1, x0, x1, -, -⟩ := px.facts
  obtain ⟨l2, y0, y1, -, -⟩ := py.facts
  clear px py pq rx ry b0
  go_wp2_with (first
    | (go_at_call 33; with_reducible refine (H0.out _ RX.out RY.out).mono ?_; rintro e w1 ⟨rfl, hb⟩; have rx := RX.out.below hb; have ry := RY.out.below hb; obtain ⟨l1, x0, x1, -, -⟩ := (PX.out.below hb).facts; obtain ⟨l2, y0, y1, -, -⟩ := (PY.out.below hb).facts)
    | (go_at_call 91; refine (H1.out _ rx ry).mono ?_; rintro e w2 ⟨v, rfl, hI, hb2⟩; have hsh := of_shape hI; obtain ⟨b1, A1, m1, c1, rfl⟩ := hsh; have pq := (PQ.out.below hb).below hb2; obtain ⟨l3, q0, q1, f0, f1⟩ := pq.facts))
  have hs1 := hb.size
  have hq := pq.store (.bool b1) (.slice A1 m1 c1)
  obtain ⟨_, k0, k1, _, _⟩ := hq.facts
  have hbf := below2 (belowTo (belowTo B0.out hb) hb2) (show w.heap.size ≤ w.heap.size + 1 + 1 by omega) (.bool b1) (.slice A1 m1 c1)
  have hfin : IntAt ((w2.setCell ⟨w.heap.size + 1 + 1, 0, none⟩ (.bool b1)).setCell ⟨w.heap.size + 1 + 1, 1, none⟩ (.slice A1 m1 c1)) (.agg #[.bool b1, .slice A1 m1 c1]) z := by
    rcases hI with hI | ⟨h1, h2⟩ | ⟨h1, h2⟩
    · exact (hI.pair (by omega)).at_
    · rw [h1, h2]; exact IntAt.sv (HH.out.1.below hbf)
    · rw [h1, h2]; exact IntAt.sv (HH.out.2.below hbf)
  exact bodyPost_ret (by simp [results, Tryz.results22, go_sem, k0, k1]) rfl ⟨_, rfl, hfin, hbf⟩

set_option maxRecDepth 100000 in
set_option maxHeartbeats 1000000 in
theorem ref_GCD_bad (n1 n2 : Bool) (A B : Option Addr) (c d : Nat) (xs ys : List Nat) (o : (okI n1 xs && okI n2 ys) = false) (w : World) (h : Raw w A c xs) (g : Raw w B d ys) :
    Calls Tryz.prog 22 #[.agg #[.bool n1, .slice A xs.length c], .agg #[.bool n2, .slice B ys.length d]] w (RetAt2 w 0 1) := by
  have C0 := fun (V : World) (h : Raw V A c xs) (g : Raw V B d ys) => ref_fine_any n1 n2 A B c d xs ys V h g
  rw [o] at C0
  have H0 := Lib.hid C0
  clear C0 o
  have px := (((Pair.new w 24 (.bool n1) (.slice A xs.length c)).alloc (.cells #[.bool n2, .slice B ys.length d] 24)).alloc (.cells #[.bool false, .slice none 0 0] 24))
  have py := ((Pair.new (w.alloc (.cells #[.bool n1, .slice A xs.length c] 24)) 24 (.bool n2) (.slice B ys.length d)).alloc (.cells #[.bool false, .slice none 0 0] 24))
  have pq := (Pair.new ((w.alloc (.cells #[.bool n1, .slice A xs.length c] 24)).alloc (.cells #[.bool n2, .slice B ys.length d] 24)) 24 (.bool false) (.slice none 0 0))
  have rx := (((h.alloc (.cells #[.bool n1, .slice A xs.length c] 24)).alloc (.cells #[.bool n2, .slice B ys.length d] 24)).alloc (.cells #[.bool false, .slice none 0 0] 24))
  have ry := (((g.alloc (.cells #[.bool n1, .slice A xs.length c] 24)).alloc (.cells #[.bool n2, .slice B ys.length d] 24)).alloc (.cells #[.bool false, .slice none 0 0] 24))
  have b0 := (((Below.refl w.heap.size w).alloc (Nat.le_refl _) (.cells #[.bool n1, .slice A xs.length c] 24)).alloc (by simp) (.cells #[.bool n2, .slice B ys.length d] 24)).alloc (by simp; omega) (.cells #[.bool false, .slice none 0 0] 24)
  simp only [World.size_alloc] at py pq
  clear h g
  go_enter Tryz.func22, Tryz.ntmps22
  go_wp2_with fail
  obtain ⟨W, E⟩ : ∃ W, W = (((w.alloc (.cells #[.bool n1, .slice A xs.length c] 24)).alloc (.cells #[.bool n2, .slice B ys.length d] 24)).alloc (.cells #[.bool false, .slice none 0 0] 24)) := ⟨_, rfl⟩
  rw [← E] at px py pq b0 rx ry ⊢
  have hsz : W.heap.size = w.heap.size + 3 := by rw [E]; simp
  clear E
  have PX := Lib.hid px
  have PY := Lib.hid py
  have PQ := Lib.hid pq
  have B0 := Lib.hid b0
  have RX := Lib.hid rx
  have RY := Lib.hid ry
  obtain ⟨l1, x0, x1, -, -⟩ := px.facts
  obtain ⟨l2, y0, y1, -, -⟩ := py.facts
  clear px py pq rx ry b0
  go_wp2_with (first | (go_at_call 33; with_reducible refine (H0.out _ RX.out RY.out).mono ?_; rintro e w1 ⟨rfl, hb⟩; have pq := PQ.out.below hb; obtain ⟨l3, z0, z1, f0, f1⟩ := pq.facts))
  have hq := pq.store (.bool false) (.slice none 0 0)
  obtain ⟨_, k0, k1, _, _⟩ := hq.facts
  exact bodyPost_ret (by simp [results, Tryz.results22, go_sem, k0, k1]) rfl ⟨_, rfl, IntAt.nought _, below2 (belowTo B0.out hb) (by omega) _ _⟩

theorem ref_GCD (n1 n2 : Bool) (A B : Option Addr) (c d : Nat) (xs ys : List Nat) (w : World) (h : Raw w A c xs) (g : Raw w B d ys) :
    Calls Tryz.prog 22 #[.agg #[.bool n1, .slice A xs.length c], .agg #[.bool n2, .slice B ys.length d]] w (RetAt2 w (gcdV n1 xs n2 ys) (gcdE n1 xs n2 ys)) := by
  unfold gcdV gcdE
  by_cases o : (okI n1 xs && okI n2 ys) = true
  · rw [if_pos o, if_pos o]
    have o' := Bool.and_eq_true_iff.1 o
    exact ref_GCD_ok n1 n2 A B c d xs ys o'.1 o'.2 _ (Lib.hid rfl) w h g
  · rw [if_neg o, if_neg o]
    exact ref_GCD_bad n1 n2 A B c d xs ys (by simpa using o) w h g
end Go.Proofs.YtpcdiijmhllejaaGreatDoor

/- How long numbers get. -/
namespace Go.Proofs.YtpcdiijmhllejaaGreatDoor

/-- How many limbs. -/
def lz (z : Int) : Nat := (natL z.natAbs).length
theorem lz_le {z : Int} {k : Nat} : lz z ≤ k ↔ z.natAbs < 4294967296 ^ k := natL_length_le
theorem lz_lt (z : Int) : z.natAbs < 4294967296 ^ lz z := lz_le.1 (Nat.le_refl _)
theorem lz_mono {x y : Int} (h : x.natAbs ≤ y.natAbs) : lz x ≤ lz y := lz_le.2 (Nat.lt_of_le_of_lt h (lz_lt y))
theorem lz_mul (x y : Int) : lz (x * y) ≤ lz x + lz y := by
  rw [lz_le, Int.natAbs_mul, Nat.pow_add]
  have h1 := lz_lt x
  have h2 := lz_lt y
  exact Nat.mul_lt_mul'' h1 h2
theorem lz_add (x y : Int) : lz (x + y) ≤ max (lz x) (lz y) + 1 := by
  rw [lz_le, Nat.pow_succ]
  have h1 : x.natAbs < 4294967296 ^ max (lz x) (lz y) := lz_le.1 (Nat.le_max_left _ _)
  have h2 : y.natAbs < 4294967296 ^ max (lz x) (lz y) := lz_le.1 (Nat.le_max_right _ _)
  have h3 := Int.natAbs_add_le x y
  generalize 4294967296 ^ max (lz x) (lz y) = p at *
  omega
theorem lz_neg (y : Int) : lz (-y) = lz y := by unfold lz; rw [Int.natAbs_neg]
theorem lz_sub (x y : Int) : lz (x - y) ≤ max (lz x) (lz y) + 1 := by
  have := lz_add x (-y)
  rw [lz_neg] at this
  exact this
theorem lz_small {z : Int} (h : z.natAbs < 18446744073709551616) : lz z ≤ 2 := lz_le.2 (by simpa using h)
theorem lz_zero : lz 0 = 0 := by decide
end Go.Proofs.YtpcdiijmhllejaaGreatDoor

/- Signs and order of numbers: plain. -/
namespace Go.Proofs.YtpcdiijmhllejaaGreatDoor

theorem sgn_z (x : Int) : sgnI (decide (x < 0)) (natL x.natAbs) = x.sign := by
  unfold sgnI
  by_cases h0 : (natL x.natAbs).length = 0
  · rw [if_pos h0]
    have := natL_eq_nil.1 (List.eq_nil_of_length_eq_zero h0)
    have : x = 0 := by omega
    subst this; rfl
  · rw [if_neg h0]
    have hn : x ≠ 0 := fun e => h0 (by rw [e]; decide)
    by_cases hl : x < 0
    · rw [if_pos (decide_eq_true hl), Int.sign_eq_neg_one_of_neg hl]
    · rw [if_neg (by simpa using hl), Int.sign_eq_one_of_pos (by omega)]
theorem sign_cases (x : Int) : (x < 0 ∧ x.sign = -1) ∨ (x = 0 ∧ x.sign = 0) ∨ (0 < x ∧ x.sign = 1) := by
  rcases Int.lt_trichotomy x 0 with h | h | h
  · exact .inl ⟨h, Int.sign_eq_neg_one_of_neg h⟩
  · exact .inr (.inl ⟨h, by rw [h]; rfl⟩)
  · exact .inr (.inr ⟨h, Int.sign_eq_one_of_pos h⟩)
theorem sign_lt {x y : Int} (h : x.sign < y.sign) : x < y := by
  have h1 := sign_cases x
  have h2 := sign_cases y
  omega
theorem sign_neg (x : Int) : x.sign = -1 ∧ decide (x < 0) = true ∨ 0 ≤ x.sign ∧ decide (x < 0) = false := by
  rcases sign_cases x with ⟨h, e⟩ | ⟨h, e⟩ | ⟨h, e⟩
  · exact .inl ⟨e, decide_eq_true h⟩
  · exact .inr ⟨by omega, decide_eq_false (by omega)⟩
  · exact .inr ⟨by omega, decide_eq_false (by omega)⟩
theorem cmp_like {x y : Int} (h : x.sign = y.sign) : cmpz x y = if decide (x < 0) = true then cmpv y.natAbs x.natAbs else cmpv x.natAbs y.natAbs := by
  have h1 := sign_cases x
  have h2 := sign_cases y
  unfold cmpz cmpv
  by_cases hx : x < 0
  · rw [show decide (x < 0) = true from decide_eq_true hx, if_pos (rfl : true = true)]
    split <;> (try split) <;> (try split) <;> (try split) <;> omega
  · rw [show decide (x < 0) = false from decide_eq_false hx, if_neg Bool.false_ne_true]
    split <;> (try split) <;> (try split) <;> (try split) <;> omega
end Go.Proofs.YtpcdiijmhllejaaGreatDoor
