/- Several texts in one: DivOps, CmpW, OfW. -/
import Derived.Test.YtbdliabfdplohaaDoorBw22
import Derived.Test.YtbdliabfdplohaaDoorBwHd
import Derived.Test.YtbdliabfdplohaaDoorBw16
import Derived.Test.YtbdliabfdplohaaDoorBw14
import Derived.Test.YtbdliabfdplohaaDoorBw03
set_option maxRecDepth 100000
set_option maxHeartbeats 8000000
/- QuoRem and GCD of package whole and of the references. (Written by wip/exact/gendivops.py.) -/
namespace Go.Proofs.YtbdliabfdplohaaDoor
open Go.RowKit

def RetTwo3 (base : Nat) (w : World) (z1 z2 k : Int) (e : Ending) (w' : World) : Prop := ∃ v1 v2, e = .returned (.tuple #[v1, v2, .int .i64 k]) ∧ Ints2 w' base v1 z1 v2 z2 ∧ Below w.heap.size w w'
def RetBoth3 (base : Nat) (w : World) (z1 z2 k : Int) (e : Ending) (w' : World) : Prop := ∃ v1 v2, e = .returned (.tuple #[v1, v2, .int .i64 k]) ∧ IntOwn w' base v1 z1 ∧ IntOwn w' base v2 z2 ∧ Below w.heap.size w w'
def RetAt2 (w : World) (z k : Int) (e : Ending) (w' : World) : Prop := ∃ v, e = .returned (.tuple #[v, .int .i64 k]) ∧ IntAt w' v z ∧ Below w.heap.size w w'
theorem Ints2.drew {w : World} {base : Nat} {v1 v2 : Value} {z1 z2 : Int} (h : Ints2 w base v1 z1 v2 z2) : Ints2 w.drew base v1 z1 v2 z2 := h.below (Below.refl _ _).drew
theorem IntOwn.drew {w : World} {base : Nat} {v : Value} {x : Int} (h : IntOwn w base v x) : IntOwn w.drew base v x := h.below (Below.refl _ _).drew
theorem Ints2.nought (w : World) (base : Nat) : Ints2 w base (.agg #[.bool false, .slice none 0 0]) 0 (.agg #[.bool false, .slice none 0 0]) 0 :=
  ⟨IntOwn.nought _ _, IntOwn.nought _ _, fun g h => by cases h⟩
def quoV (n1 : Bool) (xs : List Nat) (n2 : Bool) (ys : List Nat) : Int := if okI n1 xs && okI n2 ys then (if ys.length = 0 then 0 else (ival n1 xs).tdiv (ival n2 ys)) else 0
def remV (n1 : Bool) (xs : List Nat) (n2 : Bool) (ys : List Nat) : Int := if okI n1 xs && okI n2 ys then (if ys.length = 0 then 0 else (ival n1 xs).tmod (ival n2 ys)) else 0
def quoE (n1 : Bool) (xs : List Nat) (n2 : Bool) (ys : List Nat) : Int := if okI n1 xs && okI n2 ys then (if ys.length = 0 then 3 else 0) else 1
def gcdV (n1 : Bool) (xs : List Nat) (n2 : Bool) (ys : List Nat) : Int := if okI n1 xs && okI n2 ys then ((Nat.gcd (val xs) (val ys) : Nat) : Int) else 0
def gcdE (n1 : Bool) (xs : List Nat) (n2 : Bool) (ys : List Nat) : Int := if okI n1 xs && okI n2 ys then 0 else 1

def RetOf (A B : Option Addr) (c d : Nat) (xs ys : List Nat) (w : World) (z : Int) (e : Ending) (w' : World) : Prop := ∃ v, e = .returned v ∧ (IntOwn w' w.heap.size v z ∨ (v = sv false A c xs ∧ z = ival false xs) ∨ (v = sv false B d ys ∧ z = ival false ys)) ∧ Below w.heap.size w w'
theorem whole_QuoRem_ok (n1 n2 : Bool) (A B : Option Addr) (c d : Nat) (xs ys : List Nat) (o1 : okI n1 xs = true) (o2 : okI n2 ys = true) (hne : ys ≠ []) (z1 z2 : Int) (HZ1 : Hid (z1 = (ival n1 xs).tdiv (ival n2 ys))) (HZ2 : Hid (z2 = (ival n1 xs).tmod (ival n2 ys))) (w : World) (h : Raw w A c xs) (g : Raw w B d ys) :
    Calls Tryd.prog 27 #[.agg #[.bool n1, .slice A xs.length c], .agg #[.bool n2, .slice B ys.length d]] w (RetTwo3 w.heap.size w z1 z2 0) := by
  have hlen : ((ys.length : Int) == 0) = false := by
    have : ys.length ≠ 0 := fun e => hne (List.eq_nil_of_length_eq_zero e)
    simp; omega
  have hcx := (okI_true.1 o1).2.1
  have hcy := (okI_true.1 o2).2.1
  have hlx := (okI_true.1 o1).1
  have hly := (okI_true.1 o2).1
  have C0 := fun (V : World) (h : Raw V A c xs) (g : Raw V B d ys) => whole_fine_any n1 n2 A B c d xs ys V h g
  rw [o1, o2, Bool.and_self] at C0
  have H0 := Hd C0
  have H1 := Hd (fun (V : World) (h : Raw V A c xs) (g : Raw V B d ys) => show Calls Tryd.prog 50 #[.agg #[.bool n1, .slice A xs.length c], .agg #[.bool n2, .slice B ys.length d]] V (RetTwo V.heap.size V z1 z2) from by rw [HZ1.out, HZ2.out]; exact exact_Divide n1 n2 A B c d xs ys hcx hcy hne (by omega) (by omega) V h g)
  clear C0 o1 o2 hcx hcy hlx hly
  have px := (((Pair.new w 24 (.bool n1) (.slice A xs.length c)).alloc (.cells #[.bool n2, .slice B ys.length d] 24)).alloc (.cells #[.bool false, .slice none 0 0] 24)).alloc (.cells #[.bool false, .slice none 0 0] 24)
  have py := ((Pair.new (w.alloc (.cells #[.bool n1, .slice A xs.length c] 24)) 24 (.bool n2) (.slice B ys.length d)).alloc (.cells #[.bool false, .slice none 0 0] 24)).alloc (.cells #[.bool false, .slice none 0 0] 24)
  have pq := (Pair.new ((w.alloc (.cells #[.bool n1, .slice A xs.length c] 24)).alloc (.cells #[.bool n2, .slice B ys.length d] 24)) 24 (.bool false) (.slice none 0 0)).alloc (.cells #[.bool false, .slice none 0 0] 24)
  have pr := Pair.new (((w.alloc (.cells #[.bool n1, .slice A xs.length c] 24)).alloc (.cells #[.bool n2, .slice B ys.length d] 24)).alloc (.cells #[.bool false, .slice none 0 0] 24)) 24 (.bool false) (.slice none 0 0)
  have rx := (((h.alloc (.cells #[.bool n1, .slice A xs.length c] 24)).alloc (.cells #[.bool n2, .slice B ys.length d] 24)).alloc (.cells #[.bool false, .slice none 0 0] 24)).alloc (.cells #[.bool false, .slice none 0 0] 24)
  have ry := (((g.alloc (.cells #[.bool n1, .slice A xs.length c] 24)).alloc (.cells #[.bool n2, .slice B ys.length d] 24)).alloc (.cells #[.bool false, .slice none 0 0] 24)).alloc (.cells #[.bool false, .slice none 0 0] 24)
  have b0 := (((Below.refl w.heap.size w).alloc (Nat.le_refl _) (.cells #[.bool n1, .slice A xs.length c] 24)).alloc (by simp) (.cells #[.bool n2, .slice B ys.length d] 24)).alloc (by simp; omega) (.cells #[.bool false, .slice none 0 0] 24)
  have b0 := b0.alloc (by simp; omega) (.cells #[.bool false, .slice none 0 0] 24)
  simp only [World.size_alloc] at py pq pr
  clear h g
  go_enter Tryd.func27, Tryd.ntmps27
  go_wp2_with fail
  obtain ⟨W, E⟩ : ∃ W, W = (((w.alloc (.cells #[.bool n1, .slice A xs.length c] 24)).alloc (.cells #[.bool n2, .slice B ys.length d] 24)).alloc (.cells #[.bool false, .slice none 0 0] 24)).alloc (.cells #[.bool false, .slice none 0 0] 24) := ⟨_, rfl⟩
  rw [← E] at px py pq pr b0 rx ry ⊢
  have hsz : W.heap.size = w.heap.size + 4 := by rw [E]; simp
  clear E
  have PX := Hd px
  have PY := Hd py
  have PQ := Hd pq
  have PR := Hd pr
  have B0 := Hd b0
  have RX := Hd rx
  have RY := Hd ry
  obtain ⟨l1, x0, x1, -, -⟩ := px.facts
  obtain ⟨l2, y0, y1, -, -⟩ := py.facts
  clear px py pq pr rx ry b0
  go_wp2_with (first
    | (go_at_call 47; with_reducible refine (H0.out _ RX.out RY.out).mono ?_; rintro e w1 ⟨rfl, hb⟩; have rx := RX.out.below hb; have ry := RY.out.below hb; obtain ⟨l1, x0, x1, -, -⟩ := (PX.out.below hb).facts; obtain ⟨l2, y0, y1, -, -⟩ := (PY.out.below hb).facts)
    | (go_at_call 50; refine (H1.out _ rx ry).mono ?_; rintro e w2 ⟨v1, v2, rfl, hI, hb2⟩; obtain ⟨b1, A1, m1, c1, rfl⟩ := hI.one.shape; obtain ⟨b2, A2, m2, c2, rfl⟩ := hI.two.shape; have pq := (PQ.out.below hb).below hb2; have pr := (PR.out.below hb).below hb2; obtain ⟨l3, q0, q1, f0, f1⟩ := pq.facts; obtain ⟨l4, r0, r1, g0, g1⟩ := pr.facts))
  have hs1 := hb.size
  have q3 := (pq.store (.bool b1) (.slice A1 m1 c1)).far (show w.heap.size + 1 + 1 ≠ w.heap.size + 1 + 1 + 1 by omega) (.bool b2) (.slice A2 m2 c2)
  have r3 := (pr.far (show w.heap.size + 1 + 1 + 1 ≠ w.heap.size + 1 + 1 by omega) (.bool b1) (.slice A1 m1 c1)).store (.bool b2) (.slice A2 m2 c2)
  have i3 := (hI.pair (g := w.heap.size + 1 + 1) (a := .bool b1) (b := .slice A1 m1 c1) (by omega)).pair (g := w.heap.size + 1 + 1 + 1) (a := .bool b2) (b := .slice A2 m2 c2) (by omega)
  have b3 := below2 (below2 (belowTo (belowTo B0.out hb) hb2) (show w.heap.size ≤ w.heap.size + 1 + 1 by omega) (.bool b1) (.slice A1 m1 c1)) (show w.heap.size ≤ w.heap.size + 1 + 1 + 1 by omega) (.bool b2) (.slice A2 m2 c2)
  obtain ⟨W3, E3⟩ : ∃ W3, W3 = ((((w2.setCell ⟨w.heap.size + 1 + 1, 0, none⟩ (.bool b1)).setCell ⟨w.heap.size + 1 + 1, 1, none⟩ (.slice A1 m1 c1)).setCell ⟨w.heap.size + 1 + 1 + 1, 0, none⟩ (.bool b2)).setCell ⟨w.heap.size + 1 + 1 + 1, 1, none⟩ (.slice A2 m2 c2)) := ⟨_, rfl⟩
  rw [← E3] at q3 r3 i3 b3 ⊢
  have hsz3 : w.heap.size + 4 ≤ w1.heap.size := by omega
  have I4 := Hd ((i3.pair (g := w.heap.size + 1 + 1) (a := .bool b1) (b := .slice A1 m1 c1) (by omega)).pair (g := w.heap.size + 1 + 1 + 1) (a := .bool b2) (b := .slice A2 m2 c2) (by omega) |>.base (b' := w.heap.size) (by omega))
  have Q4 := Hd ((q3.store (.bool b1) (.slice A1 m1 c1)).far (show w.heap.size + 1 + 1 ≠ w.heap.size + 1 + 1 + 1 by omega) (.bool b2) (.slice A2 m2 c2))
  have R4 := Hd ((r3.far (show w.heap.size + 1 + 1 + 1 ≠ w.heap.size + 1 + 1 by omega) (.bool b1) (.slice A1 m1 c1)).store (.bool b2) (.slice A2 m2 c2))
  have B4 := Hd (below2 (below2 b3 (show w.heap.size ≤ w.heap.size + 1 + 1 by omega) (.bool b1) (.slice A1 m1 c1)) (show w.heap.size ≤ w.heap.size + 1 + 1 + 1 by omega) (.bool b2) (.slice A2 m2 c2))
  obtain ⟨l3, q0, q1, f0, f1⟩ := q3.facts
  obtain ⟨l4, r0, r1, g0, g1⟩ := r3.facts
  clear E3 q3 r3 i3 hI pq pr b3 hb hb2 B0 PX PY PQ PR H0 H1 RX RY
  go_region
  all_goals (go_wp2_with fail)
  all_goals
    obtain ⟨_, k0, k1, _, _⟩ := Q4.out.facts
    obtain ⟨_, k2, k3, _, _⟩ := R4.out.facts
    exact bodyPost_ret (by simp [results, Tryd.results27, go_sem, k0, k1, k2, k3]) rfl ⟨_, _, rfl, I4.out.drew, B4.out.drew⟩

theorem whole_QuoRem_bad (n1 n2 : Bool) (A B : Option Addr) (c d : Nat) (xs ys : List Nat) (o : (okI n1 xs && okI n2 ys) = false) (w : World) (h : Raw w A c xs) (g : Raw w B d ys) :
    Calls Tryd.prog 27 #[.agg #[.bool n1, .slice A xs.length c], .agg #[.bool n2, .slice B ys.length d]] w (RetTwo3 w.heap.size w 0 0 1) := by
  have C0 := fun (V : World) (h : Raw V A c xs) (g : Raw V B d ys) => whole_fine_any n1 n2 A B c d xs ys V h g
  rw [o] at C0
  have H0 := Hd C0
  clear C0 o
  have px := (((Pair.new w 24 (.bool n1) (.slice A xs.length c)).alloc (.cells #[.bool n2, .slice B ys.length d] 24)).alloc (.cells #[.bool false, .slice none 0 0] 24)).alloc (.cells #[.bool false, .slice none 0 0] 24)
  have py := ((Pair.new (w.alloc (.cells #[.bool n1, .slice A xs.length c] 24)) 24 (.bool n2) (.slice B ys.length d)).alloc (.cells #[.bool false, .slice none 0 0] 24)).alloc (.cells #[.bool false, .slice none 0 0] 24)
  have pq := (Pair.new ((w.alloc (.cells #[.bool n1, .slice A xs.length c] 24)).alloc (.cells #[.bool n2, .slice B ys.length d] 24)) 24 (.bool false) (.slice none 0 0)).alloc (.cells #[.bool false, .slice none 0 0] 24)
  have pr := Pair.new (((w.alloc (.cells #[.bool n1, .slice A xs.length c] 24)).alloc (.cells #[.bool n2, .slice B ys.length d] 24)).alloc (.cells #[.bool false, .slice none 0 0] 24)) 24 (.bool false) (.slice none 0 0)
  have rx := (((h.alloc (.cells #[.bool n1, .slice A xs.length c] 24)).alloc (.cells #[.bool n2, .slice B ys.length d] 24)).alloc (.cells #[.bool false, .slice none 0 0] 24)).alloc (.cells #[.bool false, .slice none 0 0] 24)
  have ry := (((g.alloc (.cells #[.bool n1, .slice A xs.length c] 24)).alloc (.cells #[.bool n2, .slice B ys.length d] 24)).alloc (.cells #[.bool false, .slice none 0 0] 24)).alloc (.cells #[.bool false, .slice none 0 0] 24)
  have b0 := (((Below.refl w.heap.size w).alloc (Nat.le_refl _) (.cells #[.bool n1, .slice A xs.length c] 24)).alloc (by simp) (.cells #[.bool n2, .slice B ys.length d] 24)).alloc (by simp; omega) (.cells #[.bool false, .slice none 0 0] 24)
  have b0 := b0.alloc (by simp; omega) (.cells #[.bool false, .slice none 0 0] 24)
  simp only [World.size_alloc] at py pq pr
  clear h g
  go_enter Tryd.func27, Tryd.ntmps27
  go_wp2_with fail
  obtain ⟨W, E⟩ : ∃ W, W = (((w.alloc (.cells #[.bool n1, .slice A xs.length c] 24)).alloc (.cells #[.bool n2, .slice B ys.length d] 24)).alloc (.cells #[.bool false, .slice none 0 0] 24)).alloc (.cells #[.bool false, .slice none 0 0] 24) := ⟨_, rfl⟩
  rw [← E] at px py pq pr b0 rx ry ⊢
  have hsz : W.heap.size = w.heap.size + 4 := by rw [E]; simp
  clear E
  have PX := Hd px
  have PY := Hd py
  have PQ := Hd pq
  have PR := Hd pr
  have B0 := Hd b0
  have RX := Hd rx
  have RY := Hd ry
  obtain ⟨l1, x0, x1, -, -⟩ := px.facts
  obtain ⟨l2, y0, y1, -, -⟩ := py.facts
  clear px py pq pr rx ry b0
  go_wp2_with (first
    | (go_at_call 47; with_reducible refine (H0.out _ RX.out RY.out).mono ?_; rintro e w1 ⟨rfl, hb⟩; have pq := PQ.out.below hb; have pr := PR.out.below hb; obtain ⟨l1, x0, x1, -, -⟩ := (PX.out.below hb).facts; obtain ⟨l2, y0, y1, -, -⟩ := (PY.out.below hb).facts; obtain ⟨l3, q0, q1, f0, f1⟩ := pq.facts; obtain ⟨l4, r0, r1, g0, g1⟩ := pr.facts))
  have Q4 := Hd ((pq.store (.bool false) (.slice none 0 0)).far (show w.heap.size + 1 + 1 ≠ w.heap.size + 1 + 1 + 1 by omega) (.bool false) (.slice none 0 0))
  have R4 := Hd ((pr.far (show w.heap.size + 1 + 1 + 1 ≠ w.heap.size + 1 + 1 by omega) (.bool false) (.slice none 0 0)).store (.bool false) (.slice none 0 0))
  have B4 := Hd (below2 (below2 (belowTo B0.out hb) (show w.heap.size ≤ w.heap.size + 1 + 1 by omega) (.bool false) (.slice none 0 0)) (show w.heap.size ≤ w.heap.size + 1 + 1 + 1 by omega) (.bool false) (.slice none 0 0))
  obtain ⟨_, k0, k1, _, _⟩ := Q4.out.facts
  obtain ⟨_, k2, k3, _, _⟩ := R4.out.facts
  exact bodyPost_ret (by simp [results, Tryd.results27, go_sem, k0, k1, k2, k3]) rfl ⟨_, _, rfl, Ints2.nought _ _, B4.out⟩

theorem whole_QuoRem_nought (n1 n2 : Bool) (A B : Option Addr) (c d : Nat) (xs ys : List Nat) (o1 : (okI n1 xs && okI n2 ys) = true) (he : ys = []) (w : World) (h : Raw w A c xs) (g : Raw w B d ys) :
    Calls Tryd.prog 27 #[.agg #[.bool n1, .slice A xs.length c], .agg #[.bool n2, .slice B ys.length d]] w (RetTwo3 w.heap.size w 0 0 3) := by
  have C0 := fun (V : World) (h : Raw V A c xs) (g : Raw V B d ys) => whole_fine_any n1 n2 A B c d xs ys V h g
  rw [o1] at C0
  have H0 := Hd C0
  have hlen : ((ys.length : Int) == 0) = true := by subst he; rfl
  clear C0 o1 he
  have px := (((Pair.new w 24 (.bool n1) (.slice A xs.length c)).alloc (.cells #[.bool n2, .slice B ys.length d] 24)).alloc (.cells #[.bool false, .slice none 0 0] 24)).alloc (.cells #[.bool false, .slice none 0 0] 24)
  have py := ((Pair.new (w.alloc (.cells #[.bool n1, .slice A xs.length c] 24)) 24 (.bool n2) (.slice B ys.length d)).alloc (.cells #[.bool false, .slice none 0 0] 24)).alloc (.cells #[.bool false, .slice none 0 0] 24)
  have pq := (Pair.new ((w.alloc (.cells #[.bool n1, .slice A xs.length c] 24)).alloc (.cells #[.bool n2, .slice B ys.length d] 24)) 24 (.bool false) (.slice none 0 0)).alloc (.cells #[.bool false, .slice none 0 0] 24)
  have pr := Pair.new (((w.alloc (.cells #[.bool n1, .slice A xs.length c] 24)).alloc (.cells #[.bool n2, .slice B ys.length d] 24)).alloc (.cells #[.bool false, .slice none 0 0] 24)) 24 (.bool false) (.slice none 0 0)
  have rx := (((h.alloc (.cells #[.bool n1, .slice A xs.length c] 24)).alloc (.cells #[.bool n2, .slice B ys.length d] 24)).alloc (.cells #[.bool false, .slice none 0 0] 24)).alloc (.cells #[.bool false, .slice none 0 0] 24)
  have ry := (((g.alloc (.cells #[.bool n1, .slice A xs.length c] 24)).alloc (.cells #[.bool n2, .slice B ys.length d] 24)).alloc (.cells #[.bool false, .slice none 0 0] 24)).alloc (.cells #[.bool false, .slice none 0 0] 24)
  have b0 := (((Below.refl w.heap.size w).alloc (Nat.le_refl _) (.cells #[.bool n1, .slice A xs.length c] 24)).alloc (by simp) (.cells #[.bool n2, .slice B ys.length d] 24)).alloc (by simp; omega) (.cells #[.bool false, .slice none 0 0] 24)
  have b0 := b0.alloc (by simp; omega) (.cells #[.bool false, .slice none 0 0] 24)
  simp only [World.size_alloc] at py pq pr
  clear h g
  go_enter Tryd.func27, Tryd.ntmps27
  go_wp2_with fail
  obtain ⟨W, E⟩ : ∃ W, W = (((w.alloc (.cells #[.bool n1, .slice A xs.length c] 24)).alloc (.cells #[.bool n2, .slice B ys.length d] 24)).alloc (.cells #[.bool false, .slice none 0 0] 24)).alloc (.cells #[.bool false, .slice none 0 0] 24) := ⟨_, rfl⟩
  rw [← E] at px py pq pr b0 rx ry ⊢
  have hsz : W.heap.size = w.heap.size + 4 := by rw [E]; simp
  clear E
  have PX := Hd px
  have PY := Hd py
  have PQ := Hd pq
  have PR := Hd pr
  have B0 := Hd b0
  have RX := Hd rx
  have RY := Hd ry
  obtain ⟨l1, x0, x1, -, -⟩ := px.facts
  obtain ⟨l2, y0, y1, -, -⟩ := py.facts
  clear px py pq pr rx ry b0
  go_wp2_with (first
    | (go_at_call 47; with_reducible refine (H0.out _ RX.out RY.out).mono ?_; rintro e w1 ⟨rfl, hb⟩; have pq := PQ.out.below hb; have pr := PR.out.below hb; obtain ⟨l1, x0, x1, -, -⟩ := (PX.out.below hb).facts; obtain ⟨l2, y0, y1, -, -⟩ := (PY.out.below hb).facts; obtain ⟨l3, q0, q1, f0, f1⟩ := pq.facts; obtain ⟨l4, r0, r1, g0, g1⟩ := pr.facts))
  have Q4 := Hd ((pq.store (.bool false) (.slice none 0 0)).far (show w.heap.size + 1 + 1 ≠ w.heap.size + 1 + 1 + 1 by omega) (.bool false) (.slice none 0 0))
  have R4 := Hd ((pr.far (show w.heap.size + 1 + 1 + 1 ≠ w.heap.size + 1 + 1 by omega) (.bool false) (.slice none 0 0)).store (.bool false) (.slice none 0 0))
  have B4 := Hd (below2 (below2 (belowTo B0.out hb) (show w.heap.size ≤ w.heap.size + 1 + 1 by omega) (.bool false) (.slice none 0 0)) (show w.heap.size ≤ w.heap.size + 1 + 1 + 1 by omega) (.bool false) (.slice none 0 0))
  obtain ⟨_, k0, k1, _, _⟩ := Q4.out.facts
  obtain ⟨_, k2, k3, _, _⟩ := R4.out.facts
  exact bodyPost_ret (by simp [results, Tryd.results27, go_sem, k0, k1, k2, k3]) rfl ⟨_, _, rfl, Ints2.nought _ _, B4.out⟩

theorem whole_QuoRem (n1 n2 : Bool) (A B : Option Addr) (c d : Nat) (xs ys : List Nat) (w : World) (h : Raw w A c xs) (g : Raw w B d ys) :
    Calls Tryd.prog 27 #[.agg #[.bool n1, .slice A xs.length c], .agg #[.bool n2, .slice B ys.length d]] w (RetTwo3 w.heap.size w (quoV n1 xs n2 ys) (remV n1 xs n2 ys) (quoE n1 xs n2 ys)) := by
  unfold quoV remV quoE
  by_cases o : (okI n1 xs && okI n2 ys) = true
  · rw [if_pos o, if_pos o, if_pos o]
    have o' := Bool.and_eq_true_iff.1 o
    by_cases hy : ys.length = 0
    · rw [if_pos hy, if_pos hy, if_pos hy]
      exact whole_QuoRem_nought n1 n2 A B c d xs ys o (List.eq_nil_of_length_eq_zero hy) w h g
    · rw [if_neg hy, if_neg hy, if_neg hy]
      exact whole_QuoRem_ok n1 n2 A B c d xs ys o'.1 o'.2 (fun e => hy (by rw [e]; rfl)) _ _ (Hd rfl) (Hd rfl) w h g
  · rw [if_neg o, if_neg o, if_neg o]
    exact whole_QuoRem_bad n1 n2 A B c d xs ys (by simpa using o) w h g

/- Cmp of package whole and of the references. (Written by wip/exact/genfine.py, cut off by hand.) -/

theorem whole_Cmp_any (n1 n2 : Bool) (A B : Option Addr) (c d : Nat) (xs ys : List Nat) (w : World) (h : Raw w A c xs) (g : Raw w B d ys) :
    Calls Tryd.prog 28 #[.agg #[.bool n1, .slice A xs.length c], .agg #[.bool n2, .slice B ys.length d]] w fun e w' => e = .returned (.int .i64 (if okI n1 xs && okI n2 ys then cmpz (ival n1 xs) (ival n2 ys) else 0)) ∧ Below w.heap.size w w' := by
  by_cases o : (okI n1 xs && okI n2 ys) = true
  · obtain ⟨o1, o2⟩ := Bool.and_eq_true_iff.1 o
    rw [if_pos o]
    have O := Hd o
    have O1 := Hd o1
    have O2 := Hd o2
    clear o o1 o2
    have p0 := (Pair.new w 24 (.bool n1) (.slice A xs.length c)).alloc (.cells #[.bool n2, .slice B ys.length d] 24)
    have q0 := Pair.new (w.alloc (.cells #[.bool n1, .slice A xs.length c] 24)) 24 (.bool n2) (.slice B ys.length d)
    have b0 := ((Below.refl w.heap.size w).alloc (Nat.le_refl _) (.cells #[.bool n1, .slice A xs.length c] 24)).alloc (by simp) (.cells #[.bool n2, .slice B ys.length d] 24)
    have hx := (h.alloc (.cells #[.bool n1, .slice A xs.length c] 24)).alloc (.cells #[.bool n2, .slice B ys.length d] 24)
    have hy := (g.alloc (.cells #[.bool n1, .slice A xs.length c] 24)).alloc (.cells #[.bool n2, .slice B ys.length d] 24)
    simp only [World.size_alloc] at q0
    clear h g
    go_enter Tryd.func28, Tryd.ntmps28
    go_wp2_with fail
    refine (whole_fine_any n1 n2 A B c d xs ys _ hx hy).mono ?_
    rintro e w1 ⟨rfl, q1⟩
    rw [O.out]
    have p2 := p0.below q1
    have q2 := q0.below q1
    obtain ⟨k1, c0, c1, -, -⟩ := p2.facts
    obtain ⟨k2, d0, d1, -, -⟩ := q2.facts
    have b1 := b0.trans (q1.mono b0.size)
    have hx1 := hx.below q1
    have hy1 := hy.below q1
    clear p0 q0 b0 hx hy q1
    go_wp2_with fail
    refine (exact_Cmp_any n1 n2 A B c d xs ys O1.out O2.out _ hx1 hy1).mono ?_
    rintro e w2 ⟨rfl, q1⟩
    clear c0 c1 d0 d1
    go_wp2
    go_ret
    exact ⟨rfl, belowTo b1 q1⟩
  · have o' : (okI n1 xs && okI n2 ys) = false := by simpa using o
    rw [if_neg o]
    have O := Hd o'
    clear o o'
    have p0 := (Pair.new w 24 (.bool n1) (.slice A xs.length c)).alloc (.cells #[.bool n2, .slice B ys.length d] 24)
    have q0 := Pair.new (w.alloc (.cells #[.bool n1, .slice A xs.length c] 24)) 24 (.bool n2) (.slice B ys.length d)
    have b0 := ((Below.refl w.heap.size w).alloc (Nat.le_refl _) (.cells #[.bool n1, .slice A xs.length c] 24)).alloc (by simp) (.cells #[.bool n2, .slice B ys.length d] 24)
    have hx := (h.alloc (.cells #[.bool n1, .slice A xs.length c] 24)).alloc (.cells #[.bool n2, .slice B ys.length d] 24)
    have hy := (g.alloc (.cells #[.bool n1, .slice A xs.length c] 24)).alloc (.cells #[.bool n2, .slice B ys.length d] 24)
    simp only [World.size_alloc] at q0
    clear h g
    go_enter Tryd.func28, Tryd.ntmps28
    go_wp2_with fail
    refine (whole_fine_any n1 n2 A B c d xs ys _ hx hy).mono ?_
    rintro e w1 ⟨rfl, q1⟩
    rw [O.out]
    have b1 := b0.trans (q1.mono b0.size)
    clear p0 q0 b0 hx hy q1
    go_wp2
    go_ret
    exact ⟨rfl, b1⟩

/- Of of package whole. -/

theorem whole_Of (n : Int) (h1 : -9223372036854775808 ≤ n) (h2 : n ≤ 9223372036854775807) (w : World) :
    Calls Tryd.prog 26 #[.int .i64 n] w (RetInt w.heap.size w n) := by
  have HC := Hd (fun W => exact_Of n h1 h2 W)
  go_enter Tryd.func26, Tryd.ntmps26
  go_wp2_with fail
  refine (HC.out _).mono ?_
  rintro e w1 ⟨v, rfl, hI, hb⟩
  obtain ⟨A, c, hv, _⟩ := hI.form
  have hI2 := hI
  rw [hv] at hI2 ⊢
  have hp := (Pair.new w 24 (.bool false) (.slice none 0 0)).below hb
  have hb1 := (Below.alloc (Below.refl w.heap.size w) (Nat.le_refl _) _).trans (hb.mono (by simp))
  obtain ⟨hl, c0, c1, f0, f1⟩ := hp.facts
  clear hb HC hv hI
  go_wp2_with fail
  have hq := hp.store (.bool (decide (n < 0))) (.slice A (natL n.natAbs).length c)
  obtain ⟨_, k0, k1, _, _⟩ := hq.facts
  exact bodyPost_ret (by simp [results, Tryd.results26, go_sem, k0, k1]) rfl ⟨_, rfl, ((hI2.base (b' := w.heap.size + 1) (by simp)).pair (Nat.lt_succ_self _)).base (Nat.le_succ _), below2 hb1 (Nat.le_refl _) _ _⟩
end Go.Proofs.YtbdliabfdplohaaDoor
