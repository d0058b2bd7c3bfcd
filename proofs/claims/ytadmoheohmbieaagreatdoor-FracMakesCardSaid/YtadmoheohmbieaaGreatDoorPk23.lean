/- Several texts in one: DivOps, ZR, BitsVal. -/
import Derived.Test.YtadmoheohmbieaaGreatDoorPk22
import Derived.Test.YtadmoheohmbieaaGreatDoorPk17
import Derived.Test.YtadmoheohmbieaaGreatDoorPk11
import Derived.Test.YtadmoheohmbieaaGreatDoorPk18
import Derived.Test.YtadmoheohmbieaaGreatDoorPk05
import Derived.Test.YtadmoheohmbieaaGreatDoorPk07
import Derived.Test.YtadmoheohmbieaaGreatDoorPk10
import Derived.Test.YtadmoheohmbieaaGreatDoorPk20
import Derived.Test.YtadmoheohmbieaaGreatDoorPk03
import Derived.Test.YtadmoheohmbieaaGreatDoorPk15
/- QuoRem and GCD of package whole and of the references. (Written by wip/exact/gendivops.py.) -/
namespace Go.Proofs.YtadmoheohmbieaaGreatDoor
open Go.RowKit

/-- Two numbers of the call's own that share no memory, and an error. -/
def RetTwo3 (base : Nat) (w : World) (z1 z2 k : Int) (e : Ending) (w' : World) : Prop := ∃ v1 v2, e = .returned (.tuple #[v1, v2, .int .i64 k]) ∧ Ints2 w' base v1 z1 v2 z2 ∧ Below w.heap.size w w'
/-- Two numbers of the call's own, and an error. -/
def RetBoth3 (base : Nat) (w : World) (z1 z2 k : Int) (e : Ending) (w' : World) : Prop := ∃ v1 v2, e = .returned (.tuple #[v1, v2, .int .i64 k]) ∧ IntOwn w' base v1 z1 ∧ IntOwn w' base v2 z2 ∧ Below w.heap.size w w'
/-- A number wherever it lies, and an error. -/
def RetAt2 (w : World) (z k : Int) (e : Ending) (w' : World) : Prop := ∃ v, e = .returned (.tuple #[v, .int .i64 k]) ∧ IntAt w' v z ∧ Below w.heap.size w w'
theorem Ints2.drew {w : World} {base : Nat} {v1 v2 : Value} {z1 z2 : Int} (h : Ints2 w base v1 z1 v2 z2) : Ints2 w.drew base v1 z1 v2 z2 := h.below (Below.refl _ _).drew
theorem IntOwn.drew {w : World} {base : Nat} {v : Value} {x : Int} (h : IntOwn w base v x) : IntOwn w.drew base v x := h.below (Below.refl _ _).drew
theorem Ints2.nought (w : World) (base : Nat) : Ints2 w base (.agg #[.bool false, .slice none 0 0]) 0 (.agg #[.bool false, .slice none 0 0]) 0 :=
  ⟨IntOwn.nought _ _, IntOwn.nought _ _, fun g h => by cases h⟩
def quoV (n1 : Bool) (xs : List Nat) (n2 : Bool) (ys : List Nat) : Int := if okI n1 xs && okI n2 ys then (if ys.length = 0 then 0 else (ival n1 xs).tdiv (ival n2 ys)) else 0
def remV (n1 : Bool) (xs : List Nat) (n2 : Bool) (ys : List Nat) : Int := if okI n1 xs && okI n2 ys then (if ys.length = 0 then 0 else (ival n1 xs).tmod (ival n2 ys)) else 0
def quoE (n1 : Bool) (xs : List Nat) (n2 : Bool) (ys : List Nat) : Int := if okI n1 xs && okI n2 ys then (if ys.length = 0 then 3 else 0) else 1
def gcdV (n1 : Bool) (xs : List Nat) (n2 : Bool) (ys : List Nat) : Int := if okI n1 xs && okI n2 ys then ((Nat.gcd (val xs) (val ys) : Nat) : Int) else 0
def gcdE (n1 : Bool) (xs : List Nat) (n2 : Bool) (ys : List Nat) : Int := if okI n1 xs && okI n2 ys then 0 else 1

set_option maxRecDepth 100000 in
set_option maxHeartbeats 1000000 in
theorem ref_Common_left (n1 n2 : Bool) (A B : Option Addr) (c d : Nat) (xs ys : List Nat) (he : xs = []) (w : World) (h : Raw w A c xs) (g : Raw w B d ys) :
    Calls Tryz.prog 164 #[.agg #[.bool n1, .slice A xs.length c], .agg #[.bool n2, .slice B ys.length d]] w fun e w' => e = .returned (sv false B d ys) ∧ Below w.heap.size w w' := by
  have hl1 : ((xs.length : Int) == 0) = true := by subst he; rfl
  have C1 := Lib.hid (fun (V : World) (h : Raw V B d ys) => ref_signed_sv false B d ys V h)
  obtain ⟨b9, A9, k9, c9, hsv⟩ := sv_form false B d ys
  rw [hsv] at C1 ⊢
  clear he hsv
  have px := (((Pair.new w 24 (.bool n1) (.slice A xs.length c)).alloc (.cells #[.bool n2, .slice B ys.length d] 24)).alloc (.cells #[.bool false, .slice none 0 0] 24))
  have py := ((Pair.new (w.alloc (.cells #[.bool n1, .slice A xs.length c] 24)) 24 (.bool n2) (.slice B ys.length d)).alloc (.cells #[.bool false, .slice none 0 0] 24))
  have pq := (Pair.new ((w.alloc (.cells #[.bool n1, .slice A xs.length c] 24)).alloc (.cells #[.bool n2, .slice B ys.length d] 24)) 24 (.bool false) (.slice none 0 0))
  have rx := (((h.alloc (.cells #[.bool n1, .slice A xs.length c] 24)).alloc (.cells #[.bool n2, .slice B ys.length d] 24)).alloc (.cells #[.bool false, .slice none 0 0] 24))
  have ry := (((g.alloc (.cells #[.bool n1, .slice A xs.length c] 24)).alloc (.cells #[.bool n2, .slice B ys.length d] 24)).alloc (.cells #[.bool false, .slice none 0 0] 24))
  have b0 := (((Below.refl w.heap.size w).alloc (Nat.le_refl _) (.cells #[.bool n1, .slice A xs.length c] 24)).alloc (by simp) (.cells #[.bool n2, .slice B ys.length d] 24)).alloc (by simp; omega) (.cells #[.bool false, .slice none 0 0] 24)
  simp only [World.size_alloc] at py pq
  clear h g
  go_enter Tryz.func164, Tryz.ntmps164
  go_wp2_with fail
  obtain ⟨W, E⟩ : ∃ W, W = (((w.alloc (.cells #[.bool n1, .slice A xs.length c] 24)).alloc (.cells #[.bool n2, .slice B ys.length d] 24)).alloc (.cells #[.bool false, .slice none 0 0] 24)) := ⟨_, rfl⟩
  rw [← E] at px py pq b0 rx ry ⊢
  have hsz : W.heap.size = w.heap.size + 3 := by rw [E]; simp
  clear E
  have PX := Lib.hid px
  have PY := Lib.hid py
  have PQ := Lib.hid pq
  have B0 := Lib.hid b0
  have RX := Lib.hid rx
  have RY := Lib.hid ry
  obtain ⟨l1, x0, x1, -, -⟩ := px.facts
  obtain ⟨l2, y0, y1, -, -⟩ := py.facts
  clear px py pq rx ry b0
  go_wp2_with fail
  refine (C1.out W RY.out).mono ?_
  rintro e w1 ⟨rfl, hb⟩
  have pq := PQ.out.below hb
  obtain ⟨l3, q0, q1, f0, f1⟩ := pq.facts
  have hq := pq.store (.bool b9) (.slice A9 k9 c9)
  have HB := Lib.hid (below2 (belowTo B0.out hb) (show w.heap.size ≤ w.heap.size + 1 + 1 by omega) (.bool b9) (.slice A9 k9 c9))
  have HQ := Lib.hid hq
  clear pq hq hb C1 PX PY RX RY
  go_wp2_with fail
  obtain ⟨_, k0, k1, _, _⟩ := HQ.out.facts
  exact bodyPost_ret (by simp [results, Tryz.results164, go_sem, k0, k1]) rfl ⟨rfl, HB.out⟩

set_option maxRecDepth 100000 in
set_option maxHeartbeats 1000000 in
theorem ref_Common_right (n1 n2 : Bool) (A B : Option Addr) (c d : Nat) (xs ys : List Nat) (hne : xs ≠ []) (he : ys = []) (w : World) (h : Raw w A c xs) (g : Raw w B d ys) :
    Calls Tryz.prog 164 #[.agg #[.bool n1, .slice A xs.length c], .agg #[.bool n2, .slice B ys.length d]] w fun e w' => e = .returned (sv false A c xs) ∧ Below w.heap.size w w' := by
  have hl1 : ((xs.length : Int) == 0) = false := by have : xs.length ≠ 0 := fun e => hne (List.eq_nil_of_length_eq_zero e); simp; omega
  have hl2 : ((ys.length : Int) == 0) = true := by subst he; rfl
  have C1 := Lib.hid (fun (V : World) (h : Raw V A c xs) => ref_signed_sv false A c xs V h)
  obtain ⟨b9, A9, k9, c9, hsv⟩ := sv_form false A c xs
  rw [hsv] at C1 ⊢
  clear he hsv hne
  have px := (((Pair.new w 24 (.bool n1) (.slice A xs.length c)).alloc (.cells #[.bool n2, .slice B ys.length d] 24)).alloc (.cells #[.bool false, .slice none 0 0] 24))
  have py := ((Pair.new (w.alloc (.cells #[.bool n1, .slice A xs.length c] 24)) 24 (.bool n2) (.slice B ys.length d)).alloc (.cells #[.bool false, .slice none 0 0] 24))
  have pq := (Pair.new ((w.alloc (.cells #[.bool n1, .slice A xs.length c] 24)).alloc (.cells #[.bool n2, .slice B ys.length d] 24)) 24 (.bool false) (.slice none 0 0))
  have rx := (((h.alloc (.cells #[.bool n1, .slice A xs.length c] 24)).alloc (.cells #[.bool n2, .slice B ys.length d] 24)).alloc (.cells #[.bool false, .slice none 0 0] 24))
  have ry := (((g.alloc (.cells #[.bool n1, .slice A xs.length c] 24)).alloc (.cells #[.bool n2, .slice B ys.length d] 24)).alloc (.cells #[.bool false, .slice none 0 0] 24))
  have b0 := (((Below.refl w.heap.size w).alloc (Nat.le_refl _) (.cells #[.bool n1, .slice A xs.length c] 24)).alloc (by simp) (.cells #[.bool n2, .slice B ys.length d] 24)).alloc (by simp; omega) (.cells #[.bool false, .slice none 0 0] 24)
  simp only [World.size_alloc] at py pq
  clear h g
  go_enter Tryz.func164, Tryz.ntmps164
  go_wp2_with fail
  obtain ⟨W, E⟩ : ∃ W, W = (((w.alloc (.cells #[.bool n1, .slice A xs.length c] 24)).alloc (.cells #[.bool n2, .slice B ys.length d] 24)).alloc (.cells #[.bool false, .slice none 0 0] 24)) := ⟨_, rfl⟩
  rw [← E] at px py pq b0 rx ry ⊢
  have hsz : W.heap.size = w.heap.size + 3 := by rw [E]; simp
  clear E
  have PX := Lib.hid px
  have PY := Lib.hid py
  have PQ := Lib.hid pq
  have B0 := Lib.hid b0
  have RX := Lib.hid rx
  have RY := Lib.hid ry
  obtain ⟨l1, x0, x1, -, -⟩ := px.facts
  obtain ⟨l2, y0, y1, -, -⟩ := py.facts
  clear px py pq rx ry b0
  go_wp2_with fail
  refine (C1.out W RX.out).mono ?_
  rintro e w1 ⟨rfl, hb⟩
  have pq := PQ.out.below hb
  obtain ⟨l3, q0, q1, f0, f1⟩ := pq.facts
  have hq := pq.store (.bool b9) (.slice A9 k9 c9)
  have HB := Lib.hid (below2 (belowTo B0.out hb) (show w.heap.size ≤ w.heap.size + 1 + 1 by omega) (.bool b9) (.slice A9 k9 c9))
  have HQ := Lib.hid hq
  clear pq hq hb C1 PX PY RX RY
  go_wp2_with fail
  obtain ⟨_, k0, k1, _, _⟩ := HQ.out.facts
  exact bodyPost_ret (by simp [results, Tryz.results164, go_sem, k0, k1]) rfl ⟨rfl, HB.out⟩

/-- The greatest common divisor: of the call's own, or one of the two as it came. -/
def RetOf (A B : Option Addr) (c d : Nat) (xs ys : List Nat) (w : World) (z : Int) (e : Ending) (w' : World) : Prop := ∃ v, e = .returned v ∧ (IntOwn w' w.heap.size v z ∨ (v = sv false A c xs ∧ z = ival false xs) ∨ (v = sv false B d ys ∧ z = ival false ys)) ∧ Below w.heap.size w w'
theorem of_shape {A B : Option Addr} {c d base : Nat} {xs ys : List Nat} {w : World} {z : Int} {v : Value} (h : IntOwn w base v z ∨ (v = sv false A c xs ∧ z = ival false xs) ∨ (v = sv false B d ys ∧ z = ival false ys)) : ∃ b A' k c', v = .agg #[.bool b, .slice A' k c'] := by
  rcases h with h | h | h
  · exact h.shape
  · rw [h.1]; exact sv_form _ _ _ _
  · rw [h.1]; exact sv_form _ _ _ _
theorem ref_Common (n1 n2 : Bool) (A B : Option Addr) (c d : Nat) (xs ys : List Nat) (hcx : Canon xs) (hcy : Canon ys) (hlx : xs.length ≤ 30000) (hly : ys.length ≤ 30000) (w : World) (h : Raw w A c xs) (g : Raw w B d ys) :
    Calls Tryz.prog 164 #[.agg #[.bool n1, .slice A xs.length c], .agg #[.bool n2, .slice B ys.length d]] w (RetOf A B c d xs ys w ((Nat.gcd (val xs) (val ys) : Nat) : Int)) := by
  by_cases hx : xs = []
  · refine (ref_Common_left n1 n2 A B c d xs ys hx w h g).mono ?_
    rintro e w' ⟨rfl, hb⟩
    exact ⟨_, rfl, .inr (.inr ⟨rfl, by subst hx; simp [val, ival]⟩), hb⟩
  · by_cases hy : ys = []
    · refine (ref_Common_right n1 n2 A B c d xs ys hx hy w h g).mono ?_
      rintro e w' ⟨rfl, hb⟩
      exact ⟨_, rfl, .inr (.inl ⟨rfl, by subst hy; simp [val, ival]⟩), hb⟩
    · refine (ref_Common_more n1 n2 A B c d xs ys hcx hcy hx hy hlx hly w h g).mono ?_
      rintro e w' ⟨v, rfl, hv, hb⟩
      exact ⟨v, rfl, .inl hv, hb⟩

end Go.Proofs.YtadmoheohmbieaaGreatDoor

/- The references calls over numbers, told by the numbers alone. (Written by wip/exact/genz.py.) -/
namespace Go.Proofs.YtadmoheohmbieaaGreatDoor
open Go.RowKit
theorem rplus (x y z : Int) (A B : Option Addr) (c d : Nat) (w : World) (h : Raw w A c (natL x.natAbs)) (g : Raw w B d (natL y.natAbs)) (hx : lz x ≤ 500000000) (hy : lz y ≤ 500000000) (hz : z = x + y) :
    Calls Tryz.prog 200 #[.agg #[.bool (decide (x < 0)), .slice A (natL x.natAbs).length c], .agg #[.bool (decide (y < 0)), .slice B (natL y.natAbs).length d]] w (RetInt w.heap.size w z) := by
  have := ref_Plus (decide (x < 0)) (decide (y < 0)) A B c d (natL x.natAbs) (natL y.natAbs) (canon_natL _) (canon_natL _) (by unfold lz at hx; omega) (by unfold lz at hy; omega) w h g
  rw [ival_at, ival_at, ← hz] at this
  exact this
theorem rminus (x y z : Int) (A B : Option Addr) (c d : Nat) (w : World) (h : Raw w A c (natL x.natAbs)) (g : Raw w B d (natL y.natAbs)) (hx : lz x ≤ 500000000) (hy : lz y ≤ 500000000) (hz : z = x - y) :
    Calls Tryz.prog 126 #[.agg #[.bool (decide (x < 0)), .slice A (natL x.natAbs).length c], .agg #[.bool (decide (y < 0)), .slice B (natL y.natAbs).length d]] w (RetInt w.heap.size w z) := by
  have := ref_Minus (decide (x < 0)) (decide (y < 0)) A B c d (natL x.natAbs) (natL y.natAbs) (canon_natL _) (by unfold lz at hx; omega) (by unfold lz at hy; omega) w h g
  rw [ival_at, ival_at, ← hz] at this
  exact this
theorem rtimes (x y z : Int) (A B : Option Addr) (c d : Nat) (w : World) (h : Raw w A c (natL x.natAbs)) (g : Raw w B d (natL y.natAbs)) (hx : lz x ≤ 500000000) (hy : lz y ≤ 500000000) (hz : z = x * y) :
    Calls Tryz.prog 127 #[.agg #[.bool (decide (x < 0)), .slice A (natL x.natAbs).length c], .agg #[.bool (decide (y < 0)), .slice B (natL y.natAbs).length d]] w (RetInt w.heap.size w z) := by
  have := ref_Times (decide (x < 0)) (decide (y < 0)) A B c d (natL x.natAbs) (natL y.natAbs) (by unfold lz at hx; omega) (by unfold lz at hy; omega) w h g
  rw [ival_at, ival_at, ← hz] at this
  exact this
theorem rdivide (x y q r : Int) (A B : Option Addr) (c d : Nat) (w : World) (h : Raw w A c (natL x.natAbs)) (g : Raw w B d (natL y.natAbs)) (hx : lz x ≤ 500000000) (hy : lz y ≤ 500000000) (hy0 : y ≠ 0) (hq : q = x.tdiv y) (hr : r = x.tmod y) :
    Calls Tryz.prog 159 #[.agg #[.bool (decide (x < 0)), .slice A (natL x.natAbs).length c], .agg #[.bool (decide (y < 0)), .slice B (natL y.natAbs).length d]] w (RetBoth w.heap.size w q r) := by
  have h0 : natL y.natAbs ≠ [] := fun e => by
    have := natL_eq_nil.1 e
    omega
  have := ref_Divide (decide (x < 0)) (decide (y < 0)) A B c d (natL x.natAbs) (natL y.natAbs) (canon_natL _) h0 (by unfold lz at hx; omega) (by unfold lz at hy; omega) w h g
  rw [ival_at, ival_at, ← hq, ← hr] at this
  exact this
theorem rcmp (x y k : Int) (A B : Option Addr) (c d : Nat) (w : World) (h : Raw w A c (natL x.natAbs)) (g : Raw w B d (natL y.natAbs)) (_ : lz x ≤ 500000000) (_ : lz y ≤ 500000000) (hk : k = cmpz x y) :
    Calls Tryz.prog 165 #[.agg #[.bool (decide (x < 0)), .slice A (natL x.natAbs).length c], .agg #[.bool (decide (y < 0)), .slice B (natL y.natAbs).length d]] w fun e w' => e = .returned (.int .i64 k) ∧ Below w.heap.size w w' := by
  have s1 := sgn_z x
  have s2 := sgn_z y
  rcases Int.lt_trichotomy x.sign y.sign with hl | hl | hl
  · have := ref_Cmp_less (decide (x < 0)) (decide (y < 0)) A B c d (natL x.natAbs) (natL y.natAbs) _ _ hl s1 s2 w h g
    have e : k = -1 := by rw [hk]; exact cmpz_lt (sign_lt hl)
    rw [e]; exact this
  · have := ref_Cmp_same (decide (x < 0)) (decide (y < 0)) A B c d (natL x.natAbs) (natL y.natAbs) x.sign (sign_neg x) s1 (by rw [s2, hl]) (canon_natL _) (canon_natL _) w h g
    have e : (if decide (x < 0) = true then cmpv (val (natL y.natAbs)) (val (natL x.natAbs)) else cmpv (val (natL x.natAbs)) (val (natL y.natAbs))) = k := by
      rw [hk, val_natL, val_natL]
      exact (cmp_like hl).symm
    rw [e] at this
    exact this
  · have := ref_Cmp_more (decide (x < 0)) (decide (y < 0)) A B c d (natL x.natAbs) (natL y.natAbs) _ _ hl s1 s2 w h g
    have e : k = 1 := by rw [hk]; exact cmpz_gt (sign_lt hl)
    rw [e]; exact this
theorem rsign (x k : Int) (A : Option Addr) (c : Nat) (w : World) (h : Raw w A c (natL x.natAbs)) (hk : k = x.sign) :
    Calls Tryz.prog 63 #[.agg #[.bool (decide (x < 0)), .slice A (natL x.natAbs).length c]] w fun e w' => e = .returned (.int .i64 k) ∧ Below w.heap.size w w' := by
  have := ref_Sign_any (decide (x < 0)) A c _ w h
  rw [sgn_z, ← hk] at this
  exact this
theorem rbits (x k : Int) (A : Option Addr) (c : Nat) (w : World) (h : Raw w A c (natL x.natAbs)) (hx : lz x ≤ 200000000) (hk : k = ((bitsI (natL x.natAbs) : Nat) : Int)) :
    Calls Tryz.prog 163 #[.agg #[.bool (decide (x < 0)), .slice A (natL x.natAbs).length c]] w fun e w' => e = .returned (.int .i64 k) ∧ Below w.heap.size w w' := by
  have := ref_Bits_any (decide (x < 0)) A c _ w h (by unfold lz at hx; omega)
  rw [← hk] at this
  exact this
theorem rof (n z : Int) (hz : z = n) (h1 : -9223372036854775808 ≤ n) (h2 : n ≤ 9223372036854775807) (w : World) : Calls Tryz.prog 18 #[.int .i64 n] w (RetInt w.heap.size w z) := by
  rw [hz]; exact ref_Of n h1 h2 w
theorem rdouble (x z k : Int) (A : Option Addr) (c : Nat) (w : World) (h : Raw w A c (natL x.natAbs)) (hx : lz x ≤ 1000000) (hx0 : x ≠ 0) (hk0 : 0 ≤ k) (hk : k ≤ 1048576) (hz : z = x * ((2 ^ k.toNat : Nat) : Int)) :
    Calls Tryz.prog 209 #[.agg #[.bool (decide (x < 0)), .slice A (natL x.natAbs).length c], .int .i64 k] w (RetInt w.heap.size w z) := by
  have hne : natL x.natAbs ≠ [] := fun e => by have := natL_eq_nil.1 e; omega
  have := ref_Double_z (decide (x < 0)) A c k.toNat (natL x.natAbs) hne (by omega) (by unfold lz at hx; omega) z (Lib.hid (by rw [hz, ← ival_mul, ival_at])) w h
  rw [Int.toNat_of_nonneg hk0] at this
  exact this
end Go.Proofs.YtadmoheohmbieaaGreatDoor

/- How many bits a number has, told by the number. -/
namespace Go.Proofs.YtadmoheohmbieaaGreatDoor

theorem bits_val {n : Nat} (hn : 0 < n) : 1 ≤ bitsI (natL n) ∧ 2 ^ (bitsI (natL n) - 1) ≤ n ∧ n < 2 ^ bitsI (natL n) := by
  have hl := limbs_natL n
  have hc := canon_natL n
  have hne : natL n ≠ [] := fun e => by have := natL_eq_nil.1 e; omega
  obtain ⟨ini, t, e⟩ : ∃ ini t, natL n = ini ++ [t] := ⟨(natL n).dropLast, (natL n).getLast hne, (List.dropLast_concat_getLast hne).symm⟩
  have hv := val_natL n
  rw [e] at hl hc hv
  have ht0 : t ≠ 0 := hc t (by simp)
  have ht := (limbs_append.1 hl).2 t (by simp)
  obtain ⟨h1, h2, h3, h4⟩ := bitLen32 t ht ht0
  have hb : bitsI (natL n) = 32 * ini.length + Lib.bitLen t := by
    unfold bitsI
    rw [e, if_neg (by simp)]
    simp
  rw [val_append] at hv
  have hs : val [t] = t := by simp [val]
  rw [hs] at hv
  have hlow := val_lt (limbs_append.1 hl).1
  rw [hb]
  rw [show (4294967296 : Nat) = 2 ^ 32 by decide, ← Nat.pow_mul] at hv hlow
  generalize hp : 32 * ini.length = p at *
  generalize hl' : Lib.bitLen t = l at *
  have e1 : 2 ^ (p + l) = 2 ^ p * 2 ^ l := Nat.pow_add _ _ _
  have e2 : 2 ^ l = 2 * 2 ^ (l - 1) := by rw [← Nat.pow_succ']; congr 1; omega
  have e3 : 2 ^ (p + l - 1) = 2 ^ p * 2 ^ (l - 1) := by rw [← Nat.pow_add]; congr 1; omega
  refine ⟨by omega, ?_, ?_⟩
  · rw [e3]
    have : 2 ^ p * 2 ^ (l - 1) ≤ 2 ^ p * t := Nat.mul_le_mul_left _ (by omega)
    omega
  · rw [e1]
    have : 2 ^ p * (t + 1) ≤ 2 ^ p * 2 ^ l := Nat.mul_le_mul_left _ h4
    rw [Nat.mul_add, Nat.mul_one] at this
    omega
theorem bits_mono {a b : Nat} (h : a ≤ b) : bitsI (natL a) ≤ bitsI (natL b) := by
  rcases Nat.eq_zero_or_pos a with h0 | h0
  · subst h0; rw [natL_zero]; exact Nat.zero_le _
  · obtain ⟨-, h1, -⟩ := bits_val h0
    obtain ⟨h2, -, h3⟩ := bits_val (show 0 < b by omega)
    have : 2 ^ (bitsI (natL a) - 1) < 2 ^ bitsI (natL b) := by omega
    have := (Nat.pow_lt_pow_iff_right (by omega)).1 this
    omega
end Go.Proofs.YtadmoheohmbieaaGreatDoor
