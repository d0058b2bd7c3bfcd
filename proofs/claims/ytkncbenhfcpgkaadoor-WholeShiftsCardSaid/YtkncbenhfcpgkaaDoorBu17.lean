/- Several texts in one: Common, Answer, DivOps. -/
import Derived.Test.YtkncbenhfcpgkaaDoorBu15
import Derived.Test.YtkncbenhfcpgkaaDoorBu02
import Derived.Test.YtkncbenhfcpgkaaDoorBu14
import Derived.Test.YtkncbenhfcpgkaaDoorBu12
import Derived.Test.YtkncbenhfcpgkaaDoorBu13
import Derived.Test.YtkncbenhfcpgkaaDoorBu10
import Derived.Test.YtkncbenhfcpgkaaDoorBu09
import Derived.Test.YtkncbenhfcpgkaaDoorBu01
import Derived.Test.YtkncbenhfcpgkaaDoorBu05
import Derived.Test.YtkncbenhfcpgkaaDoorBu04
import Derived.Test.YtkncbenhfcpgkaaDoorBu03
import Derived.Test.YtkncbenhfcpgkaaDoorBu11
import Derived.Test.YtkncbenhfcpgkaaDoorBu06
import Derived.Test.YtkncbenhfcpgkaaDoorBu08
import Derived.Test.YtkncbenhfcpgkaaDoorBu07
import Derived.Deep.LoopGhost
import Derived.Test.YtkncbenhfcpgkaaDoorBuHd
import Derived.Test.YtkncbenhfcpgkaaDoorBu16
set_option maxRecDepth 100000
set_option maxHeartbeats 8000000
/- Common of package exact: the greatest number that goes into both. -/
namespace Go.Proofs.YtkncbenhfcpgkaaDoor
open Go.RowKit

structure Held2 (w wr : World) (ba bb : Nat) (A1 : Option Addr) (c1 x : Nat) (A2 : Option Addr) (c2 y : Nat) : Prop where
  pa : Pair wr ba 24 (.bool false) (.slice A1 (natL x).length c1)
  pb : Pair wr bb 24 (.bool false) (.slice A2 (natL y).length c2)
  one : OwnN wr w.heap.size (.slice A1 (natL x).length c1) x
  two : OwnN wr w.heap.size (.slice A2 (natL y).length c2) y
  low : Below w.heap.size w wr
  la : w.heap.size + 3 ≤ ba
  lb : w.heap.size + 3 ≤ bb
  ne : ba ≠ bb
  res : Pair wr (w.heap.size + 2) 24 (.bool false) (.slice none 0 0)
theorem OwnN.drew {w : World} {base n : Nat} {v : Value} (h : OwnN w base v n) : OwnN w.drew base v n := h.below (Below.refl _ _).drew
theorem Held2.drew {w wr : World} {ba bb : Nat} {A1 A2 : Option Addr} {c1 x c2 y : Nat} (h : Held2 w wr ba bb A1 c1 x A2 c2 y) : Held2 w wr.drew ba bb A1 c1 x A2 c2 y :=
  ⟨h.pa.drew, h.pb.drew, h.one.drew, h.two.drew, h.low.drew, h.la, h.lb, h.ne, h.res.drew⟩

/- told, Add, Sub, Mul of package whole and of the references. (Written by wip/exact/gentold.py.) -/

theorem toldV_fits {z : Int} (h : (natL z.natAbs).length ≤ 2048) : toldV z = z := by unfold toldV; rw [if_pos h]
theorem toldE_fits {z : Int} (h : (natL z.natAbs).length ≤ 2048) : toldE z = 0 := by unfold toldE; rw [if_pos h]
theorem toldV_long {z : Int} (h : 2048 < (natL z.natAbs).length) : toldV z = 0 := by unfold toldV; rw [if_neg (by omega)]
theorem toldE_long {z : Int} (h : 2048 < (natL z.natAbs).length) : toldE z = 4 := by unfold toldE; rw [if_neg (by omega)]
theorem IntOwn.value {w : World} {base : Nat} {v : Value} {x : Int} (h : IntOwn w base v x) : ∃ A c, v = .agg #[.bool (decide (x < 0)), .slice A (natL x.natAbs).length c] ∧ (natL x.natAbs).length ≤ 9223372036854775807 := by
  obtain ⟨A, c, h1, h2, h3, _⟩ := h.form
  exact ⟨A, c, h1, by omega⟩

theorem whole_told_fits (b : Bool) (A : Option Addr) (n c : Nat) (hn : n ≤ 9223372036854775807) (hf : n ≤ 2048) (w : World) :
    Calls Tryd.prog 21 #[.agg #[.bool b, .slice A n c]] w fun e w' => e = .returned (.tuple #[.agg #[.bool b, .slice A n c], .int .i64 0]) ∧ Below w.heap.size w w' := by
  have pr := Pair.new (w.alloc (.cells #[.bool b, .slice A n c] 24)) 24 (.bool false) (.slice none 0 0)
  have px := (Pair.new w 24 (.bool b) (.slice A n c)).alloc (.cells #[.bool false, .slice none 0 0] 24)
  have b0 := ((Below.refl w.heap.size w).alloc (Nat.le_refl _) (.cells #[.bool b, .slice A n c] 24)).alloc (by simp) (.cells #[.bool false, .slice none 0 0] 24)
  simp only [World.size_alloc] at pr
  have C1 := fun (V : World) (g : Nat) (hg : V.heap.size = g) => exact_Long (some ⟨g, 0, none⟩) 1 [(b, A, n, c)] (by simp) (by simp; omega) (V.alloc (.cells #[.bool b, .slice A n c] 24)) (by subst hg; exact (Reads.new1 V 24 2 [.bool b, .slice A n c] rfl).more (by simp))
  simp only [List.any_cons, List.any_nil, Bool.or_false, List.length_singleton] at C1
  rw [decide_eq_false (show ¬ 2048 < n from by omega)] at C1
  have C := Hd C1
  clear C1
  have PX := Hd px
  have PR := Hd pr
  have B0 := Hd b0
  clear px pr b0
  go_enter Tryd.func21, Tryd.ntmps21
  go_wp2_with (go_at_call 32; with_reducible refine (C.out _ _ (by simp)).mono ?_; rintro e w' ⟨rfl, hb⟩; have px := (PX.out.alloc _).below hb; have pr := (PR.out.alloc _).below hb; have B1 := belowTo (B0.out.alloc B0.out.size _) hb; have hl0 := B0.out.size; obtain ⟨l1, x0, x1, f0, f1⟩ := px.facts; obtain ⟨l2, y0, y1, g0, g1⟩ := pr.facts)
  have hq := pr.store (.bool b) (.slice A n c)
  obtain ⟨_, k0, k1, _, _⟩ := hq.facts
  exact bodyPost_ret (by simp [results, Tryd.results21, go_sem, k0, k1]) rfl ⟨rfl, below2 B1 (by omega) _ _⟩

theorem whole_told_long (b : Bool) (A : Option Addr) (n c : Nat) (hn : n ≤ 9223372036854775807) (hf : 2048 < n) (w : World) :
    Calls Tryd.prog 21 #[.agg #[.bool b, .slice A n c]] w fun e w' => e = .returned (.tuple #[.agg #[.bool false, .slice none 0 0], .int .i64 4]) ∧ Below w.heap.size w w' := by
  have pr := Pair.new (w.alloc (.cells #[.bool b, .slice A n c] 24)) 24 (.bool false) (.slice none 0 0)
  have px := (Pair.new w 24 (.bool b) (.slice A n c)).alloc (.cells #[.bool false, .slice none 0 0] 24)
  have b0 := ((Below.refl w.heap.size w).alloc (Nat.le_refl _) (.cells #[.bool b, .slice A n c] 24)).alloc (by simp) (.cells #[.bool false, .slice none 0 0] 24)
  simp only [World.size_alloc] at pr
  have C1 := fun (V : World) (g : Nat) (hg : V.heap.size = g) => exact_Long (some ⟨g, 0, none⟩) 1 [(b, A, n, c)] (by simp) (by simp; omega) (V.alloc (.cells #[.bool b, .slice A n c] 24)) (by subst hg; exact (Reads.new1 V 24 2 [.bool b, .slice A n c] rfl).more (by simp))
  simp only [List.any_cons, List.any_nil, Bool.or_false, List.length_singleton] at C1
  rw [decide_eq_true (show 2048 < n from hf)] at C1
  have C := Hd C1
  clear C1
  have PX := Hd px
  have PR := Hd pr
  have B0 := Hd b0
  clear px pr b0
  go_enter Tryd.func21, Tryd.ntmps21
  go_wp2_with (go_at_call 32; with_reducible refine (C.out _ _ (by simp)).mono ?_; rintro e w' ⟨rfl, hb⟩; have px := (PX.out.alloc _).below hb; have pr := (PR.out.alloc _).below hb; have B1 := belowTo (B0.out.alloc B0.out.size _) hb; have hl0 := B0.out.size; obtain ⟨l1, x0, x1, f0, f1⟩ := px.facts; obtain ⟨l2, y0, y1, g0, g1⟩ := pr.facts)
  have hq := pr.store (.bool false) (.slice none 0 0)
  obtain ⟨_, k0, k1, _, _⟩ := hq.facts
  exact bodyPost_ret (by simp [results, Tryd.results21, go_sem, k0, k1]) rfl ⟨rfl, below2 B1 (by omega) _ _⟩

theorem whole_told (base : Nat) (v : Value) (z : Int) (w : World) (h : IntOwn w base v z) :
    Calls Tryd.prog 21 #[v] w (RetInt2 base w (toldV z) (toldE z)) := by
  obtain ⟨A, c, rfl, hn⟩ := h.value
  by_cases hf : (natL z.natAbs).length ≤ 2048
  · rw [toldV_fits hf, toldE_fits hf]
    refine (whole_told_fits _ A _ c hn hf w).mono ?_
    rintro e w' ⟨rfl, hb⟩
    exact ⟨_, rfl, h.below hb, hb⟩
  · rw [toldV_long (by omega), toldE_long (by omega)]
    refine (whole_told_long _ A _ c hn (by omega) w).mono ?_
    rintro e w' ⟨rfl, hb⟩
    exact ⟨_, rfl, IntOwn.nought _ _, hb⟩

theorem whole_Mul_ok (n1 n2 : Bool) (A B : Option Addr) (c d : Nat) (xs ys : List Nat) (o1 : okI n1 xs = true) (o2 : okI n2 ys = true) (z : Int) (HZV : Hid (z = ival n1 xs * ival n2 ys)) (r k : Int) (HR : Hid (r = toldV z)) (HK : Hid (k = toldE z)) (w : World) (h : Raw w A c xs) (g : Raw w B d ys) :
    Calls Tryd.prog 8 #[.agg #[.bool n1, .slice A xs.length c], .agg #[.bool n2, .slice B ys.length d]] w (RetInt2 w.heap.size w r k) := by
  have C0 := fun (V : World) (h : Raw V A c xs) (g : Raw V B d ys) => whole_fine_any n1 n2 A B c d xs ys V h g
  have C1 := fun (V : World) (h : Raw V A c xs) (g : Raw V B d ys) => show Calls Tryd.prog 22 #[.agg #[.bool n1, .slice A xs.length c], .agg #[.bool n2, .slice B ys.length d]] V (RetInt V.heap.size V z) from by rw [HZV.out]; exact exact_Times n1 n2 A B c d xs ys (by have := (okI_true.1 o1).1; omega) (by have := (okI_true.1 o2).1; omega) V h g
  have C2 := fun (V : World) (base : Nat) (v : Value) (hv : IntOwn V base v z) => show Calls Tryd.prog 21 #[v] V (RetInt2 base V r k) from by rw [HR.out, HK.out]; exact whole_told base v z V hv
  rw [o1, o2, Bool.and_self] at C0
  have H1 := Hd C1
  have H2 := Hd C2
  have H0 := Hd C0
  clear C0 C1 C2 o1 o2
  have px := ((Pair.new w 24 (.bool n1) (.slice A xs.length c)).alloc (.cells #[.bool n2, .slice B ys.length d] 24)).alloc (.cells #[.bool false, .slice none 0 0] 24)
  have py := (Pair.new (w.alloc (.cells #[.bool n1, .slice A xs.length c] 24)) 24 (.bool n2) (.slice B ys.length d)).alloc (.cells #[.bool false, .slice none 0 0] 24)
  have pr := Pair.new ((w.alloc (.cells #[.bool n1, .slice A xs.length c] 24)).alloc (.cells #[.bool n2, .slice B ys.length d] 24)) 24 (.bool false) (.slice none 0 0)
  have rx := (((h.alloc (.cells #[.bool n1, .slice A xs.length c] 24)).alloc (.cells #[.bool n2, .slice B ys.length d] 24)).alloc (.cells #[.bool false, .slice none 0 0] 24))
  have ry := (((g.alloc (.cells #[.bool n1, .slice A xs.length c] 24)).alloc (.cells #[.bool n2, .slice B ys.length d] 24)).alloc (.cells #[.bool false, .slice none 0 0] 24))
  have b0 := (((Below.refl w.heap.size w).alloc (Nat.le_refl _) (.cells #[.bool n1, .slice A xs.length c] 24)).alloc (by simp) (.cells #[.bool n2, .slice B ys.length d] 24)).alloc (by simp; omega) (.cells #[.bool false, .slice none 0 0] 24)
  simp only [World.size_alloc] at py pr
  clear h g
  go_enter Tryd.func8, Tryd.ntmps8
  go_wp2_with fail
  obtain ⟨W, E⟩ : ∃ W, W = ((w.alloc (.cells #[.bool n1, .slice A xs.length c] 24)).alloc (.cells #[.bool n2, .slice B ys.length d] 24)).alloc (.cells #[.bool false, .slice none 0 0] 24) := ⟨_, rfl⟩
  rw [← E] at px py pr b0 rx ry ⊢
  clear E
  have PX := Hd px
  have PY := Hd py
  have PR := Hd pr
  have B0 := Hd b0
  have RX := Hd rx
  have RY := Hd ry
  have hlr := pr.blk.lt
  have hsz := b0.size
  obtain ⟨l1, x0, x1, -, -⟩ := px.facts
  obtain ⟨l2, y0, y1, -, -⟩ := py.facts
  clear px py pr rx ry b0
  go_wp2_with (first
    | (go_at_call 20; with_reducible refine (H0.out _ RX.out RY.out).mono ?_; rintro e w1 ⟨rfl, hb⟩; have rx := RX.out.below hb; have ry := RY.out.below hb; obtain ⟨l1, x0, x1, -, -⟩ := (PX.out.below hb).facts; obtain ⟨l2, y0, y1, -, -⟩ := (PY.out.below hb).facts)
    | (go_at_call 22; refine (H1.out _ rx ry).mono ?_; rintro e w2 ⟨v, rfl, hI, hb2⟩)
    | (go_at_call 21; refine (H2.out _ _ v hI).mono ?_; rintro e w3 ⟨v3, rfl, hI3, hb3⟩; obtain ⟨A1, c1, rfl, -⟩ := hI3.value; have pr := ((PR.out.below hb).below hb2).below hb3; obtain ⟨l3, z0, z1, f0, f1⟩ := pr.facts))
  have hq := pr.store (.bool (decide (r < 0))) (.slice A1 (natL r.natAbs).length c1)
  obtain ⟨_, k0, k1, _, _⟩ := hq.facts
  have hs1 := hb.size
  exact bodyPost_ret (by simp [results, Tryd.results8, go_sem, k0, k1]) rfl ⟨_, rfl, (hI3.pair (by omega)).base (by omega), below2 (belowTo (belowTo (belowTo B0.out hb) hb2) hb3) (by omega) _ _⟩

theorem whole_Mul_bad (n1 n2 : Bool) (A B : Option Addr) (c d : Nat) (xs ys : List Nat) (o : (okI n1 xs && okI n2 ys) = false) (w : World) (h : Raw w A c xs) (g : Raw w B d ys) :
    Calls Tryd.prog 8 #[.agg #[.bool n1, .slice A xs.length c], .agg #[.bool n2, .slice B ys.length d]] w (RetInt2 w.heap.size w 0 1) := by
  have C0 := fun (V : World) (h : Raw V A c xs) (g : Raw V B d ys) => whole_fine_any n1 n2 A B c d xs ys V h g
  rw [o] at C0
  have H0 := Hd C0
  clear C0 o
  have px := ((Pair.new w 24 (.bool n1) (.slice A xs.length c)).alloc (.cells #[.bool n2, .slice B ys.length d] 24)).alloc (.cells #[.bool false, .slice none 0 0] 24)
  have py := (Pair.new (w.alloc (.cells #[.bool n1, .slice A xs.length c] 24)) 24 (.bool n2) (.slice B ys.length d)).alloc (.cells #[.bool false, .slice none 0 0] 24)
  have pr := Pair.new ((w.alloc (.cells #[.bool n1, .slice A xs.length c] 24)).alloc (.cells #[.bool n2, .slice B ys.length d] 24)) 24 (.bool false) (.slice none 0 0)
  have rx := (((h.alloc (.cells #[.bool n1, .slice A xs.length c] 24)).alloc (.cells #[.bool n2, .slice B ys.length d] 24)).alloc (.cells #[.bool false, .slice none 0 0] 24))
  have ry := (((g.alloc (.cells #[.bool n1, .slice A xs.length c] 24)).alloc (.cells #[.bool n2, .slice B ys.length d] 24)).alloc (.cells #[.bool false, .slice none 0 0] 24))
  have b0 := (((Below.refl w.heap.size w).alloc (Nat.le_refl _) (.cells #[.bool n1, .slice A xs.length c] 24)).alloc (by simp) (.cells #[.bool n2, .slice B ys.length d] 24)).alloc (by simp; omega) (.cells #[.bool false, .slice none 0 0] 24)
  simp only [World.size_alloc] at py pr
  clear h g
  go_enter Tryd.func8, Tryd.ntmps8
  go_wp2_with fail
  obtain ⟨W, E⟩ : ∃ W, W = ((w.alloc (.cells #[.bool n1, .slice A xs.length c] 24)).alloc (.cells #[.bool n2, .slice B ys.length d] 24)).alloc (.cells #[.bool false, .slice none 0 0] 24) := ⟨_, rfl⟩
  rw [← E] at px py pr b0 rx ry ⊢
  clear E
  have PX := Hd px
  have PY := Hd py
  have PR := Hd pr
  have B0 := Hd b0
  have RX := Hd rx
  have RY := Hd ry
  have hlr := pr.blk.lt
  have hsz := b0.size
  obtain ⟨l1, x0, x1, -, -⟩ := px.facts
  obtain ⟨l2, y0, y1, -, -⟩ := py.facts
  clear px py pr rx ry b0
  go_wp2_with (first | (go_at_call 20; with_reducible refine (H0.out _ RX.out RY.out).mono ?_; rintro e w1 ⟨rfl, hb⟩; have pr := PR.out.below hb; obtain ⟨l3, z0, z1, f0, f1⟩ := pr.facts))
  have hq := pr.store (.bool false) (.slice none 0 0)
  obtain ⟨_, k0, k1, _, _⟩ := hq.facts
  exact bodyPost_ret (by simp [results, Tryd.results8, go_sem, k0, k1]) rfl ⟨_, rfl, IntOwn.nought _ _, below2 (belowTo B0.out hb) (by omega) _ _⟩

theorem whole_Mul (n1 n2 : Bool) (A B : Option Addr) (c d : Nat) (xs ys : List Nat) (w : World) (h : Raw w A c xs) (g : Raw w B d ys) :
    Calls Tryd.prog 8 #[.agg #[.bool n1, .slice A xs.length c], .agg #[.bool n2, .slice B ys.length d]] w (RetInt2 w.heap.size w (if okI n1 xs && okI n2 ys then toldV (ival n1 xs * ival n2 ys) else 0) (if okI n1 xs && okI n2 ys then toldE (ival n1 xs * ival n2 ys) else 1)) := by
  by_cases o : (okI n1 xs && okI n2 ys) = true
  · rw [if_pos o, if_pos o]
    have o' := Bool.and_eq_true_iff.1 o
    exact whole_Mul_ok n1 n2 A B c d xs ys o'.1 o'.2 _ (Hd rfl) _ _ (Hd rfl) (Hd rfl) w h g
  · rw [if_neg o, if_neg o]
    exact whole_Mul_bad n1 n2 A B c d xs ys (by simpa using o) w h g

/- QuoRem and GCD of package whole and of the references. (Written by wip/exact/gendivops.py.) -/

def RetTwo3 (base : Nat) (w : World) (z1 z2 k : Int) (e : Ending) (w' : World) : Prop := ∃ v1 v2, e = .returned (.tuple #[v1, v2, .int .i64 k]) ∧ Ints2 w' base v1 z1 v2 z2 ∧ Below w.heap.size w w'
def RetBoth3 (base : Nat) (w : World) (z1 z2 k : Int) (e : Ending) (w' : World) : Prop := ∃ v1 v2, e = .returned (.tuple #[v1, v2, .int .i64 k]) ∧ IntOwn w' base v1 z1 ∧ IntOwn w' base v2 z2 ∧ Below w.heap.size w w'
def RetAt2 (w : World) (z k : Int) (e : Ending) (w' : World) : Prop := ∃ v, e = .returned (.tuple #[v, .int .i64 k]) ∧ IntAt w' v z ∧ Below w.heap.size w w'
theorem Ints2.drew {w : World} {base : Nat} {v1 v2 : Value} {z1 z2 : Int} (h : Ints2 w base v1 z1 v2 z2) : Ints2 w.drew base v1 z1 v2 z2 := h.below (Below.refl _ _).drew
theorem IntOwn.drew {w : World} {base : Nat} {v : Value} {x : Int} (h : IntOwn w base v x) : IntOwn w.drew base v x := h.below (Below.refl _ _).drew
theorem Ints2.nought (w : World) (base : Nat) : Ints2 w base (.agg #[.bool false, .slice none 0 0]) 0 (.agg #[.bool false, .slice none 0 0]) 0 :=
  ⟨IntOwn.nought _ _, IntOwn.nought _ _, fun g h => by cases h⟩
def quoV (n1 : Bool) (xs : List Nat) (n2 : Bool) (ys : List Nat) : Int := if okI n1 xs && okI n2 ys then (if ys.length = 0 then 0 else (ival n1 xs).tdiv (ival n2 ys)) else 0
def remV (n1 : Bool) (xs : List Nat) (n2 : Bool) (ys : List Nat) : Int := if okI n1 xs && okI n2 ys then (if ys.length = 0 then 0 else (ival n1 xs).tmod (ival n2 ys)) else 0
def quoE (n1 : Bool) (xs : List Nat) (n2 : Bool) (ys : List Nat) : Int := if okI n1 xs && okI n2 ys then (if ys.length = 0 then 3 else 0) else 1
def gcdV (n1 : Bool) (xs : List Nat) (n2 : Bool) (ys : List Nat) : Int := if okI n1 xs && okI n2 ys then ((Nat.gcd (val xs) (val ys) : Nat) : Int) else 0
def gcdE (n1 : Bool) (xs : List Nat) (n2 : Bool) (ys : List Nat) : Int := if okI n1 xs && okI n2 ys then 0 else 1

def RetOf (A B : Option Addr) (c d : Nat) (xs ys : List Nat) (w : World) (z : Int) (e : Ending) (w' : World) : Prop := ∃ v, e = .returned v ∧ (IntOwn w' w.heap.size v z ∨ (v = sv false A c xs ∧ z = ival false xs) ∨ (v = sv false B d ys ∧ z = ival false ys)) ∧ Below w.heap.size w w'
theorem whole_QuoRem_ok (n1 n2 : Bool) (A B : Option Addr) (c d : Nat) (xs ys : List Nat) (o1 : okI n1 xs = true) (o2 : okI n2 ys = true) (hne : ys ≠ []) (z1 z2 : Int) (HZ1 : Hid (z1 = (ival n1 xs).tdiv (ival n2 ys))) (HZ2 : Hid (z2 = (ival n1 xs).tmod (ival n2 ys))) (w : World) (h : Raw w A c xs) (g : Raw w B d ys) :
    Calls Tryd.prog 15 #[.agg #[.bool n1, .slice A xs.length c], .agg #[.bool n2, .slice B ys.length d]] w (RetTwo3 w.heap.size w z1 z2 0) := by
  have hlen : ((ys.length : Int) == 0) = false := by
    have : ys.length ≠ 0 := fun e => hne (List.eq_nil_of_length_eq_zero e)
    simp; omega
  have hcx := (okI_true.1 o1).2.1
  have hcy := (okI_true.1 o2).2.1
  have hlx := (okI_true.1 o1).1
  have hly := (okI_true.1 o2).1
  have C0 := fun (V : World) (h : Raw V A c xs) (g : Raw V B d ys) => whole_fine_any n1 n2 A B c d xs ys V h g
  rw [o1, o2, Bool.and_self] at C0
  have H0 := Hd C0
  have H1 := Hd (fun (V : World) (h : Raw V A c xs) (g : Raw V B d ys) => show Calls Tryd.prog 29 #[.agg #[.bool n1, .slice A xs.length c], .agg #[.bool n2, .slice B ys.length d]] V (RetTwo V.heap.size V z1 z2) from by rw [HZ1.out, HZ2.out]; exact exact_Divide n1 n2 A B c d xs ys hcx hcy hne (by omega) (by omega) V h g)
  clear C0 o1 o2 hcx hcy hlx hly
  have px := (((Pair.new w 24 (.bool n1) (.slice A xs.length c)).alloc (.cells #[.bool n2, .slice B ys.length d] 24)).alloc (.cells #[.bool false, .slice none 0 0] 24)).alloc (.cells #[.bool false, .slice none 0 0] 24)
  have py := ((Pair.new (w.alloc (.cells #[.bool n1, .slice A xs.length c] 24)) 24 (.bool n2) (.slice B ys.length d)).alloc (.cells #[.bool false, .slice none 0 0] 24)).alloc (.cells #[.bool false, .slice none 0 0] 24)
  have pq := (Pair.new ((w.alloc (.cells #[.bool n1, .slice A xs.length c] 24)).alloc (.cells #[.bool n2, .slice B ys.length d] 24)) 24 (.bool false) (.slice none 0 0)).alloc (.cells #[.bool false, .slice none 0 0] 24)
  have pr := Pair.new (((w.alloc (.cells #[.bool n1, .slice A xs.length c] 24)).alloc (.cells #[.bool n2, .slice B ys.length d] 24)).alloc (.cells #[.bool false, .slice none 0 0] 24)) 24 (.bool false) (.slice none 0 0)
  have rx := (((h.alloc (.cells #[.bool n1, .slice A xs.length c] 24)).alloc (.cells #[.bool n2, .slice B ys.length d] 24)).alloc (.cells #[.bool false, .slice none 0 0] 24)).alloc (.cells #[.bool false, .slice none 0 0] 24)
  have ry := (((g.alloc (.cells #[.bool n1, .slice A xs.length c] 24)).alloc (.cells #[.bool n2, .slice B ys.length d] 24)).alloc (.cells #[.bool false, .slice none 0 0] 24)).alloc (.cells #[.bool false, .slice none 0 0] 24)
  have b0 := (((Below.refl w.heap.size w).alloc (Nat.le_refl _) (.cells #[.bool n1, .slice A xs.length c] 24)).alloc (by simp) (.cells #[.bool n2, .slice B ys.length d] 24)).alloc (by simp; omega) (.cells #[.bool false, .slice none 0 0] 24)
  have b0 := b0.alloc (by simp; omega) (.cells #[.bool false, .slice none 0 0] 24)
  simp only [World.size_alloc] at py pq pr
  clear h g
  go_enter Tryd.func15, Tryd.ntmps15
  go_wp2_with fail
  obtain ⟨W, E⟩ : ∃ W, W = (((w.alloc (.cells #[.bool n1, .slice A xs.length c] 24)).alloc (.cells #[.bool n2, .slice B ys.length d] 24)).alloc (.cells #[.bool false, .slice none 0 0] 24)).alloc (.cells #[.bool false, .slice none 0 0] 24) := ⟨_, rfl⟩
  rw [← E] at px py pq pr b0 rx ry ⊢
  have hsz : W.heap.size = w.heap.size + 4 := by rw [E]; simp
  clear E
  have PX := Hd px
  have PY := Hd py
  have PQ := Hd pq
  have PR := Hd pr
  have B0 := Hd b0
  have RX := Hd rx
  have RY := Hd ry
  obtain ⟨l1, x0, x1, -, -⟩ := px.facts
  obtain ⟨l2, y0, y1, -, -⟩ := py.facts
  clear px py pq pr rx ry b0
  go_wp2_with (first
    | (go_at_call 20; with_reducible refine (H0.out _ RX.out RY.out).mono ?_; rintro e w1 ⟨rfl, hb⟩; have rx := RX.out.below hb; have ry := RY.out.below hb; obtain ⟨l1, x0, x1, -, -⟩ := (PX.out.below hb).facts; obtain ⟨l2, y0, y1, -, -⟩ := (PY.out.below hb).facts)
    | (go_at_call 29; refine (H1.out _ rx ry).mono ?_; rintro e w2 ⟨v1, v2, rfl, hI, hb2⟩; obtain ⟨b1, A1, m1, c1, rfl⟩ := hI.one.shape; obtain ⟨b2, A2, m2, c2, rfl⟩ := hI.two.shape; have pq := (PQ.out.below hb).below hb2; have pr := (PR.out.below hb).below hb2; obtain ⟨l3, q0, q1, f0, f1⟩ := pq.facts; obtain ⟨l4, r0, r1, g0, g1⟩ := pr.facts))
  have hs1 := hb.size
  have q3 := (pq.store (.bool b1) (.slice A1 m1 c1)).far (show w.heap.size + 1 + 1 ≠ w.heap.size + 1 + 1 + 1 by omega) (.bool b2) (.slice A2 m2 c2)
  have r3 := (pr.far (show w.heap.size + 1 + 1 + 1 ≠ w.heap.size + 1 + 1 by omega) (.bool b1) (.slice A1 m1 c1)).store (.bool b2) (.slice A2 m2 c2)
  have i3 := (hI.pair (g := w.heap.size + 1 + 1) (a := .bool b1) (b := .slice A1 m1 c1) (by omega)).pair (g := w.heap.size + 1 + 1 + 1) (a := .bool b2) (b := .slice A2 m2 c2) (by omega)
  have b3 := below2 (below2 (belowTo (belowTo B0.out hb) hb2) (show w.heap.size ≤ w.heap.size + 1 + 1 by omega) (.bool b1) (.slice A1 m1 c1)) (show w.heap.size ≤ w.heap.size + 1 + 1 + 1 by omega) (.bool b2) (.slice A2 m2 c2)
  obtain ⟨W3, E3⟩ : ∃ W3, W3 = ((((w2.setCell ⟨w.heap.size + 1 + 1, 0, none⟩ (.bool b1)).setCell ⟨w.heap.size + 1 + 1, 1, none⟩ (.slice A1 m1 c1)).setCell ⟨w.heap.size + 1 + 1 + 1, 0, none⟩ (.bool b2)).setCell ⟨w.heap.size + 1 + 1 + 1, 1, none⟩ (.slice A2 m2 c2)) := ⟨_, rfl⟩
  rw [← E3] at q3 r3 i3 b3 ⊢
  have hsz3 : w.heap.size + 4 ≤ w1.heap.size := by omega
  have I4 := Hd ((i3.pair (g := w.heap.size + 1 + 1) (a := .bool b1) (b := .slice A1 m1 c1) (by omega)).pair (g := w.heap.size + 1 + 1 + 1) (a := .bool b2) (b := .slice A2 m2 c2) (by omega) |>.base (b' := w.heap.size) (by omega))
  have Q4 := Hd ((q3.store (.bool b1) (.slice A1 m1 c1)).far (show w.heap.size + 1 + 1 ≠ w.heap.size + 1 + 1 + 1 by omega) (.bool b2) (.slice A2 m2 c2))
  have R4 := Hd ((r3.far (show w.heap.size + 1 + 1 + 1 ≠ w.heap.size + 1 + 1 by omega) (.bool b1) (.slice A1 m1 c1)).store (.bool b2) (.slice A2 m2 c2))
  have B4 := Hd (below2 (below2 b3 (show w.heap.size ≤ w.heap.size + 1 + 1 by omega) (.bool b1) (.slice A1 m1 c1)) (show w.heap.size ≤ w.heap.size + 1 + 1 + 1 by omega) (.bool b2) (.slice A2 m2 c2))
  obtain ⟨l3, q0, q1, f0, f1⟩ := q3.facts
  obtain ⟨l4, r0, r1, g0, g1⟩ := r3.facts
  clear E3 q3 r3 i3 hI pq pr b3 hb hb2 B0 PX PY PQ PR H0 H1 RX RY
  go_region
  all_goals (go_wp2_with fail)
  all_goals
    obtain ⟨_, k0, k1, _, _⟩ := Q4.out.facts
    obtain ⟨_, k2, k3, _, _⟩ := R4.out.facts
    exact bodyPost_ret (by simp [results, Tryd.results15, go_sem, k0, k1, k2, k3]) rfl ⟨_, _, rfl, I4.out.drew, B4.out.drew⟩

theorem whole_QuoRem_bad (n1 n2 : Bool) (A B : Option Addr) (c d : Nat) (xs ys : List Nat) (o : (okI n1 xs && okI n2 ys) = false) (w : World) (h : Raw w A c xs) (g : Raw w B d ys) :
    Calls Tryd.prog 15 #[.agg #[.bool n1, .slice A xs.length c], .agg #[.bool n2, .slice B ys.length d]] w (RetTwo3 w.heap.size w 0 0 1) := by
  have C0 := fun (V : World) (h : Raw V A c xs) (g : Raw V B d ys) => whole_fine_any n1 n2 A B c d xs ys V h g
  rw [o] at C0
  have H0 := Hd C0
  clear C0 o
  have px := (((Pair.new w 24 (.bool n1) (.slice A xs.length c)).alloc (.cells #[.bool n2, .slice B ys.length d] 24)).alloc (.cells #[.bool false, .slice none 0 0] 24)).alloc (.cells #[.bool false, .slice none 0 0] 24)
  have py := ((Pair.new (w.alloc (.cells #[.bool n1, .slice A xs.length c] 24)) 24 (.bool n2) (.slice B ys.length d)).alloc (.cells #[.bool false, .slice none 0 0] 24)).alloc (.cells #[.bool false, .slice none 0 0] 24)
  have pq := (Pair.new ((w.alloc (.cells #[.bool n1, .slice A xs.length c] 24)).alloc (.cells #[.bool n2, .slice B ys.length d] 24)) 24 (.bool false) (.slice none 0 0)).alloc (.cells #[.bool false, .slice none 0 0] 24)
  have pr := Pair.new (((w.alloc (.cells #[.bool n1, .slice A xs.length c] 24)).alloc (.cells #[.bool n2, .slice B ys.length d] 24)).alloc (.cells #[.bool false, .slice none 0 0] 24)) 24 (.bool false) (.slice none 0 0)
  have rx := (((h.alloc (.cells #[.bool n1, .slice A xs.length c] 24)).alloc (.cells #[.bool n2, .slice B ys.length d] 24)).alloc (.cells #[.bool false, .slice none 0 0] 24)).alloc (.cells #[.bool false, .slice none 0 0] 24)
  have ry := (((g.alloc (.cells #[.bool n1, .slice A xs.length c] 24)).alloc (.cells #[.bool n2, .slice B ys.length d] 24)).alloc (.cells #[.bool false, .slice none 0 0] 24)).alloc (.cells #[.bool false, .slice none 0 0] 24)
  have b0 := (((Below.refl w.heap.size w).alloc (Nat.le_refl _) (.cells #[.bool n1, .slice A xs.length c] 24)).alloc (by simp) (.cells #[.bool n2, .slice B ys.length d] 24)).alloc (by simp; omega) (.cells #[.bool false, .slice none 0 0] 24)
  have b0 := b0.alloc (by simp; omega) (.cells #[.bool false, .slice none 0 0] 24)
  simp only [World.size_alloc] at py pq pr
  clear h g
  go_enter Tryd.func15, Tryd.ntmps15
  go_wp2_with fail
  obtain ⟨W, E⟩ : ∃ W, W = (((w.alloc (.cells #[.bool n1, .slice A xs.length c] 24)).alloc (.cells #[.bool n2, .slice B ys.length d] 24)).alloc (.cells #[.bool false, .slice none 0 0] 24)).alloc (.cells #[.bool false, .slice none 0 0] 24) := ⟨_, rfl⟩
  rw [← E] at px py pq pr b0 rx ry ⊢
  have hsz : W.heap.size = w.heap.size + 4 := by rw [E]; simp
  clear E
  have PX := Hd px
  have PY := Hd py
  have PQ := Hd pq
  have PR := Hd pr
  have B0 := Hd b0
  have RX := Hd rx
  have RY := Hd ry
  obtain ⟨l1, x0, x1, -, -⟩ := px.facts
  obtain ⟨l2, y0, y1, -, -⟩ := py.facts
  clear px py pq pr rx ry b0
  go_wp2_with (first
    | (go_at_call 20; with_reducible refine (H0.out _ RX.out RY.out).mono ?_; rintro e w1 ⟨rfl, hb⟩; have pq := PQ.out.below hb; have pr := PR.out.below hb; obtain ⟨l1, x0, x1, -, -⟩ := (PX.out.below hb).facts; obtain ⟨l2, y0, y1, -, -⟩ := (PY.out.below hb).facts; obtain ⟨l3, q0, q1, f0, f1⟩ := pq.facts; obtain ⟨l4, r0, r1, g0, g1⟩ := pr.facts))
  have Q4 := Hd ((pq.store (.bool false) (.slice none 0 0)).far (show w.heap.size + 1 + 1 ≠ w.heap.size + 1 + 1 + 1 by omega) (.bool false) (.slice none 0 0))
  have R4 := Hd ((pr.far (show w.heap.size + 1 + 1 + 1 ≠ w.heap.size + 1 + 1 by omega) (.bool false) (.slice none 0 0)).store (.bool false) (.slice none 0 0))
  have B4 := Hd (below2 (below2 (belowTo B0.out hb) (show w.heap.size ≤ w.heap.size + 1 + 1 by omega) (.bool false) (.slice none 0 0)) (show w.heap.size ≤ w.heap.size + 1 + 1 + 1 by omega) (.bool false) (.slice none 0 0))
  obtain ⟨_, k0, k1, _, _⟩ := Q4.out.facts
  obtain ⟨_, k2, k3, _, _⟩ := R4.out.facts
  exact bodyPost_ret (by simp [results, Tryd.results15, go_sem, k0, k1, k2, k3]) rfl ⟨_, _, rfl, Ints2.nought _ _, B4.out⟩

theorem whole_QuoRem_nought (n1 n2 : Bool) (A B : Option Addr) (c d : Nat) (xs ys : List Nat) (o1 : (okI n1 xs && okI n2 ys) = true) (he : ys = []) (w : World) (h : Raw w A c xs) (g : Raw w B d ys) :
    Calls Tryd.prog 15 #[.agg #[.bool n1, .slice A xs.length c], .agg #[.bool n2, .slice B ys.length d]] w (RetTwo3 w.heap.size w 0 0 3) := by
  have C0 := fun (V : World) (h : Raw V A c xs) (g : Raw V B d ys) => whole_fine_any n1 n2 A B c d xs ys V h g
  rw [o1] at C0
  have H0 := Hd C0
  have hlen : ((ys.length : Int) == 0) = true := by subst he; rfl
  clear C0 o1 he
  have px := (((Pair.new w 24 (.bool n1) (.slice A xs.length c)).alloc (.cells #[.bool n2, .slice B ys.length d] 24)).alloc (.cells #[.bool false, .slice none 0 0] 24)).alloc (.cells #[.bool false, .slice none 0 0] 24)
  have py := ((Pair.new (w.alloc (.cells #[.bool n1, .slice A xs.length c] 24)) 24 (.bool n2) (.slice B ys.length d)).alloc (.cells #[.bool false, .slice none 0 0] 24)).alloc (.cells #[.bool false, .slice none 0 0] 24)
  have pq := (Pair.new ((w.alloc (.cells #[.bool n1, .slice A xs.length c] 24)).alloc (.cells #[.bool n2, .slice B ys.length d] 24)) 24 (.bool false) (.slice none 0 0)).alloc (.cells #[.bool false, .slice none 0 0] 24)
  have pr := Pair.new (((w.alloc (.cells #[.bool n1, .slice A xs.length c] 24)).alloc (.cells #[.bool n2, .slice B ys.length d] 24)).alloc (.cells #[.bool false, .slice none 0 0] 24)) 24 (.bool false) (.slice none 0 0)
  have rx := (((h.alloc (.cells #[.bool n1, .slice A xs.length c] 24)).alloc (.cells #[.bool n2, .slice B ys.length d] 24)).alloc (.cells #[.bool false, .slice none 0 0] 24)).alloc (.cells #[.bool false, .slice none 0 0] 24)
  have ry := (((g.alloc (.cells #[.bool n1, .slice A xs.length c] 24)).alloc (.cells #[.bool n2, .slice B ys.length d] 24)).alloc (.cells #[.bool false, .slice none 0 0] 24)).alloc (.cells #[.bool false, .slice none 0 0] 24)
  have b0 := (((Below.refl w.heap.size w).alloc (Nat.le_refl _) (.cells #[.bool n1, .slice A xs.length c] 24)).alloc (by simp) (.cells #[.bool n2, .slice B ys.length d] 24)).alloc (by simp; omega) (.cells #[.bool false, .slice none 0 0] 24)
  have b0 := b0.alloc (by simp; omega) (.cells #[.bool false, .slice none 0 0] 24)
  simp only [World.size_alloc] at py pq pr
  clear h g
  go_enter Tryd.func15, Tryd.ntmps15
  go_wp2_with fail
  obtain ⟨W, E⟩ : ∃ W, W = (((w.alloc (.cells #[.bool n1, .slice A xs.length c] 24)).alloc (.cells #[.bool n2, .slice B ys.length d] 24)).alloc (.cells #[.bool false, .slice none 0 0] 24)).alloc (.cells #[.bool false, .slice none 0 0] 24) := ⟨_, rfl⟩
  rw [← E] at px py pq pr b0 rx ry ⊢
  have hsz : W.heap.size = w.heap.size + 4 := by rw [E]; simp
  clear E
  have PX := Hd px
  have PY := Hd py
  have PQ := Hd pq
  have PR := Hd pr
  have B0 := Hd b0
  have RX := Hd rx
  have RY := Hd ry
  obtain ⟨l1, x0, x1, -, -⟩ := px.facts
  obtain ⟨l2, y0, y1, -, -⟩ := py.facts
  clear px py pq pr rx ry b0
  go_wp2_with (first
    | (go_at_call 20; with_reducible refine (H0.out _ RX.out RY.out).mono ?_; rintro e w1 ⟨rfl, hb⟩; have pq := PQ.out.below hb; have pr := PR.out.below hb; obtain ⟨l1, x0, x1, -, -⟩ := (PX.out.below hb).facts; obtain ⟨l2, y0, y1, -, -⟩ := (PY.out.below hb).facts; obtain ⟨l3, q0, q1, f0, f1⟩ := pq.facts; obtain ⟨l4, r0, r1, g0, g1⟩ := pr.facts))
  have Q4 := Hd ((pq.store (.bool false) (.slice none 0 0)).far (show w.heap.size + 1 + 1 ≠ w.heap.size + 1 + 1 + 1 by omega) (.bool false) (.slice none 0 0))
  have R4 := Hd ((pr.far (show w.heap.size + 1 + 1 + 1 ≠ w.heap.size + 1 + 1 by omega) (.bool false) (.slice none 0 0)).store (.bool false) (.slice none 0 0))
  have B4 := Hd (below2 (below2 (belowTo B0.out hb) (show w.heap.size ≤ w.heap.size + 1 + 1 by omega) (.bool false) (.slice none 0 0)) (show w.heap.size ≤ w.heap.size + 1 + 1 + 1 by omega) (.bool false) (.slice none 0 0))
  obtain ⟨_, k0, k1, _, _⟩ := Q4.out.facts
  obtain ⟨_, k2, k3, _, _⟩ := R4.out.facts
  exact bodyPost_ret (by simp [results, Tryd.results15, go_sem, k0, k1, k2, k3]) rfl ⟨_, _, rfl, Ints2.nought _ _, B4.out⟩

theorem whole_QuoRem (n1 n2 : Bool) (A B : Option Addr) (c d : Nat) (xs ys : List Nat) (w : World) (h : Raw w A c xs) (g : Raw w B d ys) :
    Calls Tryd.prog 15 #[.agg #[.bool n1, .slice A xs.length c], .agg #[.bool n2, .slice B ys.length d]] w (RetTwo3 w.heap.size w (quoV n1 xs n2 ys) (remV n1 xs n2 ys) (quoE n1 xs n2 ys)) := by
  unfold quoV remV quoE
  by_cases o : (okI n1 xs && okI n2 ys) = true
  · rw [if_pos o, if_pos o, if_pos o]
    have o' := Bool.and_eq_true_iff.1 o
    by_cases hy : ys.length = 0
    · rw [if_pos hy, if_pos hy, if_pos hy]
      exact whole_QuoRem_nought n1 n2 A B c d xs ys o (List.eq_nil_of_length_eq_zero hy) w h g
    · rw [if_neg hy, if_neg hy, if_neg hy]
      exact whole_QuoRem_ok n1 n2 A B c d xs ys o'.1 o'.2 (fun e => hy (by rw [e]; rfl)) _ _ (Hd rfl) (Hd rfl) w h g
  · rw [if_neg o, if_neg o, if_neg o]
    exact whole_QuoRem_bad n1 n2 A B c d xs ys (by simpa using o) w h g

end Go.Proofs.YtkncbenhfcpgkaaDoor
