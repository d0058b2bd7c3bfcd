/- Several texts in one: Answerq1, Intsq1, KeptAtq1. -/
import Derived.Test.YtkncbenhfcpgkaaDoorBu17
import Derived.Test.YtkncbenhfcpgkaaDoorBuHd
import Derived.Test.YtkncbenhfcpgkaaDoorBu14
import Derived.Test.YtkncbenhfcpgkaaDoorBu13
import Derived.Test.YtkncbenhfcpgkaaDoorBu10
import Derived.Test.YtkncbenhfcpgkaaDoorBu09
import Derived.Test.YtkncbenhfcpgkaaDoorBu01
import Derived.Test.YtkncbenhfcpgkaaDoorBu05
import Derived.Test.YtkncbenhfcpgkaaDoorBu04
import Derived.Test.YtkncbenhfcpgkaaDoorBu03
import Derived.Test.YtkncbenhfcpgkaaDoorBu02
import Derived.Test.YtkncbenhfcpgkaaDoorBu11
import Derived.Test.YtkncbenhfcpgkaaDoorBu12
import Derived.Test.YtkncbenhfcpgkaaDoorBu06
import Derived.Test.YtkncbenhfcpgkaaDoorBu08
import Derived.Test.YtkncbenhfcpgkaaDoorBu19
import Derived.Test.YtkncbenhfcpgkaaDoorBu18
import Derived.Test.YtkncbenhfcpgkaaDoorBu16
import Derived.Test.YtkncbenhfcpgkaaDoorBu15
import Derived.Test.YtkncbenhfcpgkaaDoorBu07
import Derived.Test.YtkncbenhfcpgkaaDoorBu21
set_option maxRecDepth 100000
set_option maxHeartbeats 8000000
/- told, Add, Sub, Mul of package whole and of the references. (Written by wip/exact/gentold.py.) -/
namespace Go.Proofs.YtkncbenhfcpgkaaDoor
open Go.RowKit

theorem whole_Add_ok (n1 n2 : Bool) (A B : Option Addr) (c d : Nat) (xs ys : List Nat) (o1 : okI n1 xs = true) (o2 : okI n2 ys = true) (z : Int) (HZV : Hid (z = ival n1 xs + ival n2 ys)) (r k : Int) (HR : Hid (r = toldV z)) (HK : Hid (k = toldE z)) (w : World) (h : Raw w A c xs) (g : Raw w B d ys) :
    Calls Tryd.prog 9 #[.agg #[.bool n1, .slice A xs.length c], .agg #[.bool n2, .slice B ys.length d]] w (RetInt2 w.heap.size w r k) := by
  have C0 := fun (V : World) (h : Raw V A c xs) (g : Raw V B d ys) => whole_fine_any n1 n2 A B c d xs ys V h g
  have C1 := fun (V : World) (h : Raw V A c xs) (g : Raw V B d ys) => show Calls Tryd.prog 23 #[.agg #[.bool n1, .slice A xs.length c], .agg #[.bool n2, .slice B ys.length d]] V (RetInt V.heap.size V z) from by rw [HZV.out]; exact exact_Plus n1 n2 A B c d xs ys (okI_true.1 o1).2.1 (okI_true.1 o2).2.1 (by have := (okI_true.1 o1).1; omega) (by have := (okI_true.1 o2).1; omega) V h g
  have C2 := fun (V : World) (base : Nat) (v : Value) (hv : IntOwn V base v z) => show Calls Tryd.prog 21 #[v] V (RetInt2 base V r k) from by rw [HR.out, HK.out]; exact whole_told base v z V hv
  rw [o1, o2, Bool.and_self] at C0
  have H1 := Hd C1
  have H2 := Hd C2
  have H0 := Hd C0
  clear C0 C1 C2 o1 o2
  have px := ((Pair.new w 24 (.bool n1) (.slice A xs.length c)).alloc (.cells #[.bool n2, .slice B ys.length d] 24)).alloc (.cells #[.bool false, .slice none 0 0] 24)
  have py := (Pair.new (w.alloc (.cells #[.bool n1, .slice A xs.length c] 24)) 24 (.bool n2) (.slice B ys.length d)).alloc (.cells #[.bool false, .slice none 0 0] 24)
  have pr := Pair.new ((w.alloc (.cells #[.bool n1, .slice A xs.length c] 24)).alloc (.cells #[.bool n2, .slice B ys.length d] 24)) 24 (.bool false) (.slice none 0 0)
  have rx := (((h.alloc (.cells #[.bool n1, .slice A xs.length c] 24)).alloc (.cells #[.bool n2, .slice B ys.length d] 24)).alloc (.cells #[.bool false, .slice none 0 0] 24))
  have ry := (((g.alloc (.cells #[.bool n1, .slice A xs.length c] 24)).alloc (.cells #[.bool n2, .slice B ys.length d] 24)).alloc (.cells #[.bool false, .slice none 0 0] 24))
  have b0 := (((Below.refl w.heap.size w).alloc (Nat.le_refl _) (.cells #[.bool n1, .slice A xs.length c] 24)).alloc (by simp) (.cells #[.bool n2, .slice B ys.length d] 24)).alloc (by simp; omega) (.cells #[.bool false, .slice none 0 0] 24)
  simp only [World.size_alloc] at py pr
  clear h g
  go_enter Tryd.func9, Tryd.ntmps9
  go_wp2_with fail
  obtain ⟨W, E⟩ : ∃ W, W = ((w.alloc (.cells #[.bool n1, .slice A xs.length c] 24)).alloc (.cells #[.bool n2, .slice B ys.length d] 24)).alloc (.cells #[.bool false, .slice none 0 0] 24) := ⟨_, rfl⟩
  rw [← E] at px py pr b0 rx ry ⊢
  clear E
  have PX := Hd px
  have PY := Hd py
  have PR := Hd pr
  have B0 := Hd b0
  have RX := Hd rx
  have RY := Hd ry
  have hlr := pr.blk.lt
  have hsz := b0.size
  obtain ⟨l1, x0, x1, -, -⟩ := px.facts
  obtain ⟨l2, y0, y1, -, -⟩ := py.facts
  clear px py pr rx ry b0
  go_wp2_with (first
    | (go_at_call 20; with_reducible refine (H0.out _ RX.out RY.out).mono ?_; rintro e w1 ⟨rfl, hb⟩; have rx := RX.out.below hb; have ry := RY.out.below hb; obtain ⟨l1, x0, x1, -, -⟩ := (PX.out.below hb).facts; obtain ⟨l2, y0, y1, -, -⟩ := (PY.out.below hb).facts)
    | (go_at_call 23; refine (H1.out _ rx ry).mono ?_; rintro e w2 ⟨v, rfl, hI, hb2⟩)
    | (go_at_call 21; refine (H2.out _ _ v hI).mono ?_; rintro e w3 ⟨v3, rfl, hI3, hb3⟩; obtain ⟨A1, c1, rfl, -⟩ := hI3.value; have pr := ((PR.out.below hb).below hb2).below hb3; obtain ⟨l3, z0, z1, f0, f1⟩ := pr.facts))
  have hq := pr.store (.bool (decide (r < 0))) (.slice A1 (natL r.natAbs).length c1)
  obtain ⟨_, k0, k1, _, _⟩ := hq.facts
  have hs1 := hb.size
  exact bodyPost_ret (by simp [results, Tryd.results9, go_sem, k0, k1]) rfl ⟨_, rfl, (hI3.pair (by omega)).base (by omega), below2 (belowTo (belowTo (belowTo B0.out hb) hb2) hb3) (by omega) _ _⟩

theorem whole_Add_bad (n1 n2 : Bool) (A B : Option Addr) (c d : Nat) (xs ys : List Nat) (o : (okI n1 xs && okI n2 ys) = false) (w : World) (h : Raw w A c xs) (g : Raw w B d ys) :
    Calls Tryd.prog 9 #[.agg #[.bool n1, .slice A xs.length c], .agg #[.bool n2, .slice B ys.length d]] w (RetInt2 w.heap.size w 0 1) := by
  have C0 := fun (V : World) (h : Raw V A c xs) (g : Raw V B d ys) => whole_fine_any n1 n2 A B c d xs ys V h g
  rw [o] at C0
  have H0 := Hd C0
  clear C0 o
  have px := ((Pair.new w 24 (.bool n1) (.slice A xs.length c)).alloc (.cells #[.bool n2, .slice B ys.length d] 24)).alloc (.cells #[.bool false, .slice none 0 0] 24)
  have py := (Pair.new (w.alloc (.cells #[.bool n1, .slice A xs.length c] 24)) 24 (.bool n2) (.slice B ys.length d)).alloc (.cells #[.bool false, .slice none 0 0] 24)
  have pr := Pair.new ((w.alloc (.cells #[.bool n1, .slice A xs.length c] 24)).alloc (.cells #[.bool n2, .slice B ys.length d] 24)) 24 (.bool false) (.slice none 0 0)
  have rx := (((h.alloc (.cells #[.bool n1, .slice A xs.length c] 24)).alloc (.cells #[.bool n2, .slice B ys.length d] 24)).alloc (.cells #[.bool false, .slice none 0 0] 24))
  have ry := (((g.alloc (.cells #[.bool n1, .slice A xs.length c] 24)).alloc (.cells #[.bool n2, .slice B ys.length d] 24)).alloc (.cells #[.bool false, .slice none 0 0] 24))
  have b0 := (((Below.refl w.heap.size w).alloc (Nat.le_refl _) (.cells #[.bool n1, .slice A xs.length c] 24)).alloc (by simp) (.cells #[.bool n2, .slice B ys.length d] 24)).alloc (by simp; omega) (.cells #[.bool false, .slice none 0 0] 24)
  simp only [World.size_alloc] at py pr
  clear h g
  go_enter Tryd.func9, Tryd.ntmps9
  go_wp2_with fail
  obtain ⟨W, E⟩ : ∃ W, W = ((w.alloc (.cells #[.bool n1, .slice A xs.length c] 24)).alloc (.cells #[.bool n2, .slice B ys.length d] 24)).alloc (.cells #[.bool false, .slice none 0 0] 24) := ⟨_, rfl⟩
  rw [← E] at px py pr b0 rx ry ⊢
  clear E
  have PX := Hd px
  have PY := Hd py
  have PR := Hd pr
  have B0 := Hd b0
  have RX := Hd rx
  have RY := Hd ry
  have hlr := pr.blk.lt
  have hsz := b0.size
  obtain ⟨l1, x0, x1, -, -⟩ := px.facts
  obtain ⟨l2, y0, y1, -, -⟩ := py.facts
  clear px py pr rx ry b0
  go_wp2_with (first | (go_at_call 20; with_reducible refine (H0.out _ RX.out RY.out).mono ?_; rintro e w1 ⟨rfl, hb⟩; have pr := PR.out.below hb; obtain ⟨l3, z0, z1, f0, f1⟩ := pr.facts))
  have hq := pr.store (.bool false) (.slice none 0 0)
  obtain ⟨_, k0, k1, _, _⟩ := hq.facts
  exact bodyPost_ret (by simp [results, Tryd.results9, go_sem, k0, k1]) rfl ⟨_, rfl, IntOwn.nought _ _, below2 (belowTo B0.out hb) (by omega) _ _⟩

theorem whole_Add (n1 n2 : Bool) (A B : Option Addr) (c d : Nat) (xs ys : List Nat) (w : World) (h : Raw w A c xs) (g : Raw w B d ys) :
    Calls Tryd.prog 9 #[.agg #[.bool n1, .slice A xs.length c], .agg #[.bool n2, .slice B ys.length d]] w (RetInt2 w.heap.size w (if okI n1 xs && okI n2 ys then toldV (ival n1 xs + ival n2 ys) else 0) (if okI n1 xs && okI n2 ys then toldE (ival n1 xs + ival n2 ys) else 1)) := by
  by_cases o : (okI n1 xs && okI n2 ys) = true
  · rw [if_pos o, if_pos o]
    have o' := Bool.and_eq_true_iff.1 o
    exact whole_Add_ok n1 n2 A B c d xs ys o'.1 o'.2 _ (Hd rfl) _ _ (Hd rfl) (Hd rfl) w h g
  · rw [if_neg o, if_neg o]
    exact whole_Add_bad n1 n2 A B c d xs ys (by simpa using o) w h g

/- The calls of package whole over numbers that may be, told by the numbers alone. -/

section
variable (x y z : Int) (A B : Option Addr) (c d : Nat) (hx : Fit x) (hy : Fit y) (w : World) (h : Raw w A c (natL x.natAbs)) (g : Raw w B d (natL y.natAbs))
include hx hy h g
theorem add_o (hz : z = x + y) (fz : Fit z) : Calls Tryd.prog 9 #[.agg #[.bool (decide (x < 0)), .slice A (natL x.natAbs).length c], .agg #[.bool (decide (y < 0)), .slice B (natL y.natAbs).length d]] w (RetInt2 w.heap.size w z 0) := by
  have := whole_Add (decide (x < 0)) (decide (y < 0)) A B c d _ _ w h g
  rw [hx.ok, hy.ok, ival_at, ival_at, ← hz, toldV_fits fz, toldE_fits fz] at this
  exact this
theorem mul_long (fz : ¬ Fit (x * y)) : Calls Tryd.prog 8 #[.agg #[.bool (decide (x < 0)), .slice A (natL x.natAbs).length c], .agg #[.bool (decide (y < 0)), .slice B (natL y.natAbs).length d]] w (RetN2 w 0 4) := by
  have := whole_Mul (decide (x < 0)) (decide (y < 0)) A B c d _ _ w h g
  rw [hx.ok, hy.ok, ival_at, ival_at, toldV_long (by unfold Fit at fz; omega), toldE_long (by unfold Fit at fz; omega)] at this
  exact this.mono fun e w' q => q.n2
end
/- Numbers at hand where memory only grows; stores that change nothing. -/

theorem set_same2 {w : World} {g : Nat} {t : TypeId} {a b : Value} (h : Pair w g t a b) : (w.setCell ⟨g, 0, none⟩ a).setCell ⟨g, 1, none⟩ b = w := by
  have e : ((w.setCell ⟨g, 0, none⟩ a).setCell ⟨g, 1, none⟩ b).heap = w.heap := by
    refine Array.ext_getElem? fun k => ?_
    by_cases hk : k = g
    · subst hk
      have h1 := (h.store a b).blk
      have h2 := h.blk
      unfold Blk at h1 h2
      rw [h1, h2]
    · rw [Below.heap_setCell _ ⟨g, 1, none⟩ b k hk, Below.heap_setCell w ⟨g, 0, none⟩ a k hk]
  unfold World.setCell at e ⊢
  simp only at e
  rw [e]
theorem IntOwn.pairT {w : World} {base g : Nat} {v a b : Value} {x : Int} (h : IntOwn w base v x) (p : Pair w g 24 a b) (y z : Value) : IntOwn ((w.setCell ⟨g, 0, none⟩ y).setCell ⟨g, 1, none⟩ z) base v x := by
  obtain ⟨A, c, h1, h2, h3, h4⟩ := h.form
  exact ⟨A, c, h1, h2, h3, own_pair h4 (own_blk_ne h4 p.blk (by decide))⟩
end Go.Proofs.YtkncbenhfcpgkaaDoor
