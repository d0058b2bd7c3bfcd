/- Several texts in one: Answer, Twin2, Answered. -/
import Derived.Test.YtpcdiijmhllejaaGreatDoorPk10
import Derived.Test.YtpcdiijmhllejaaGreatDoorPk06
import Derived.Test.YtpcdiijmhllejaaGreatDoorPk07
/- told, Add, Sub, Mul of package whole and of the references. (Written by wip/exact/gentold.py.) -/
namespace Go.Proofs.YtpcdiijmhllejaaGreatDoor
open Go.RowKit

theorem toldV_fits {z : Int} (h : (natL z.natAbs).length ≤ 2048) : toldV z = z := by unfold toldV; rw [if_pos h]
theorem toldE_fits {z : Int} (h : (natL z.natAbs).length ≤ 2048) : toldE z = 0 := by unfold toldE; rw [if_pos h]
theorem toldV_long {z : Int} (h : 2048 < (natL z.natAbs).length) : toldV z = 0 := by unfold toldV; rw [if_neg (by omega)]
theorem toldE_long {z : Int} (h : 2048 < (natL z.natAbs).length) : toldE z = 4 := by unfold toldE; rw [if_neg (by omega)]
theorem IntOwn.value {w : World} {base : Nat} {v : Value} {x : Int} (h : IntOwn w base v x) : ∃ A c, v = .agg #[.bool (decide (x < 0)), .slice A (natL x.natAbs).length c] ∧ (natL x.natAbs).length ≤ 9223372036854775807 := by
  obtain ⟨A, c, h1, h2, h3, _⟩ := h.form
  exact ⟨A, c, h1, by omega⟩

set_option maxRecDepth 100000 in
set_option maxHeartbeats 1000000 in
theorem whole_told_fits (b : Bool) (A : Option Addr) (n c : Nat) (hn : n ≤ 9223372036854775807) (hf : n ≤ 2048) (w : World) :
    Calls Tryz.prog 29 #[.agg #[.bool b, .slice A n c]] w fun e w' => e = .returned (.tuple #[.agg #[.bool b, .slice A n c], .int .i64 0]) ∧ Below w.heap.size w w' := by
  have pr := Pair.new (w.alloc (.cells #[.bool b, .slice A n c] 24)) 24 (.bool false) (.slice none 0 0)
  have px := (Pair.new w 24 (.bool b) (.slice A n c)).alloc (.cells #[.bool false, .slice none 0 0] 24)
  have b0 := ((Below.refl w.heap.size w).alloc (Nat.le_refl _) (.cells #[.bool b, .slice A n c] 24)).alloc (by simp) (.cells #[.bool false, .slice none 0 0] 24)
  simp only [World.size_alloc] at pr
  have C1 := fun (V : World) (g : Nat) (hg : V.heap.size = g) => exact_Long (some ⟨g, 0, none⟩) 1 [(b, A, n, c)] (by simp) (by simp; omega) (V.alloc (.cells #[.bool b, .slice A n c] 24)) (by subst hg; exact (Reads.new1 V 24 2 [.bool b, .slice A n c] rfl).more (by simp))
  simp only [List.any_cons, List.any_nil, Bool.or_false, List.length_singleton] at C1
  rw [decide_eq_false (show ¬ 2048 < n from by omega)] at C1
  have C := Lib.hid C1
  clear C1
  have PX := Lib.hid px
  have PR := Lib.hid pr
  have B0 := Lib.hid b0
  clear px pr b0
  go_enter Tryz.func29, Tryz.ntmps29
  go_wp2_with (go_at_call 101; with_reducible refine (C.out _ _ (by simp)).mono ?_; rintro e w' ⟨rfl, hb⟩; have px := (PX.out.alloc _).below hb; have pr := (PR.out.alloc _).below hb; have B1 := belowTo (B0.out.alloc B0.out.size _) hb; have hl0 := B0.out.size; obtain ⟨l1, x0, x1, f0, f1⟩ := px.facts; obtain ⟨l2, y0, y1, g0, g1⟩ := pr.facts)
  have hq := pr.store (.bool b) (.slice A n c)
  obtain ⟨_, k0, k1, _, _⟩ := hq.facts
  exact bodyPost_ret (by simp [results, Tryz.results29, go_sem, k0, k1]) rfl ⟨rfl, below2 B1 (by omega) _ _⟩

set_option maxRecDepth 100000 in
set_option maxHeartbeats 1000000 in
theorem whole_told_long (b : Bool) (A : Option Addr) (n c : Nat) (hn : n ≤ 9223372036854775807) (hf : 2048 < n) (w : World) :
    Calls Tryz.prog 29 #[.agg #[.bool b, .slice A n c]] w fun e w' => e = .returned (.tuple #[.agg #[.bool false, .slice none 0 0], .int .i64 4]) ∧ Below w.heap.size w w' := by
  have pr := Pair.new (w.alloc (.cells #[.bool b, .slice A n c] 24)) 24 (.bool false) (.slice none 0 0)
  have px := (Pair.new w 24 (.bool b) (.slice A n c)).alloc (.cells #[.bool false, .slice none 0 0] 24)
  have b0 := ((Below.refl w.heap.size w).alloc (Nat.le_refl _) (.cells #[.bool b, .slice A n c] 24)).alloc (by simp) (.cells #[.bool false, .slice none 0 0] 24)
  simp only [World.size_alloc] at pr
  have C1 := fun (V : World) (g : Nat) (hg : V.heap.size = g) => exact_Long (some ⟨g, 0, none⟩) 1 [(b, A, n, c)] (by simp) (by simp; omega) (V.alloc (.cells #[.bool b, .slice A n c] 24)) (by subst hg; exact (Reads.new1 V 24 2 [.bool b, .slice A n c] rfl).more (by simp))
  simp only [List.any_cons, List.any_nil, Bool.or_false, List.length_singleton] at C1
  rw [decide_eq_true (show 2048 < n from hf)] at C1
  have C := Lib.hid C1
  clear C1
  have PX := Lib.hid px
  have PR := Lib.hid pr
  have B0 := Lib.hid b0
  clear px pr b0
  go_enter Tryz.func29, Tryz.ntmps29
  go_wp2_with (go_at_call 101; with_reducible refine (C.out _ _ (by simp)).mono ?_; rintro e w' ⟨rfl, hb⟩; have px := (PX.out.alloc _).below hb; have pr := (PR.out.alloc _).below hb; have B1 := belowTo (B0.out.alloc B0.out.size _) hb; have hl0 := B0.out.size; obtain ⟨l1, x0, x1, f0, f1⟩ := px.facts; obtain ⟨l2, y0, y1, g0, g1⟩ := pr.facts)
  have hq := pr.store (.bool false) (.slice none 0 0)
  obtain ⟨_, k0, k1, _, _⟩ := hq.facts
  exact bodyPost_ret (by simp [results, Tryz.results29, go_sem, k0, k1]) rfl ⟨rfl, below2 B1 (by omega) _ _⟩

theorem whole_told (base : Nat) (v : Value) (z : Int) (w : World) (h : IntOwn w base v z) :
    Calls Tryz.prog 29 #[v] w (RetInt2 base w (toldV z) (toldE z)) := by
  obtain ⟨A, c, rfl, hn⟩ := h.value
  by_cases hf : (natL z.natAbs).length ≤ 2048
  · rw [toldV_fits hf, toldE_fits hf]
    refine (whole_told_fits _ A _ c hn hf w).mono ?_
    rintro e w' ⟨rfl, hb⟩
    exact ⟨_, rfl, h.below hb, hb⟩
  · rw [toldV_long (by omega), toldE_long (by omega)]
    refine (whole_told_long _ A _ c hn (by omega) w).mono ?_
    rintro e w' ⟨rfl, hb⟩
    exact ⟨_, rfl, IntOwn.nought _ _, hb⟩

set_option maxRecDepth 100000 in
set_option maxHeartbeats 1000000 in
theorem ref_told_fits (b : Bool) (A : Option Addr) (n c : Nat) (hn : n ≤ 9223372036854775807) (hf : n ≤ 2048) (w : World) :
    Calls Tryz.prog 34 #[.agg #[.bool b, .slice A n c]] w fun e w' => e = .returned (.tuple #[.agg #[.bool b, .slice A n c], .int .i64 0]) ∧ Below w.heap.size w w' := by
  have pr := Pair.new (w.alloc (.cells #[.bool b, .slice A n c] 24)) 24 (.bool false) (.slice none 0 0)
  have px := (Pair.new w 24 (.bool b) (.slice A n c)).alloc (.cells #[.bool false, .slice none 0 0] 24)
  have b0 := ((Below.refl w.heap.size w).alloc (Nat.le_refl _) (.cells #[.bool b, .slice A n c] 24)).alloc (by simp) (.cells #[.bool false, .slice none 0 0] 24)
  simp only [World.size_alloc] at pr
  have C1 := fun (V : World) => ref_Long b A n c hn V
  rw [decide_eq_false (show ¬ 2048 < n from by omega)] at C1
  have C := Lib.hid C1
  clear C1
  have PX := Lib.hid px
  have PR := Lib.hid pr
  have B0 := Lib.hid b0
  clear px pr b0
  go_enter Tryz.func34, Tryz.ntmps34
  go_wp2_with (go_at_call 106; with_reducible refine (C.out _).mono ?_; rintro e w' ⟨rfl, hb⟩; have px := PX.out.below hb; have pr := PR.out.below hb; have B1 := belowTo B0.out hb; have hl0 := B0.out.size; obtain ⟨l1, x0, x1, f0, f1⟩ := px.facts; obtain ⟨l2, y0, y1, g0, g1⟩ := pr.facts)
  have hq := pr.store (.bool b) (.slice A n c)
  obtain ⟨_, k0, k1, _, _⟩ := hq.facts
  exact bodyPost_ret (by simp [results, Tryz.results34, go_sem, k0, k1]) rfl ⟨rfl, below2 B1 (by omega) _ _⟩

set_option maxRecDepth 100000 in
set_option maxHeartbeats 1000000 in
theorem ref_told_long (b : Bool) (A : Option Addr) (n c : Nat) (hn : n ≤ 9223372036854775807) (hf : 2048 < n) (w : World) :
    Calls Tryz.prog 34 #[.agg #[.bool b, .slice A n c]] w fun e w' => e = .returned (.tuple #[.agg #[.bool false, .slice none 0 0], .int .i64 4]) ∧ Below w.heap.size w w' := by
  have pr := Pair.new (w.alloc (.cells #[.bool b, .slice A n c] 24)) 24 (.bool false) (.slice none 0 0)
  have px := (Pair.new w 24 (.bool b) (.slice A n c)).alloc (.cells #[.bool false, .slice none 0 0] 24)
  have b0 := ((Below.refl w.heap.size w).alloc (Nat.le_refl _) (.cells #[.bool b, .slice A n c] 24)).alloc (by simp) (.cells #[.bool false, .slice none 0 0] 24)
  simp only [World.size_alloc] at pr
  have C1 := fun (V : World) => ref_Long b A n c hn V
  rw [decide_eq_true (show 2048 < n from hf)] at C1
  have C := Lib.hid C1
  clear C1
  have PX := Lib.hid px
  have PR := Lib.hid pr
  have B0 := Lib.hid b0
  clear px pr b0
  go_enter Tryz.func34, Tryz.ntmps34
  go_wp2_with (go_at_call 106; with_reducible refine (C.out _).mono ?_; rintro e w' ⟨rfl, hb⟩; have px := PX.out.below hb; have pr := PR.out.below hb; have B1 := belowTo B0.out hb; have hl0 := B0.out.size; obtain ⟨l1, x0, x1, f0, f1⟩ := px.facts; obtain ⟨l2, y0, y1, g0, g1⟩ := pr.facts)
  have hq := pr.store (.bool false) (.slice none 0 0)
  obtain ⟨_, k0, k1, _, _⟩ := hq.facts
  exact bodyPost_ret (by simp [results, Tryz.results34, go_sem, k0, k1]) rfl ⟨rfl, below2 B1 (by omega) _ _⟩

theorem ref_told (base : Nat) (v : Value) (z : Int) (w : World) (h : IntOwn w base v z) :
    Calls Tryz.prog 34 #[v] w (RetInt2 base w (toldV z) (toldE z)) := by
  obtain ⟨A, c, rfl, hn⟩ := h.value
  by_cases hf : (natL z.natAbs).length ≤ 2048
  · rw [toldV_fits hf, toldE_fits hf]
    refine (ref_told_fits _ A _ c hn hf w).mono ?_
    rintro e w' ⟨rfl, hb⟩
    exact ⟨_, rfl, h.below hb, hb⟩
  · rw [toldV_long (by omega), toldE_long (by omega)]
    refine (ref_told_long _ A _ c hn (by omega) w).mono ?_
    rintro e w' ⟨rfl, hb⟩
    exact ⟨_, rfl, IntOwn.nought _ _, hb⟩

set_option maxRecDepth 100000 in
set_option maxHeartbeats 1000000 in
theorem whole_Add_ok (n1 n2 : Bool) (A B : Option Addr) (c d : Nat) (xs ys : List Nat) (o1 : okI n1 xs = true) (o2 : okI n2 ys = true) (z : Int) (HZV : Hid (z = ival n1 xs + ival n2 ys)) (r k : Int) (HR : Hid (r = toldV z)) (HK : Hid (k = toldE z)) (w : World) (h : Raw w A c xs) (g : Raw w B d ys) :
    Calls Tryz.prog 9 #[.agg #[.bool n1, .slice A xs.length c], .agg #[.bool n2, .slice B ys.length d]] w (RetInt2 w.heap.size w r k) := by
  have C0 := fun (V : World) (h : Raw V A c xs) (g : Raw V B d ys) => whole_fine_any n1 n2 A B c d xs ys V h g
  have C1 := fun (V : World) (h : Raw V A c xs) (g : Raw V B d ys) => show Calls Tryz.prog 30 #[.agg #[.bool n1, .slice A xs.length c], .agg #[.bool n2, .slice B ys.length d]] V (RetInt V.heap.size V z) from by rw [HZV.out]; exact exact_Plus n1 n2 A B c d xs ys (okI_true.1 o1).2.1 (okI_true.1 o2).2.1 (by have := (okI_true.1 o1).1; omega) (by have := (okI_true.1 o2).1; omega) V h g
  have C2 := fun (V : World) (base : Nat) (v : Value) (hv : IntOwn V base v z) => show Calls Tryz.prog 29 #[v] V (RetInt2 base V r k) from by rw [HR.out, HK.out]; exact whole_told base v z V hv
  rw [o1, o2, Bool.and_self] at C0
  have H1 := Lib.hid C1
  have H2 := Lib.hid C2
  have H0 := Lib.hid C0
  clear C0 C1 C2 o1 o2
  have px := ((Pair.new w 24 (.bool n1) (.slice A xs.length c)).alloc (.cells #[.bool n2, .slice B ys.length d] 24)).alloc (.cells #[.bool false, .slice none 0 0] 24)
  have py := (Pair.new (w.alloc (.cells #[.bool n1, .slice A xs.length c] 24)) 24 (.bool n2) (.slice B ys.length d)).alloc (.cells #[.bool false, .slice none 0 0] 24)
  have pr := Pair.new ((w.alloc (.cells #[.bool n1, .slice A xs.length c] 24)).alloc (.cells #[.bool n2, .slice B ys.length d] 24)) 24 (.bool false) (.slice none 0 0)
  have rx := (((h.alloc (.cells #[.bool n1, .slice A xs.length c] 24)).alloc (.cells #[.bool n2, .slice B ys.length d] 24)).alloc (.cells #[.bool false, .slice none 0 0] 24))
  have ry := (((g.alloc (.cells #[.bool n1, .slice A xs.length c] 24)).alloc (.cells #[.bool n2, .slice B ys.length d] 24)).alloc (.cells #[.bool false, .slice none 0 0] 24))
  have b0 := (((Below.refl w.heap.size w).alloc (Nat.le_refl _) (.cells #[.bool n1, .slice A xs.length c] 24)).alloc (by simp) (.cells #[.bool n2, .slice B ys.length d] 24)).alloc (by simp; omega) (.cells #[.bool false, .slice none 0 0] 24)
  simp only [World.size_alloc] at py pr
  clear h g
  go_enter Tryz.func9, Tryz.ntmps9
  go_wp2_with fail
  obtain ⟨W, E⟩ : ∃ W, W = ((w.alloc (.cells #[.bool n1, .slice A xs.length c] 24)).alloc (.cells #[.bool n2, .slice B ys.length d] 24)).alloc (.cells #[.bool false, .slice none 0 0] 24) := ⟨_, rfl⟩
  rw [← E] at px py pr b0 rx ry ⊢
  clear E
  have PX := Lib.hid px
  have PY := Lib.hid py
  have PR := Lib.hid pr
  have B0 := Lib.hid b0
  have RX := Lib.hid rx
  have RY := Lib.hid ry
  have hlr := pr.blk.lt
  have hsz := b0.size
  obtain ⟨l1, x0, x1, -, -⟩ := px.facts
  obtain ⟨l2, y0, y1, -, -⟩ := py.facts
  clear px py pr rx ry b0
  go_wp2_with (first
    | (go_at_call 28; with_reducible refine (H0.out _ RX.out RY.out).mono ?_; rintro e w1 ⟨rfl, hb⟩; have rx := RX.out.below hb; have ry := RY.out.below hb; obtain ⟨l1, x0, x1, -, -⟩ := (PX.out.below hb).facts; obtain ⟨l2, y0, y1, -, -⟩ := (PY.out.below hb).facts)
    | (go_at_call 30; refine (H1.out _ rx ry).mono ?_; rintro e w2 ⟨v, rfl, hI, hb2⟩)
    | (go_at_call 29; refine (H2.out _ _ v hI).mono ?_; rintro e w3 ⟨v3, rfl, hI3, hb3⟩; obtain ⟨A1, c1, rfl, -⟩ := hI3.value; have pr := ((PR.out.below hb).below hb2).below hb3; obtain ⟨l3, z0, z1, f0, f1⟩ := pr.facts))
  have hq := pr.store (.bool (decide (r < 0))) (.slice A1 (natL r.natAbs).length c1)
  obtain ⟨_, k0, k1, _, _⟩ := hq.facts
  have hs1 := hb.size
  exact bodyPost_ret (by simp [results, Tryz.results9, go_sem, k0, k1]) rfl ⟨_, rfl, (hI3.pair (by omega)).base (by omega), below2 (belowTo (belowTo (belowTo B0.out hb) hb2) hb3) (by omega) _ _⟩

set_option maxRecDepth 100000 in
set_option maxHeartbeats 1000000 in
theorem whole_Add_bad (n1 n2 : Bool) (A B : Option Addr) (c d : Nat) (xs ys : List Nat) (o : (okI n1 xs && okI n2 ys) = false) (w : World) (h : Raw w A c xs) (g : Raw w B d ys) :
    Calls Tryz.prog 9 #[.agg #[.bool n1, .slice A xs.length c], .agg #[.bool n2, .slice B ys.length d]] w (RetInt2 w.heap.size w 0 1) := by
  have C0 := fun (V : World) (h : Raw V A c xs) (g : Raw V B d ys) => whole_fine_any n1 n2 A B c d xs ys V h g
  rw [o] at C0
  have H0 := Lib.hid C0
  clear C0 o
  have px := ((Pair.new w 24 (.bool n1) (.slice A xs.length c)).alloc (.cells #[.bool n2, .slice B ys.length d] 24)).alloc (.cells #[.bool false, .slice none 0 0] 24)
  have py := (Pair.new (w.alloc (.cells #[.bool n1, .slice A xs.length c] 24)) 24 (.bool n2) (.slice B ys.length d)).alloc (.cells #[.bool false, .slice none 0 0] 24)
  have pr := Pair.new ((w.alloc (.cells #[.bool n1, .slice A xs.length c] 24)).alloc (.cells #[.bool n2, .slice B ys.length d] 24)) 24 (.bool false) (.slice none 0 0)
  have rx := (((h.alloc (.cells #[.bool n1, .slice A xs.length c] 24)).alloc (.cells #[.bool n2, .slice B ys.length d] 24)).alloc (.cells #[.bool false, .slice none 0 0] 24))
  have ry := (((g.alloc (.cells #[.bool n1, .slice A xs.length c] 24)).alloc (.cells #[.bool n2, .slice B ys.length d] 24)).alloc (.cells #[.bool false, .slice none 0 0] 24))
  have b0 := (((Below.refl w.heap.size w).alloc (Nat.le_refl _) (.cells #[.bool n1, .slice A xs.length c] 24)).alloc (by simp) (.cells #[.bool n2, .slice B ys.length d] 24)).alloc (by simp; omega) (.cells #[.bool false, .slice none 0 0] 24)
  simp only [World.size_alloc] at py pr
  clear h g
  go_enter Tryz.func9, Tryz.ntmps9
  go_wp2_with fail
  obtain ⟨W, E⟩ : ∃ W, W = ((w.alloc (.cells #[.bool n1, .slice A xs.length c] 24)).alloc (.cells #[.bool n2, .slice B ys.length d] 24)).alloc (.cells #[.bool false, .slice none 0 0] 24) := ⟨_, rfl⟩
  rw [← E] at px py pr b0 rx ry ⊢
  clear E
  have PX := Lib.hid px
  have PY := Lib.hid py
  have PR := Lib.hid pr
  have B0 := Lib.hid b0
  have RX := Lib.hid rx
  have RY := Lib.hid ry
  have hlr := pr.blk.lt
  have hsz := b0.size
  obtain ⟨l1, x0, x1, -, -⟩ := px.facts
  obtain ⟨l2, y0, y1, -, -⟩ := py.facts
  clear px py pr rx ry b0
  go_wp2_with (first | (go_at_call 28; with_reducible refine (H0.out _ RX.out RY.out).mono ?_; rintro e w1 ⟨rfl, hb⟩; have pr := PR.out.below hb; obtain ⟨l3, z0, z1, f0, f1⟩ := pr.facts))
  have hq := pr.store (.bool false) (.slice none 0 0)
  obtain ⟨_, k0, k1, _, _⟩ := hq.facts
  exact bodyPost_ret (by simp [results, Tryz.results9, go_sem, k0, k1]) rfl ⟨_, rfl, IntOwn.nought _ _, below2 (belowTo B0.out hb) (by omega) _ _⟩

theorem whole_Add (n1 n2 : Bool) (A B : Option Addr) (c d : Nat) (xs ys : List Nat) (w : World) (h : Raw w A c xs) (g : Raw w B d ys) :
    Calls Tryz.prog 9 #[.agg #[.bool n1, .slice A xs.length c], .agg #[.bool n2, .slice B ys.length d]] w (RetInt2 w.heap.size w (if okI n1 xs && okI n2 ys then toldV (ival n1 xs + ival n2 ys) else 0) (if okI n1 xs && okI n2 ys then toldE (ival n1 xs + ival n2 ys) else 1)) := by
  by_cases o : (okI n1 xs && okI n2 ys) = true
  · rw [if_pos o, if_pos o]
    have o' := Bool.and_eq_true_iff.1 o
    exact whole_Add_ok n1 n2 A B c d xs ys o'.1 o'.2 _ (Lib.hid rfl) _ _ (Lib.hid rfl) (Lib.hid rfl) w h g
  · rw [if_neg o, if_neg o]
    exact whole_Add_bad n1 n2 A B c d xs ys (by simpa using o) w h g

set_option maxRecDepth 100000 in
set_option maxHeartbeats 1000000 in
theorem whole_Sub_ok (n1 n2 : Bool) (A B : Option Addr) (c d : Nat) (xs ys : List Nat) (o1 : okI n1 xs = true) (o2 : okI n2 ys = true) (z : Int) (HZV : Hid (z = ival n1 xs - ival n2 ys)) (r k : Int) (HR : Hid (r = toldV z)) (HK : Hid (k = toldE z)) (w : World) (h : Raw w A c xs) (g : Raw w B d ys) :
    Calls Tryz.prog 10 #[.agg #[.bool n1, .slice A xs.length c], .agg #[.bool n2, .slice B ys.length d]] w (RetInt2 w.heap.size w r k) := by
  have C0 := fun (V : World) (h : Raw V A c xs) (g : Raw V B d ys) => whole_fine_any n1 n2 A B c d xs ys V h g
  have C1 := fun (V : World) (h : Raw V A c xs) (g : Raw V B d ys) => show Calls Tryz.prog 31 #[.agg #[.bool n1, .slice A xs.length c], .agg #[.bool n2, .slice B ys.length d]] V (RetInt V.heap.size V z) from by rw [HZV.out]; exact exact_Minus n1 n2 A B c d xs ys (okI_true.1 o1).2.1 (okI_true.1 o2).2.1 (by have := (okI_true.1 o1).1; omega) (by have := (okI_true.1 o2).1; omega) V h g
  have C2 := fun (V : World) (base : Nat) (v : Value) (hv : IntOwn V base v z) => show Calls Tryz.prog 29 #[v] V (RetInt2 base V r k) from by rw [HR.out, HK.out]; exact whole_told base v z V hv
  rw [o1, o2, Bool.and_self] at C0
  have H1 := Lib.hid C1
  have H2 := Lib.hid C2
  have H0 := Lib.hid C0
  clear C0 C1 C2 o1 o2
  have px := ((Pair.new w 24 (.bool n1) (.slice A xs.length c)).alloc (.cells #[.bool n2, .slice B ys.length d] 24)).alloc (.cells #[.bool false, .slice none 0 0] 24)
  have py := (Pair.new (w.alloc (.cells #[.bool n1, .slice A xs.length c] 24)) 24 (.bool n2) (.slice B ys.length d)).alloc (.cells #[.bool false, .slice none 0 0] 24)
  have pr := Pair.new ((w.alloc (.cells #[.bool n1, .slice A xs.length c] 24)).alloc (.cells #[.bool n2, .slice B ys.length d] 24)) 24 (.bool false) (.slice none 0 0)
  have rx := (((h.alloc (.cells #[.bool n1, .slice A xs.length c] 24)).alloc (.cells #[.bool n2, .slice B ys.length d] 24)).alloc (.cells #[.bool false, .slice none 0 0] 24))
  have ry := (((g.alloc (.cells #[.bool n1, .slice A xs.length c] 24)).alloc (.cells #[.bool n2, .slice B ys.length d] 24)).alloc (.cells #[.bool false, .slice none 0 0] 24))
  have b0 := (((Below.refl w.heap.size w).alloc (Nat.le_refl _) (.cells #[.bool n1, .slice A xs.length c] 24)).alloc (by simp) (.cells #[.bool n2, .slice B ys.length d] 24)).alloc (by simp; omega) (.cells #[.bool false, .slice none 0 0] 24)
  simp only [World.size_alloc] at py pr
  clear h g
  go_enter Tryz.func10, Tryz.ntmps10
  go_wp2_with fail
  obtain ⟨W, E⟩ : ∃ W, W = ((w.alloc (.cells #[.bool n1, .slice A xs.length c] 24)).alloc (.cells #[.bool n2, .slice B ys.length d] 24)).alloc (.cells #[.bool false, .slice none 0 0] 24) := ⟨_, rfl⟩
  rw [← E] at px py pr b0 rx ry ⊢
  clear E
  have PX := Lib.hid px
  have PY := Lib.hid py
  have PR := Lib.hid pr
  have B0 := Lib.hid b0
  have RX := Lib.hid rx
  have RY := Lib.hid ry
  have hlr := pr.blk.lt
  have hsz := b0.size
  obtain ⟨l1, x0, x1, -, -⟩ := px.facts
  obtain ⟨l2, y0, y1, -, -⟩ := py.facts
  clear px py pr rx ry b0
  go_wp2_with (first
    | (go_at_call 28; with_reducible refine (H0.out _ RX.out RY.out).mono ?_; rintro e w1 ⟨rfl, hb⟩; have rx := RX.out.below hb; have ry := RY.out.below hb; obtain ⟨l1, x0, x1, -, -⟩ := (PX.out.below hb).facts; obtain ⟨l2, y0, y1, -, -⟩ := (PY.out.below hb).facts)
    | (go_at_call 31; refine (H1.out _ rx ry).mono ?_; rintro e w2 ⟨v, rfl, hI, hb2⟩)
    | (go_at_call 29; refine (H2.out _ _ v hI).mono ?_; rintro e w3 ⟨v3, rfl, hI3, hb3⟩; obtain ⟨A1, c1, rfl, -⟩ := hI3.value; have pr := ((PR.out.below hb).below hb2).below hb3; obtain ⟨l3, z0, z1, f0, f1⟩ := pr.facts))
  have hq := pr.store (.bool (decide (r < 0))) (.slice A1 (natL r.natAbs).length c1)
  obtain ⟨_, k0, k1, _, _⟩ := hq.facts
  have hs1 := hb.size
  exact bodyPost_ret (by simp [results, Tryz.results10, go_sem, k0, k1]) rfl ⟨_, rfl, (hI3.pair (by omega)).base (by omega), below2 (belowTo (belowTo (belowTo B0.out hb) hb2) hb3) (by omega) _ _⟩

set_option maxRecDepth 100000 in
set_option maxHeartbeats 1000000 in
theorem whole_Sub_bad (n1 n2 : Bool) (A B : Option Addr) (c d : Nat) (xs ys : List Nat) (o : (okI n1 xs && okI n2 ys) = false) (w : World) (h : Raw w A c xs) (g : Raw w B d ys) :
    Calls Tryz.prog 10 #[.agg #[.bool n1, .slice A xs.length c], .agg #[.bool n2, .slice B ys.length d]] w (RetInt2 w.heap.size w 0 1) := by
  have C0 := fun (V : World) (h : Raw V A c xs) (g : Raw V B d ys) => whole_fine_any n1 n2 A B c d xs ys V h g
  rw [o] at C0
  have H0 := Lib.hid C0
  clear C0 o
  have px := ((Pair.new w 24 (.bool n1) (.slice A xs.length c)).alloc (.cells #[.bool n2, .slice B ys.length d] 24)).alloc (.cells #[.bool false, .slice none 0 0] 24)
  have py := (Pair.new (w.alloc (.cells #[.bool n1, .slice A xs.length c] 24)) 24 (.bool n2) (.slice B ys.length d)).alloc (.cells #[.bool false, .slice none 0 0] 24)
  have pr := Pair.new ((w.alloc (.cells #[.bool n1, .slice A xs.length c] 24)).alloc (.cells #[.bool n2, .slice B ys.length d] 24)) 24 (.bool false) (.slice none 0 0)
  have rx := (((h.alloc (.cells #[.bool n1, .slice A xs.length c] 24)).alloc (.cells #[.bool n2, .slice B ys.length d] 24)).alloc (.cells #[.bool false, .slice none 0 0] 24))
  have ry := (((g.alloc (.cells #[.bool n1, .slice A xs.length c] 24)).alloc (.cells #[.bool n2, .slice B ys.length d] 24)).alloc (.cells #[.bool false, .slice none 0 0] 24))
  have b0 := (((Below.refl w.heap.size w).alloc (Nat.le_refl _) (.cells #[.bool n1, .slice A xs.length c] 24)).alloc (by simp) (.cells #[.bool n2, .slice B ys.length d] 24)).alloc (by simp; omega) (.cells #[.bool false, .slice none 0 0] 24)
  simp only [World.size_alloc] at py pr
  clear h g
  go_enter Tryz.func10, Tryz.ntmps10
  go_wp2_with fail
  obtain ⟨W, E⟩ : ∃ W, W = ((w.alloc (.cells #[.bool n1, .slice A xs.length c] 24)).alloc (.cells #[.bool n2, .slice B ys.length d] 24)).alloc (.cells #[.bool false, .slice none 0 0] 24) := ⟨_, rfl⟩
  rw [← E] at px py pr b0 rx ry ⊢
  clear E
  have PX := Lib.hid px
  have PY := Lib.hid py
  have PR := Lib.hid pr
  have B0 := Lib.hid b0
  have RX := Lib.hid rx
  have RY := Lib.hid ry
  have hlr := pr.blk.lt
  have hsz := b0.size
  obtain ⟨l1, x0, x1, -, -⟩ := px.facts
  obtain ⟨l2, y0, y1, -, -⟩ := py.facts
  clear px py pr rx ry b0
  go_wp2_with (first | (go_at_call 28; with_reducible refine (H0.out _ RX.out RY.out).mono ?_; rintro e w1 ⟨rfl, hb⟩; have pr := PR.out.below hb; obtain ⟨l3, z0, z1, f0, f1⟩ := pr.facts))
  have hq := pr.store (.bool false) (.slice none 0 0)
  obtain ⟨_, k0, k1, _, _⟩ := hq.facts
  exact bodyPost_ret (by simp [results, Tryz.results10, go_sem, k0, k1]) rfl ⟨_, rfl, IntOwn.nought _ _, below2 (belowTo B0.out hb) (by omega) _ _⟩

theorem whole_Sub (n1 n2 : Bool) (A B : Option Addr) (c d : Nat) (xs ys : List Nat) (w : World) (h : Raw w A c xs) (g : Raw w B d ys) :
    Calls Tryz.prog 10 #[.agg #[.bool n1, .slice A xs.length c], .agg #[.bool n2, .slice B ys.length d]] w (RetInt2 w.heap.size w (if okI n1 xs && okI n2 ys then toldV (ival n1 xs - ival n2 ys) else 0) (if okI n1 xs && okI n2 ys then toldE (ival n1 xs - ival n2 ys) else 1)) := by
  by_cases o : (okI n1 xs && okI n2 ys) = true
  · rw [if_pos o, if_pos o]
    have o' := Bool.and_eq_true_iff.1 o
    exact whole_Sub_ok n1 n2 A B c d xs ys o'.1 o'.2 _ (Lib.hid rfl) _ _ (Lib.hid rfl) (Lib.hid rfl) w h g
  · rw [if_neg o, if_neg o]
    exact whole_Sub_bad n1 n2 A B c d xs ys (by simpa using o) w h g

set_option maxRecDepth 100000 in
set_option maxHeartbeats 1000000 in
theorem whole_Mul_ok (n1 n2 : Bool) (A B : Option Addr) (c d : Nat) (xs ys : List Nat) (o1 : okI n1 xs = true) (o2 : okI n2 ys = true) (z : Int) (HZV : Hid (z = ival n1 xs * ival n2 ys)) (r k : Int) (HR : Hid (r = toldV z)) (HK : Hid (k = toldE z)) (w : World) (h : Raw w A c xs) (g : Raw w B d ys) :
    Calls Tryz.prog 11 #[.agg #[.bool n1, .slice A xs.length c], .agg #[.bool n2, .slice B ys.length d]] w (RetInt2 w.heap.size w r k) := by
  have C0 := fun (V : World) (h : Raw V A c xs) (g : Raw V B d ys) => whole_fine_any n1 n2 A B c d xs ys V h g
  have C1 := fun (V : World) (h : Raw V A c xs) (g : Raw V B d ys) => show Calls Tryz.prog 32 #[.agg #[.bool n1, .slice A xs.length c], .agg #[.bool n2, .slice B ys.length d]] V (RetInt V.heap.size V z) from by rw [HZV.out]; exact exact_Times n1 n2 A B c d xs ys (by have := (okI_true.1 o1).1; omega) (by have := (okI_true.1 o2).1; omega) V h g
  have C2 := fun (V : World) (base : Nat) (v : Value) (hv : IntOwn V base v z) => show Calls Tryz.prog 29 #[v] V (RetInt2 base V r k) from by rw [HR.out, HK.out]; exact whole_told base v z V hv
  rw [o1, o2, Bool.and_self] at C0
  have H1 := Lib.hid C1
  have H2 := Lib.hid C2
  have H0 := Lib.hid C0
  clear C0 C1 C2 o1 o2
  have px := ((Pair.new w 24 (.bool n1) (.slice A xs.length c)).alloc (.cells #[.bool n2, .slice B ys.length d] 24)).alloc (.cells #[.bool false, .slice none 0 0] 24)
  have py := (Pair.new (w.alloc (.cells #[.bool n1, .slice A xs.length c] 24)) 24 (.bool n2) (.slice B ys.length d)).alloc (.cells #[.bool false, .slice none 0 0] 24)
  have pr := Pair.new ((w.alloc (.cells #[.bool n1, .slice A xs.length c] 24)).alloc (.cells #[.bool n2, .slice B ys.length d] 24)) 24 (.bool false) (.slice none 0 0)
  have rx := (((h.alloc (.cells #[.bool n1, .slice A xs.length c] 24)).alloc (.cells #[.bool n2, .slice B ys.length d] 24)).alloc (.cells #[.bool false, .slice none 0 0] 24))
  have ry := (((g.alloc (.cells #[.bool n1, .slice A xs.length c] 24)).alloc (.cells #[.bool n2, .slice B ys.length d] 24)).alloc (.cells #[.bool false, .slice none 0 0] 24))
  have b0 := (((Below.refl w.heap.size w).alloc (Nat.le_refl _) (.cells #[.bool n1, .slice A xs.length c] 24)).alloc (by simp) (.cells #[.bool n2, .slice B ys.length d] 24)).alloc (by simp; omega) (.cells #[.bool false, .slice none 0 0] 24)
  simp only [World.size_alloc] at py pr
  clear h g
  go_enter Tryz.func11, Tryz.ntmps11
  go_wp2_with fail
  obtain ⟨W, E⟩ : ∃ W, W = ((w.alloc (.cells #[.bool n1, .slice A xs.length c] 24)).alloc (.cells #[.bool n2, .slice B ys.length d] 24)).alloc (.cells #[.bool false, .slice none 0 0] 24) := ⟨_, rfl⟩
  rw [← E] at px py pr b0 rx ry ⊢
  clear E
  have PX := Lib.hid px
  have PY := Lib.hid py
  have PR := Lib.hid pr
  have B0 := Lib.hid b0
  have RX := Lib.hid rx
  have RY := Lib.hid ry
  have hlr := pr.blk.lt
  have hsz := b0.size
  obtain ⟨l1, x0, x1, -, -⟩ := px.facts
  obtain ⟨l2, y0, y1, -, -⟩ := py.facts
  clear px py pr rx ry b0
  go_wp2_with (first
    | (go_at_call 28; with_reducible refine (H0.out _ RX.out RY.out).mono ?_; rintro e w1 ⟨rfl, hb⟩; have rx := RX.out.below hb; have ry := RY.out.below hb; obtain ⟨l1, x0, x1, -, -⟩ := (PX.out.below hb).facts; obtain ⟨l2, y0, y1, -, -⟩ := (PY.out.below hb).facts)
    | (go_at_call 32; refine (H1.out _ rx ry).mono ?_; rintro e w2 ⟨v, rfl, hI, hb2⟩)
    | (go_at_call 29; refine (H2.out _ _ v hI).mono ?_; rintro e w3 ⟨v3, rfl, hI3, hb3⟩; obtain ⟨A1, c1, rfl, -⟩ := hI3.value; have pr := ((PR.out.below hb).below hb2).below hb3; obtain ⟨l3, z0, z1, f0, f1⟩ := pr.facts))
  have hq := pr.store (.bool (decide (r < 0))) (.slice A1 (natL r.natAbs).length c1)
  obtain ⟨_, k0, k1, _, _⟩ := hq.facts
  have hs1 := hb.size
  exact bodyPost_ret (by simp [results, Tryz.results11, go_sem, k0, k1]) rfl ⟨_, rfl, (hI3.pair (by omega)).base (by omega), below2 (belowTo (belowTo (belowTo B0.out hb) hb2) hb3) (by omega) _ _⟩

set_option maxRecDepth 100000 in
set_option maxHeartbeats 1000000 in
theorem whole_Mul_bad (n1 n2 : Bool) (A B : Option Addr) (c d : Nat) (xs ys : List Nat) (o : (okI n1 xs && okI n2 ys) = false) (w : World) (h : Raw w A c xs) (g : Raw w B d ys) :
    Calls Tryz.prog 11 #[.agg #[.bool n1, .slice A xs.length c], .agg #[.bool n2, .slice B ys.length d]] w (RetInt2 w.heap.size w 0 1) := by
  have C0 := fun (V : World) (h : Raw V A c xs) (g : Raw V B d ys) => whole_fine_any n1 n2 A B c d xs ys V h g
  rw [o] at C0
  have H0 := Lib.hid C0
  clear C0 o
  have px := ((Pair.new w 24 (.bool n1) (.slice A xs.length c)).alloc (.cells #[.bool n2, .slice B ys.length d] 24)).alloc (.cells #[.bool false, .slice none 0 0] 24)
  have py := (Pair.new (w.alloc (.cells #[.bool n1, .slice A xs.length c] 24)) 24 (.bool n2) (.slice B ys.length d)).alloc (.cells #[.bool false, .slice none 0 0] 24)
  have pr := Pair.new ((w.alloc (.cells #[.bool n1, .slice A xs.length c] 24)).alloc (.cells #[.bool n2, .slice B ys.length d] 24)) 24 (.bool false) (.slice none 0 0)
  have rx := (((h.alloc (.cells #[.bool n1, .slice A xs.length c] 24)).alloc (.cells #[.bool n2, .slice B ys.length d] 24)).alloc (.cells #[.bool false, .slice none 0 0] 24))
  have ry := (((g.alloc (.cells #[.bool n1, .slice A xs.length c] 24)).alloc (.cells #[.bool n2, .slice B ys.length d] 24)).alloc (.cells #[.bool false, .slice none 0 0] 24))
  have b0 := (((Below.refl w.heap.size w).alloc (Nat.le_refl _) (.cells #[.bool n1, .slice A xs.length c] 24)).alloc (by simp) (.cells #[.bool n2, .slice B ys.length d] 24)).alloc (by simp; omega) (.cells #[.bool false, .slice none 0 0] 24)
  simp only [World.size_alloc] at py pr
  clear h g
  go_enter Tryz.func11, Tryz.ntmps11
  go_wp2_with fail
  obtain ⟨W, E⟩ : ∃ W, W = ((w.alloc (.cells #[.bool n1, .slice A xs.length c] 24)).alloc (.cells #[.bool n2, .slice B ys.length d] 24)).alloc (.cells #[.bool false, .slice none 0 0] 24) := ⟨_, rfl⟩
  rw [← E] at px py pr b0 rx ry ⊢
  clear E
  have PX := Lib.hid px
  have PY := Lib.hid py
  have PR := Lib.hid pr
  have B0 := Lib.hid b0
  have RX := Lib.hid rx
  have RY := Lib.hid ry
  have hlr := pr.blk.lt
  have hsz := b0.size
  obtain ⟨l1, x0, x1, -, -⟩ := px.facts
  obtain ⟨l2, y0, y1, -, -⟩ := py.facts
  clear px py pr rx ry b0
  go_wp2_with (first | (go_at_call 28; with_reducible refine (H0.out _ RX.out RY.out).mono ?_; rintro e w1 ⟨rfl, hb⟩; have pr := PR.out.below hb; obtain ⟨l3, z0, z1, f0, f1⟩ := pr.facts))
  have hq := pr.store (.bool false) (.slice none 0 0)
  obtain ⟨_, k0, k1, _, _⟩ := hq.facts
  exact bodyPost_ret (by simp [results, Tryz.results11, go_sem, k0, k1]) rfl ⟨_, rfl, IntOwn.nought _ _, below2 (belowTo B0.out hb) (by omega) _ _⟩

theorem whole_Mul (n1 n2 : Bool) (A B : Option Addr) (c d : Nat) (xs ys : List Nat) (w : World) (h : Raw w A c xs) (g : Raw w B d ys) :
    Calls Tryz.prog 11 #[.agg #[.bool n1, .slice A xs.length c], .agg #[.bool n2, .slice B ys.length d]] w (RetInt2 w.heap.size w (if okI n1 xs && okI n2 ys then toldV (ival n1 xs * ival n2 ys) else 0) (if okI n1 xs && okI n2 ys then toldE (ival n1 xs * ival n2 ys) else 1)) := by
  by_cases o : (okI n1 xs && okI n2 ys) = true
  · rw [if_pos o, if_pos o]
    have o' := Bool.and_eq_true_iff.1 o
    exact whole_Mul_ok n1 n2 A B c d xs ys o'.1 o'.2 _ (Lib.hid rfl) _ _ (Lib.hid rfl) (Lib.hid rfl) w h g
  · rw [if_neg o, if_neg o]
    exact whole_Mul_bad n1 n2 A B c d xs ys (by simpa using o) w h g

set_option maxRecDepth 100000 in
set_option maxHeartbeats 1000000 in
theorem ref_Add_ok (n1 n2 : Bool) (A B : Option Addr) (c d : Nat) (xs ys : List Nat) (o1 : okI n1 xs = true) (o2 : okI n2 ys = true) (z : Int) (HZV : Hid (z = ival n1 xs + ival n2 ys)) (r k : Int) (HR : Hid (r = toldV z)) (HK : Hid (k = toldE z)) (w : World) (h : Raw w A c xs) (g : Raw w B d ys) :
    Calls Tryz.prog 12 #[.agg #[.bool n1, .slice A xs.length c], .agg #[.bool n2, .slice B ys.length d]] w (RetInt2 w.heap.size w r k) := by
  have C0 := fun (V : World) (h : Raw V A c xs) (g : Raw V B d ys) => ref_fine_any n1 n2 A B c d xs ys V h g
  have C1 := fun (V : World) (h : Raw V A c xs) (g : Raw V B d ys) => show Calls Tryz.prog 35 #[.agg #[.bool n1, .slice A xs.length c], .agg #[.bool n2, .slice B ys.length d]] V (RetInt V.heap.size V z) from by rw [HZV.out]; exact ref_Plus n1 n2 A B c d xs ys (okI_true.1 o1).2.1 (okI_true.1 o2).2.1 (by have := (okI_true.1 o1).1; omega) (by have := (okI_true.1 o2).1; omega) V h g
  have C2 := fun (V : World) (base : Nat) (v : Value) (hv : IntOwn V base v z) => show Calls Tryz.prog 34 #[v] V (RetInt2 base V r k) from by rw [HR.out, HK.out]; exact ref_told base v z V hv
  rw [o1, o2, Bool.and_self] at C0
  have H1 := Lib.hid C1
  have H2 := Lib.hid C2
  have H0 := Lib.hid C0
  clear C0 C1 C2 o1 o2
  have px := ((Pair.new w 24 (.bool n1) (.slice A xs.length c)).alloc (.cells #[.bool n2, .slice B ys.length d] 24)).alloc (.cells #[.bool false, .slice none 0 0] 24)
  have py := (Pair.new (w.alloc (.cells #[.bool n1, .slice A xs.length c] 24)) 24 (.bool n2) (.slice B ys.length d)).alloc (.cells #[.bool false, .slice none 0 0] 24)
  have pr := Pair.new ((w.alloc (.cells #[.bool n1, .slice A xs.length c] 24)).alloc (.cells #[.bool n2, .slice B ys.length d] 24)) 24 (.bool false) (.slice none 0 0)
  have rx := (((h.alloc (.cells #[.bool n1, .slice A xs.length c] 24)).alloc (.cells #[.bool n2, .slice B ys.length d] 24)).alloc (.cells #[.bool false, .slice none 0 0] 24))
  have ry := (((g.alloc (.cells #[.bool n1, .slice A xs.length c] 24)).alloc (.cells #[.bool n2, .slice B ys.length d] 24)).alloc (.cells #[.bool false, .slice none 0 0] 24))
  have b0 := (((Below.refl w.heap.size w).alloc (Nat.le_refl _) (.cells #[.bool n1, .slice A xs.length c] 24)).alloc (by simp) (.cells #[.bool n2, .slice B ys.length d] 24)).alloc (by simp; omega) (.cells #[.bool false, .slice none 0 0] 24)
  simp only [World.size_alloc] at py pr
  clear h g
  go_enter Tryz.func12, Tryz.ntmps12
  go_wp2_with fail
  obtain ⟨W, E⟩ : ∃ W, W = ((w.alloc (.cells #[.bool n1, .slice A xs.length c] 24)).alloc (.cells #[.bool n2, .slice B ys.length d] 24)).alloc (.cells #[.bool false, .slice none 0 0] 24) := ⟨_, rfl⟩
  rw [← E] at px py pr b0 rx ry ⊢
  clear E
  have PX := Lib.hid px
  have PY := Lib.hid py
  have PR := Lib.hid pr
  have B0 := Lib.hid b0
  have RX := Lib.hid rx
  have RY := Lib.hid ry
  have hlr := pr.blk.lt
  have hsz := b0.size
  obtain ⟨l1, x0, x1, -, -⟩ := px.facts
  obtain ⟨l2, y0, y1, -, -⟩ := py.facts
  clear px py pr rx ry b0
  go_wp2_with (first
    | (go_at_call 33; with_reducible refine (H0.out _ RX.out RY.out).mono ?_; rintro e w1 ⟨rfl, hb⟩; have rx := RX.out.below hb; have ry := RY.out.below hb; obtain ⟨l1, x0, x1, -, -⟩ := (PX.out.below hb).facts; obtain ⟨l2, y0, y1, -, -⟩ := (PY.out.below hb).facts)
    | (go_at_call 35; refine (H1.out _ rx ry).mono ?_; rintro e w2 ⟨v, rfl, hI, hb2⟩)
    | (go_at_call 34; refine (H2.out _ _ v hI).mono ?_; rintro e w3 ⟨v3, rfl, hI3, hb3⟩; obtain ⟨A1, c1, rfl, -⟩ := hI3.value; have pr := ((PR.out.below hb).below hb2).below hb3; obtain ⟨l3, z0, z1, f0, f1⟩ := pr.facts))
  have hq := pr.store (.bool (decide (r < 0))) (.slice A1 (natL r.natAbs).length c1)
  obtain ⟨_, k0, k1, _, _⟩ := hq.facts
  have hs1 := hb.size
  exact bodyPost_ret (by simp [results, Tryz.results12, go_sem, k0, k1]) rfl ⟨_, rfl, (hI3.pair (by omega)).base (by omega), below2 (belowTo (belowTo (belowTo B0.out hb) hb2) hb3) (by omega) _ _⟩

set_option maxRecDepth 100000 in
set_option maxHeartbeats 1000000 in
theorem ref_Add_bad (n1 n2 : Bool) (A B : Option Addr) (c d : Nat) (xs ys : List Nat) (o : (okI n1 xs && okI n2 ys) = false) (w : World) (h : Raw w A c xs) (g : Raw w B d ys) :
    Calls Tryz.prog 12 #[.agg #[.bool n1, .slice A xs.length c], .agg #[.bool n2, .slice B ys.length d]] w (RetInt2 w.heap.size w 0 1) := by
  have C0 := fun (V : World) (h : Raw V A c xs) (g : Raw V B d ys) => ref_fine_any n1 n2 A B c d xs ys V h g
  rw [o] at C0
  have H0 := Lib.hid C0
  clear C0 o
  have px := ((Pair.new w 24 (.bool n1) (.slice A xs.length c)).alloc (.cells #[.bool n2, .slice B ys.length d] 24)).alloc (.cells #[.bool false, .slice none 0 0] 24)
  have py := (Pair.new (w.alloc (.cells #[.bool n1, .slice A xs.length c] 24)) 24 (.bool n2) (.slice B ys.length d)).alloc (.cells #[.bool false, .slice none 0 0] 24)
  have pr := Pair.new ((w.alloc (.cells #[.bool n1, .slice A xs.length c] 24)).alloc (.cells #[.bool n2, .slice B ys.length d] 24)) 24 (.bool false) (.slice none 0 0)
  have rx := (((h.alloc (.cells #[.bool n1, .slice A xs.length c] 24)).alloc (.cells #[.bool n2, .slice B ys.length d] 24)).alloc (.cells #[.bool false, .slice none 0 0] 24))
  have ry := (((g.alloc (.cells #[.bool n1, .slice A xs.length c] 24)).alloc (.cells #[.bool n2, .slice B ys.length d] 24)).alloc (.cells #[.bool false, .slice none 0 0] 24))
  have b0 := (((Below.refl w.heap.size w).alloc (Nat.le_refl _) (.cells #[.bool n1, .slice A xs.length c] 24)).alloc (by simp) (.cells #[.bool n2, .slice B ys.length d] 24)).alloc (by simp; omega) (.cells #[.bool false, .slice none 0 0] 24)
  simp only [World.size_alloc] at py pr
  clear h g
  go_enter Tryz.func12, Tryz.ntmps12
  go_wp2_with fail
  obtain ⟨W, E⟩ : ∃ W, W = ((w.alloc (.cells #[.bool n1, .slice A xs.length c] 24)).alloc (.cells #[.bool n2, .slice B ys.length d] 24)).alloc (.cells #[.bool false, .slice none 0 0] 24) := ⟨_, rfl⟩
  rw [← E] at px py pr b0 rx ry ⊢
  clear E
  have PX := Lib.hid px
  have PY := Lib.hid py
  have PR := Lib.hid pr
  have B0 := Lib.hid b0
  have RX := Lib.hid rx
  have RY := Lib.hid ry
  have hlr := pr.blk.lt
  have hsz := b0.size
  obtain ⟨l1, x0, x1, -, -⟩ := px.facts
  obtain ⟨l2, y0, y1, -, -⟩ := py.facts
  clear px py pr rx ry b0
  go_wp2_with (first | (go_at_call 33; with_reducible refine (H0.out _ RX.out RY.out).mono ?_; rintro e w1 ⟨rfl, hb⟩; have pr := PR.out.below hb; obtain ⟨l3, z0, z1, f0, f1⟩ := pr.facts))
  have hq := pr.store (.bool false) (.slice none 0 0)
  obtain ⟨_, k0, k1, _, _⟩ := hq.facts
  exact bodyPost_ret (by simp [results, Tryz.results12, go_sem, k0, k1]) rfl ⟨_, rfl, IntOwn.nought _ _, below2 (belowTo B0.out hb) (by omega) _ _⟩

theorem ref_Add (n1 n2 : Bool) (A B : Option Addr) (c d : Nat) (xs ys : List Nat) (w : World) (h : Raw w A c xs) (g : Raw w B d ys) :
    Calls Tryz.prog 12 #[.agg #[.bool n1, .slice A xs.length c], .agg #[.bool n2, .slice B ys.length d]] w (RetInt2 w.heap.size w (if okI n1 xs && okI n2 ys then toldV (ival n1 xs + ival n2 ys) else 0) (if okI n1 xs && okI n2 ys then toldE (ival n1 xs + ival n2 ys) else 1)) := by
  by_cases o : (okI n1 xs && okI n2 ys) = true
  · rw [if_pos o, if_pos o]
    have o' := Bool.and_eq_true_iff.1 o
    exact ref_Add_ok n1 n2 A B c d xs ys o'.1 o'.2 _ (Lib.hid rfl) _ _ (Lib.hid rfl) (Lib.hid rfl) w h g
  · rw [if_neg o, if_neg o]
    exact ref_Add_bad n1 n2 A B c d xs ys (by simpa using o) w h g

set_option maxRecDepth 100000 in
set_option maxHeartbeats 1000000 in
theorem ref_Sub_ok (n1 n2 : Bool) (A B : Option Addr) (c d : Nat) (xs ys : List Nat) (o1 : okI n1 xs = true) (o2 : okI n2 ys = true) (z : Int) (HZV : Hid (z = ival n1 xs - ival n2 ys)) (r k : Int) (HR : Hid (r = toldV z)) (HK : Hid (k = toldE z)) (w : World) (h : Raw w A c xs) (g : Raw w B d ys) :
    Calls Tryz.prog 13 #[.agg #[.bool n1, .slice A xs.length c], .agg #[.bool n2, .slice B ys.length d]] w (RetInt2 w.heap.size w r k) := by
  have C0 := fun (V : World) (h : Raw V A c xs) (g : Raw V B d ys) => ref_fine_any n1 n2 A B c d xs ys V h g
  have C1 := fun (V : World) (h : Raw V A c xs) (g : Raw V B d ys) => show Calls Tryz.prog 36 #[.agg #[.bool n1, .slice A xs.length c], .agg #[.bool n2, .slice B ys.length d]] V (RetInt V.heap.size V z) from by rw [HZV.out]; exact ref_Minus n1 n2 A B c d xs ys (okI_true.1 o1).2.1 (by have := (okI_true.1 o1).1; omega) (by have := (okI_true.1 o2).1; omega) V h g
  have C2 := fun (V : World) (base : Nat) (v : Value) (hv : IntOwn V base v z) => show Calls Tryz.prog 34 #[v] V (RetInt2 base V r k) from by rw [HR.out, HK.out]; exact ref_told base v z V hv
  rw [o1, o2, Bool.and_self] at C0
  have H1 := Lib.hid C1
  have H2 := Lib.hid C2
  have H0 := Lib.hid C0
  clear C0 C1 C2 o1 o2
  have px := ((Pair.new w 24 (.bool n1) (.slice A xs.length c)).alloc (.cells #[.bool n2, .slice B ys.length d] 24)).alloc (.cells #[.bool false, .slice none 0 0] 24)
  have py := (Pair.new (w.alloc (.cells #[.bool n1, .slice A xs.length c] 24)) 24 (.bool n2) (.slice B ys.length d)).alloc (.cells #[.bool false, .slice none 0 0] 24)
  have pr := Pair.new ((w.alloc (.cells #[.bool n1, .slice A xs.length c] 24)).alloc (.cells #[.bool n2, .slice B ys.length d] 24)) 24 (.bool false) (.slice none 0 0)
  have rx := (((h.alloc (.cells #[.bool n1, .slice A xs.length c] 24)).alloc (.cells #[.bool n2, .slice B ys.length d] 24)).alloc (.cells #[.bool false, .slice none 0 0] 24))
  have ry := (((g.alloc (.cells #[.bool n1, .slice A xs.length c] 24)).alloc (.cells #[.bool n2, .slice B ys.length d] 24)).alloc (.cells #[.bool false, .slice none 0 0] 24))
  have b0 := (((Below.refl w.heap.size w).alloc (Nat.le_refl _) (.cells #[.bool n1, .slice A xs.length c] 24)).alloc (by simp) (.cells #[.bool n2, .slice B ys.length d] 24)).alloc (by simp; omega) (.cells #[.bool false, .slice none 0 0] 24)
  simp only [World.size_alloc] at py pr
  clear h g
  go_enter Tryz.func13, Tryz.ntmps13
  go_wp2_with fail
  obtain ⟨W, E⟩ : ∃ W, W = ((w.alloc (.cells #[.bool n1, .slice A xs.length c] 24)).alloc (.cells #[.bool n2, .slice B ys.length d] 24)).alloc (.cells #[.bool false, .slice none 0 0] 24) := ⟨_, rfl⟩
  rw [← E] at px py pr b0 rx ry ⊢
  clear E
  have PX := Lib.hid px
  have PY := Lib.hid py
  have PR := Lib.hid pr
  have B0 := Lib.hid b0
  have RX := Lib.hid rx
  have RY := Lib.hid ry
  have hlr := pr.blk.lt
  have hsz := b0.size
  obtain ⟨l1, x0, x1, -, -⟩ := px.facts
  obtain ⟨l2, y0, y1, -, -⟩ := py.facts
  clear px py pr rx ry b0
  go_wp2_with (first
    | (go_at_call 33; with_reducible refine (H0.out _ RX.out RY.out).mono ?_; rintro e w1 ⟨rfl, hb⟩; have rx := RX.out.below hb; have ry := RY.out.below hb; obtain ⟨l1, x0, x1, -, -⟩ := (PX.out.below hb).facts; obtain ⟨l2, y0, y1, -, -⟩ := (PY.out.below hb).facts)
    | (go_at_call 36; refine (H1.out _ rx ry).mono ?_; rintro e w2 ⟨v, rfl, hI, hb2⟩)
    | (go_at_call 34; refine (H2.out _ _ v hI).mono ?_; rintro e w3 ⟨v3, rfl, hI3, hb3⟩; obtain ⟨A1, c1, rfl, -⟩ := hI3.value; have pr := ((PR.out.below hb).below hb2).below hb3; obtain ⟨l3, z0, z1, f0, f1⟩ := pr.facts))
  have hq := pr.store (.bool (decide (r < 0))) (.slice A1 (natL r.natAbs).length c1)
  obtain ⟨_, k0, k1, _, _⟩ := hq.facts
  have hs1 := hb.size
  exact bodyPost_ret (by simp [results, Tryz.results13, go_sem, k0, k1]) rfl ⟨_, rfl, (hI3.pair (by omega)).base (by omega), below2 (belowTo (belowTo (belowTo B0.out hb) hb2) hb3) (by omega) _ _⟩

set_option maxRecDepth 100000 in
set_option maxHeartbeats 1000000 in
theorem ref_Sub_bad (n1 n2 : Bool) (A B : Option Addr) (c d : Nat) (xs ys : List Nat) (o : (okI n1 xs && okI n2 ys) = false) (w : World) (h : Raw w A c xs) (g : Raw w B d ys) :
    Calls Tryz.prog 13 #[.agg #[.bool n1, .slice A xs.length c], .agg #[.bool n2, .slice B ys.length d]] w (RetInt2 w.heap.size w 0 1) := by
  have C0 := fun (V : World) (h : Raw V A c xs) (g : Raw V B d ys) => ref_fine_any n1 n2 A B c d xs ys V h g
  rw [o] at C0
  have H0 := Lib.hid C0
  clear C0 o
  have px := ((Pair.new w 24 (.bool n1) (.slice A xs.length c)).alloc (.cells #[.bool n2, .slice B ys.length d] 24)).alloc (.cells #[.bool false, .slice none 0 0] 24)
  have py := (Pair.new (w.alloc (.cells #[.bool n1, .slice A xs.length c] 24)) 24 (.bool n2) (.slice B ys.length d)).alloc (.cells #[.bool false, .slice none 0 0] 24)
  have pr := Pair.new ((w.alloc (.cells #[.bool n1, .slice A xs.length c] 24)).alloc (.cells #[.bool n2, .slice B ys.length d] 24)) 24 (.bool false) (.slice none 0 0)
  have rx := (((h.alloc (.cells #[.bool n1, .slice A xs.length c] 24)).alloc (.cells #[.bool n2, .slice B ys.length d] 24)).alloc (.cells #[.bool false, .slice none 0 0] 24))
  have ry := (((g.alloc (.cells #[.bool n1, .slice A xs.length c] 24)).alloc (.cells #[.bool n2, .slice B ys.length d] 24)).alloc (.cells #[.bool false, .slice none 0 0] 24))
  have b0 := (((Below.refl w.heap.size w).alloc (Nat.le_refl _) (.cells #[.bool n1, .slice A xs.length c] 24)).alloc (by simp) (.cells #[.bool n2, .slice B ys.length d] 24)).alloc (by simp; omega) (.cells #[.bool false, .slice none 0 0] 24)
  simp only [World.size_alloc] at py pr
  clear h g
  go_enter Tryz.func13, Tryz.ntmps13
  go_wp2_with fail
  obtain ⟨W, E⟩ : ∃ W, W = ((w.alloc (.cells #[.bool n1, .slice A xs.length c] 24)).alloc (.cells #[.bool n2, .slice B ys.length d] 24)).alloc (.cells #[.bool false, .slice none 0 0] 24) := ⟨_, rfl⟩
  rw [← E] at px py pr b0 rx ry ⊢
  clear E
  have PX := Lib.hid px
  have PY := Lib.hid py
  have PR := Lib.hid pr
  have B0 := Lib.hid b0
  have RX := Lib.hid rx
  have RY := Lib.hid ry
  have hlr := pr.blk.lt
  have hsz := b0.size
  obtain ⟨l1, x0, x1, -, -⟩ := px.facts
  obtain ⟨l2, y0, y1, -, -⟩ := py.facts
  clear px py pr rx ry b0
  go_wp2_with (first | (go_at_call 33; with_reducible refine (H0.out _ RX.out RY.out).mono ?_; rintro e w1 ⟨rfl, hb⟩; have pr := PR.out.below hb; obtain ⟨l3, z0, z1, f0, f1⟩ := pr.facts))
  have hq := pr.store (.bool false) (.slice none 0 0)
  obtain ⟨_, k0, k1, _, _⟩ := hq.facts
  exact bodyPost_ret (by simp [results, Tryz.results13, go_sem, k0, k1]) rfl ⟨_, rfl, IntOwn.nought _ _, below2 (belowTo B0.out hb) (by omega) _ _⟩

theorem ref_Sub (n1 n2 : Bool) (A B : Option Addr) (c d : Nat) (xs ys : List Nat) (w : World) (h : Raw w A c xs) (g : Raw w B d ys) :
    Calls Tryz.prog 13 #[.agg #[.bool n1, .slice A xs.length c], .agg #[.bool n2, .slice B ys.length d]] w (RetInt2 w.heap.size w (if okI n1 xs && okI n2 ys then toldV (ival n1 xs - ival n2 ys) else 0) (if okI n1 xs && okI n2 ys then toldE (ival n1 xs - ival n2 ys) else 1)) := by
  by_cases o : (okI n1 xs && okI n2 ys) = true
  · rw [if_pos o, if_pos o]
    have o' := Bool.and_eq_true_iff.1 o
    exact ref_Sub_ok n1 n2 A B c d xs ys o'.1 o'.2 _ (Lib.hid rfl) _ _ (Lib.hid rfl) (Lib.hid rfl) w h g
  · rw [if_neg o, if_neg o]
    exact ref_Sub_bad n1 n2 A B c d xs ys (by simpa using o) w h g

set_option maxRecDepth 100000 in
set_option maxHeartbeats 1000000 in
theorem ref_Mul_ok (n1 n2 : Bool) (A B : Option Addr) (c d : Nat) (xs ys : List Nat) (o1 : okI n1 xs = true) (o2 : okI n2 ys = true) (z : Int) (HZV : Hid (z = ival n1 xs * ival n2 ys)) (r k : Int) (HR : Hid (r = toldV z)) (HK : Hid (k = toldE z)) (w : World) (h : Raw w A c xs) (g : Raw w B d ys) :
    Calls Tryz.prog 14 #[.agg #[.bool n1, .slice A xs.length c], .agg #[.bool n2, .slice B ys.length d]] w (RetInt2 w.heap.size w r k) := by
  have C0 := fun (V : World) (h : Raw V A c xs) (g : Raw V B d ys) => ref_fine_any n1 n2 A B c d xs ys V h g
  have C1 := fun (V : World) (h : Raw V A c xs) (g : Raw V B d ys) => show Calls Tryz.prog 37 #[.agg #[.bool n1, .slice A xs.length c], .agg #[.bool n2, .slice B ys.length d]] V (RetInt V.heap.size V z) from by rw [HZV.out]; exact ref_Times n1 n2 A B c d xs ys (by have := (okI_true.1 o1).1; omega) (by have := (okI_true.1 o2).1; omega) V h g
  have C2 := fun (V : World) (base : Nat) (v : Value) (hv : IntOwn V base v z) => show Calls Tryz.prog 34 #[v] V (RetInt2 base V r k) from by rw [HR.out, HK.out]; exact ref_told base v z V hv
  rw [o1, o2, Bool.and_self] at C0
  have H1 := Lib.hid C1
  have H2 := Lib.hid C2
  have H0 := Lib.hid C0
  clear C0 C1 C2 o1 o2
  have px := ((Pair.new w 24 (.bool n1) (.slice A xs.length c)).alloc (.cells #[.bool n2, .slice B ys.length d] 24)).alloc (.cells #[.bool false, .slice none 0 0] 24)
  have py := (Pair.new (w.alloc (.cells #[.bool n1, .slice A xs.length c] 24)) 24 (.bool n2) (.slice B ys.length d)).alloc (.cells #[.bool false, .slice none 0 0] 24)
  have pr := Pair.new ((w.alloc (.cells #[.bool n1, .slice A xs.length c] 24)).alloc (.cells #[.bool n2, .slice B ys.length d] 24)) 24 (.bool false) (.slice none 0 0)
  have rx := (((h.alloc (.cells #[.bool n1, .slice A xs.length c] 24)).alloc (.cells #[.bool n2, .slice B ys.length d] 24)).alloc (.cells #[.bool false, .slice none 0 0] 24))
  have ry := (((g.alloc (.cells #[.bool n1, .slice A xs.length c] 24)).alloc (.cells #[.bool n2, .slice B ys.length d] 24)).alloc (.cells #[.bool false, .slice none 0 0] 24))
  have b0 := (((Below.refl w.heap.size w).alloc (Nat.le_refl _) (.cells #[.bool n1, .slice A xs.length c] 24)).alloc (by simp) (.cells #[.bool n2, .slice B ys.length d] 24)).alloc (by simp; omega) (.cells #[.bool false, .slice none 0 0] 24)
  simp only [World.size_alloc] at py pr
  clear h g
  go_enter Tryz.func14, Tryz.ntmps14
  go_wp2_with fail
  obtain ⟨W, E⟩ : ∃ W, W = ((w.alloc (.cells #[.bool n1, .slice A xs.length c] 24)).alloc (.cells #[.bool n2, .slice B ys.length d] 24)).alloc (.cells #[.bool false, .slice none 0 0] 24) := ⟨_, rfl⟩
  rw [← E] at px py pr b0 rx ry ⊢
  clear E
  have PX := Lib.hid px
  have PY := Lib.hid py
  have PR := Lib.hid pr
  have B0 := Lib.hid b0
  have RX := Lib.hid rx
  have RY := Lib.hid ry
  have hlr := pr.blk.lt
  have hsz := b0.size
  obtain ⟨l1, x0, x1, -, -⟩ := px.facts
  obtain ⟨l2, y0, y1, -, -⟩ := py.facts
  clear px py pr rx ry b0
  go_wp2_with (first
    | (go_at_call 33; with_reducible refine (H0.out _ RX.out RY.out).mono ?_; rintro e w1 ⟨rfl, hb⟩; have rx := RX.out.below hb; have ry := RY.out.below hb; obtain ⟨l1, x0, x1, -, -⟩ := (PX.out.below hb).facts; obtain ⟨l2, y0, y1, -, -⟩ := (PY.out.below hb).facts)
    | (go_at_call 37; refine (H1.out _ rx ry).mono ?_; rintro e w2 ⟨v, rfl, hI, hb2⟩)
    | (go_at_call 34; refine (H2.out _ _ v hI).mono ?_; rintro e w3 ⟨v3, rfl, hI3, hb3⟩; obtain ⟨A1, c1, rfl, -⟩ := hI3.value; have pr := ((PR.out.below hb).below hb2).below hb3; obtain ⟨l3, z0, z1, f0, f1⟩ := pr.facts))
  have hq := pr.store (.bool (decide (r < 0))) (.slice A1 (natL r.natAbs).length c1)
  obtain ⟨_, k0, k1, _, _⟩ := hq.facts
  have hs1 := hb.size
  exact bodyPost_ret (by simp [results, Tryz.results14, go_sem, k0, k1]) rfl ⟨_, rfl, (hI3.pair (by omega)).base (by omega), below2 (belowTo (belowTo (belowTo B0.out hb) hb2) hb3) (by omega) _ _⟩

set_option maxRecDepth 100000 in
set_option maxHeartbeats 1000000 in
theorem ref_Mul_bad (n1 n2 : Bool) (A B : Option Addr) (c d : Nat) (xs ys : List Nat) (o : (okI n1 xs && okI n2 ys) = false) (w : World) (h : Raw w A c xs) (g : Raw w B d ys) :
    Calls Tryz.prog 14 #[.agg #[.bool n1, .slice A xs.length c], .agg #[.bool n2, .slice B ys.length d]] w (RetInt2 w.heap.size w 0 1) := by
  have C0 := fun (V : World) (h : Raw V A c xs) (g : Raw V B d ys) => ref_fine_any n1 n2 A B c d xs ys V h g
  rw [o] at C0
  have H0 := Lib.hid C0
  clear C0 o
  have px := ((Pair.new w 24 (.bool n1) (.slice A xs.length c)).alloc (.cells #[.bool n2, .slice B ys.length d] 24)).alloc (.cells #[.bool false, .slice none 0 0] 24)
  have py := (Pair.new (w.alloc (.cells #[.bool n1, .slice A xs.length c] 24)) 24 (.bool n2) (.slice B ys.length d)).alloc (.cells #[.bool false, .slice none 0 0] 24)
  have pr := Pair.new ((w.alloc (.cells #[.bool n1, .slice A xs.length c] 24)).alloc (.cells #[.bool n2, .slice B ys.length d] 24)) 24 (.bool false) (.slice none 0 0)
  have rx := (((h.alloc (.cells #[.bool n1, .slice A xs.length c] 24)).alloc (.cells #[.bool n2, .slice B ys.length d] 24)).alloc (.cells #[.bool false, .slice none 0 0] 24))
  have ry := (((g.alloc (.cells #[.bool n1, .slice A xs.length c] 24)).alloc (.cells #[.bool n2, .slice B ys.length d] 24)).alloc (.cells #[.bool false, .slice none 0 0] 24))
  have b0 := (((Below.refl w.heap.size w).alloc (Nat.le_refl _) (.cells #[.bool n1, .slice A xs.length c] 24)).alloc (by simp) (.cells #[.bool n2, .slice B ys.length d] 24)).alloc (by simp; omega) (.cells #[.bool false, .slice none 0 0] 24)
  simp only [World.size_alloc] at py pr
  clear h g
  go_enter Tryz.func14, Tryz.ntmps14
  go_wp2_with fail
  obtain ⟨W, E⟩ : ∃ W, W = ((w.alloc (.cells #[.bool n1, .slice A xs.length c] 24)).alloc (.cells #[.bool n2, .slice B ys.length d] 24)).alloc (.cells #[.bool false, .slice none 0 0] 24) := ⟨_, rfl⟩
  rw [← E] at px py pr b0 rx ry ⊢
  clear E
  have PX := Lib.hid px
  have PY := Lib.hid py
  have PR := Lib.hid pr
  have B0 := Lib.hid b0
  have RX := Lib.hid rx
  have RY := Lib.hid ry
  have hlr := pr.blk.lt
  have hsz := b0.size
  obtain ⟨l1, x0, x1, -, -⟩ := px.facts
  obtain ⟨l2, y0, y1, -, -⟩ := py.facts
  clear px py pr rx ry b0
  go_wp2_with (first | (go_at_call 33; with_reducible refine (H0.out _ RX.out RY.out).mono ?_; rintro e w1 ⟨rfl, hb⟩; have pr := PR.out.below hb; obtain ⟨l3, z0, z1, f0, f1⟩ := pr.facts))
  have hq := pr.store (.bool false) (.slice none 0 0)
  obtain ⟨_, k0, k1, _, _⟩ := hq.facts
  exact bodyPost_ret (by simp [results, Tryz.results14, go_sem, k0, k1]) rfl ⟨_, rfl, IntOwn.nought _ _, below2 (belowTo B0.out hb) (by omega) _ _⟩

theorem ref_Mul (n1 n2 : Bool) (A B : Option Addr) (c d : Nat) (xs ys : List Nat) (w : World) (h : Raw w A c xs) (g : Raw w B d ys) :
    Calls Tryz.prog 14 #[.agg #[.bool n1, .slice A xs.length c], .agg #[.bool n2, .slice B ys.length d]] w (RetInt2 w.heap.size w (if okI n1 xs && okI n2 ys then toldV (ival n1 xs * ival n2 ys) else 0) (if okI n1 xs && okI n2 ys then toldE (ival n1 xs * ival n2 ys) else 1)) := by
  by_cases o : (okI n1 xs && okI n2 ys) = true
  · rw [if_pos o, if_pos o]
    have o' := Bool.and_eq_true_iff.1 o
    exact ref_Mul_ok n1 n2 A B c d xs ys o'.1 o'.2 _ (Lib.hid rfl) _ _ (Lib.hid rfl) (Lib.hid rfl) w h g
  · rw [if_neg o, if_neg o]
    exact ref_Mul_bad n1 n2 A B c d xs ys (by simpa using o) w h g
end Go.Proofs.YtpcdiijmhllejaaGreatDoor

/- More of copies and sizes, for the laws' walks. -/
namespace Go.Proofs.YtpcdiijmhllejaaGreatDoor
open Go.RowKit

theorem beyond_two (n m : Nat) (hn : n ≤ 1152921504606846975) (hm : m ≤ 1152921504606846975) (A : Option Addr) (V : World) (B : Nat) (h : Reads V B 1 A 2 (cellsI [1 + n, 1 + m])) :
    Calls Tryz.prog 6 #[.slice A 2 2] V fun e w' => e = .returned (.bool (decide (1048576 < 2 + n + m))) ∧ Below V.heap.size V w' := by
  refine (beyond_any A 2 [1 + n, 1 + m] (by simp) (by intro z hz; simp at hz; omega) V B h).mono ?_
  rintro e w' ⟨rfl, rfl⟩
  refine ⟨?_, Below.refl _ _⟩
  rw [show [1 + n, 1 + m].sum = 2 + n + m by simp; omega]

theorem Reads.new2 (w : World) (t : TypeId) (a b : Value) : Reads (w.alloc (.cells #[a, b] t)) (w.heap.size + 1) 1 (some ⟨w.heap.size, 0, none⟩) 2 [a, b] :=
  ⟨rfl, fun _ => ⟨⟨w.heap.size, 0, none⟩, rfl, by simp, fun j u hu => by
    have hj : j < 2 := (List.getElem?_eq_some_iff.1 hu).1
    rw [show (⟨w.heap.size, 0, none⟩ : Addr).add j = ⟨w.heap.size, j, none⟩ by unfold Addr.add; split <;> simp_all, (Blk.new w t #[a, b]).cell j, ← hu]
    simp⟩⟩
theorem beyond_new (n m : Nat) (hn : n ≤ 1152921504606846975) (hm : m ≤ 1152921504606846975) (t : TypeId) (V : World) :
    Calls Tryz.prog 6 #[.slice (some ⟨V.heap.size, 0, none⟩) 2 2] (V.alloc (.cells #[.int .i64 (1 + (n : Int)), .int .i64 (1 + (m : Int))] t)) fun e w' => e = .returned (.bool (decide (1048576 < 2 + n + m))) ∧ Below (V.alloc (.cells #[.int .i64 (1 + (n : Int)), .int .i64 (1 + (m : Int))] t)).heap.size (V.alloc (.cells #[.int .i64 (1 + (n : Int)), .int .i64 (1 + (m : Int))] t)) w' := by
  refine beyond_two n m hn hm _ _ (V.heap.size + 1) ?_
  have e : cellsI [1 + n, 1 + m] = [.int .i64 (1 + (n : Int)), .int .i64 (1 + (m : Int))] := by simp [cellsI]
  rw [e]
  exact Reads.new2 V t _ _

theorem below_one {W w : World} (h : Below W.heap.size W w) (o : Obj) : Below W.heap.size W (w.alloc o) := h.alloc h.size o
theorem below_two {W w : World} (h : Below W.heap.size W w) (o p : Obj) : Below W.heap.size W ((w.alloc o).alloc p) := (h.alloc h.size o).alloc (by have := h.size; simp; omega) p

theorem TwinAt.far2 {w : World} {g g' : Nat} {xs : List Nat} (h : TwinAt w g xs) (hn : g ≠ g') (a b : Value) : TwinAt ((w.setCell ⟨g', 0, none⟩ a).setCell ⟨g', 1, none⟩ b) g xs := ⟨h.blk.far2 hn a b⟩
theorem Pair.new' {w : World} {g : Nat} (h : g = w.heap.size) (t : TypeId) (a b : Value) : Pair (w.alloc (.cells #[a, b] t)) g t a b := h ▸ Pair.new w t a b
theorem keep_of {W w' : World} (q : Below W.heap.size W w') : Below W.heap.size W w' ∧ ∀ b o, b < W.heap.size → w'.cell? ⟨b, o, none⟩ = W.cell? ⟨b, o, none⟩ :=
  ⟨q, fun b o h => q.cell (p := ⟨b, o, none⟩) h⟩

end Go.Proofs.YtpcdiijmhllejaaGreatDoor

/- answered: the same number, the same error. -/
namespace Go.Proofs.YtpcdiijmhllejaaGreatDoor
open Go.RowKit

theorem told_short (z : Int) : (natL (toldV z).natAbs).length ≤ 2048 := by
  unfold toldV
  split
  · assumption
  · decide

set_option maxRecDepth 100000 in
set_option maxHeartbeats 1000000 in
theorem answered_own (b : Bool) (A B : Option Addr) (c d : Nat) (xs : List Nat) (k : Int) (w : World) (h : Raw w A c xs) (g : Raw w B d xs) :
    Calls Tryz.prog 15 #[.agg #[.bool b, .slice A xs.length c], .int .i64 k, .agg #[.bool b, .slice B xs.length d], .int .i64 k] w fun e w' => e = .returned (.bool true) ∧ Below w.heap.size w w' := by
  have b0 := Lib.hid (((Below.refl w.heap.size w).alloc (Nat.le_refl _) (.cells #[.bool b, .slice A xs.length c] 24)).alloc (by simp) (.cells #[.bool b, .slice B xs.length d] 24))
  have C := same_any b b A B c d xs xs _ ((h.alloc (.cells #[.bool b, .slice A xs.length c] 24)).alloc (.cells #[.bool b, .slice B xs.length d] 24)) ((g.alloc (.cells #[.bool b, .slice A xs.length c] 24)).alloc (.cells #[.bool b, .slice B xs.length d] 24))
  rw [show decide (b = b ∧ xs = xs) = true by simp] at C
  have HC := Lib.hid C
  clear C h g
  go_enter Tryz.func15, Tryz.ntmps15
  go_wp2_with (first | (go_at_call 23; refine HC.out.mono ?_; rintro e w' ⟨rfl, hb⟩))
  go_ret
  exact ⟨rfl, belowTo b0.out hb⟩
theorem answered_true (v1 v2 : Value) (r k : Int) (w : World) (h : IntAt w v1 r) (g : IntAt w v2 r) :
    Calls Tryz.prog 15 #[v1, .int .i64 k, v2, .int .i64 k] w fun e w' => e = .returned (.bool true) ∧ Below w.heap.size w w' := by
  obtain ⟨A, c, rfl, h1⟩ := h.form
  obtain ⟨B, d, rfl, g1⟩ := g.form
  exact answered_own _ A B c d _ k w h1 g1
end Go.Proofs.YtpcdiijmhllejaaGreatDoor
