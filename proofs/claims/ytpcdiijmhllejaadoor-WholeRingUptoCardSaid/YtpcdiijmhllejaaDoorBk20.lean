/- Several texts in one: Fine, Ops. -/
import Derived.Test.YtpcdiijmhllejaaDoorBk15
import Derived.Test.YtpcdiijmhllejaaDoorBk19
/- fine, Cmp of package whole and of the references. (Written by wip/exact/genfine.py.) -/
namespace Go.Proofs.YtpcdiijmhllejaaDoor
open Go.RowKit

set_option maxRecDepth 100000 in
set_option maxHeartbeats 1000000 in
theorem whole_fine_any (n1 n2 : Bool) (A B : Option Addr) (c d : Nat) (xs ys : List Nat) (w : World) (h : Raw w A c xs) (g : Raw w B d ys) :
    Calls Tryd.prog 27 #[.agg #[.bool n1, .slice A xs.length c], .agg #[.bool n2, .slice B ys.length d]] w fun e w' => e = .returned (.bool (okI n1 xs && okI n2 ys)) ∧ Below w.heap.size w w' := by
  by_cases o1 : okI n1 xs = true
  · have e1 : errI n1 xs = 0 := by simp [errI, o1]
    by_cases o2 : okI n2 ys = true
    · have e2 : errI n2 ys = 0 := by simp [errI, o2]
      rw [o1, o2]
      have E1 := Lib.hid e1
      have E2 := Lib.hid e2
      clear o1 o2 e1 e2
      have p0 := (Pair.new w 24 (.bool n1) (.slice A xs.length c)).alloc (.cells #[.bool n2, .slice B ys.length d] 24)
      have q0 := Pair.new (w.alloc (.cells #[.bool n1, .slice A xs.length c] 24)) 24 (.bool n2) (.slice B ys.length d)
      have b0 := ((Below.refl w.heap.size w).alloc (Nat.le_refl _) (.cells #[.bool n1, .slice A xs.length c] 24)).alloc (by simp) (.cells #[.bool n2, .slice B ys.length d] 24)
      have hx := (h.alloc (.cells #[.bool n1, .slice A xs.length c] 24)).alloc (.cells #[.bool n2, .slice B ys.length d] 24)
      have hy := (g.alloc (.cells #[.bool n1, .slice A xs.length c] 24)).alloc (.cells #[.bool n2, .slice B ys.length d] 24)
      simp only [World.size_alloc] at q0
      clear h g
      go_enter Tryd.func27, Tryd.ntmps27
      go_wp2_with fail
      refine (exact_Check_any n1 A c xs _ hx).mono ?_
      rintro e w1 ⟨rfl, q1⟩
      rw [E1.out]
      have q2 := q0.below q1
      obtain ⟨k2, d0, d1, -, -⟩ := q2.facts
      have b1 := b0.trans (q1.mono b0.size)
      have hy1 := hy.below q1
      clear p0 q0 b0 hx hy q1
      go_wp2_with fail
      refine (exact_Check_any n2 B d ys _ hy1).mono ?_
      rintro e w2 ⟨rfl, q1⟩
      rw [E2.out]
      clear d0 d1
      go_wp2
      go_ret
      exact ⟨rfl, belowTo b1 q1⟩
    · have e2 : errI n2 ys = 1 := by simp [errI, o2]
      have o2' : okI n2 ys = false := by simpa using o2
      rw [o1, o2']
      have E1 := Lib.hid e1
      have E2 := Lib.hid e2
      clear o1 o2 o2' e1 e2
      have p0 := (Pair.new w 24 (.bool n1) (.slice A xs.length c)).alloc (.cells #[.bool n2, .slice B ys.length d] 24)
      have q0 := Pair.new (w.alloc (.cells #[.bool n1, .slice A xs.length c] 24)) 24 (.bool n2) (.slice B ys.length d)
      have b0 := ((Below.refl w.heap.size w).alloc (Nat.le_refl _) (.cells #[.bool n1, .slice A xs.length c] 24)).alloc (by simp) (.cells #[.bool n2, .slice B ys.length d] 24)
      have hx := (h.alloc (.cells #[.bool n1, .slice A xs.length c] 24)).alloc (.cells #[.bool n2, .slice B ys.length d] 24)
      have hy := (g.alloc (.cells #[.bool n1, .slice A xs.length c] 24)).alloc (.cells #[.bool n2, .slice B ys.length d] 24)
      simp only [World.size_alloc] at q0
      clear h g
      go_enter Tryd.func27, Tryd.ntmps27
      go_wp2_with fail
      refine (exact_Check_any n1 A c xs _ hx).mono ?_
      rintro e w1 ⟨rfl, q1⟩
      rw [E1.out]
      have q2 := q0.below q1
      obtain ⟨k2, d0, d1, -, -⟩ := q2.facts
      have b1 := b0.trans (q1.mono b0.size)
      have hy1 := hy.below q1
      clear p0 q0 b0 hx hy q1
      go_wp2_with fail
      refine (exact_Check_any n2 B d ys _ hy1).mono ?_
      rintro e w2 ⟨rfl, q1⟩
      rw [E2.out]
      clear d0 d1
      go_wp2
      go_ret
      exact ⟨rfl, belowTo b1 q1⟩
  · have e1 : errI n1 xs = 1 := by simp [errI, o1]
    have o1' : okI n1 xs = false := by simpa using o1
    rw [o1', Bool.false_and]
    have E1 := Lib.hid e1
    clear o1 o1' e1
    have p0 := (Pair.new w 24 (.bool n1) (.slice A xs.length c)).alloc (.cells #[.bool n2, .slice B ys.length d] 24)
    have q0 := Pair.new (w.alloc (.cells #[.bool n1, .slice A xs.length c] 24)) 24 (.bool n2) (.slice B ys.length d)
    have b0 := ((Below.refl w.heap.size w).alloc (Nat.le_refl _) (.cells #[.bool n1, .slice A xs.length c] 24)).alloc (by simp) (.cells #[.bool n2, .slice B ys.length d] 24)
    have hx := (h.alloc (.cells #[.bool n1, .slice A xs.length c] 24)).alloc (.cells #[.bool n2, .slice B ys.length d] 24)
    have hy := (g.alloc (.cells #[.bool n1, .slice A xs.length c] 24)).alloc (.cells #[.bool n2, .slice B ys.length d] 24)
    simp only [World.size_alloc] at q0
    clear h g
    go_enter Tryd.func27, Tryd.ntmps27
    go_wp2_with fail
    refine (exact_Check_any n1 A c xs _ hx).mono ?_
    rintro e w1 ⟨rfl, q1⟩
    rw [E1.out]
    have b1 := b0.trans (q1.mono b0.size)
    clear p0 q0 b0 hx hy q1
    go_wp2
    go_ret
    exact ⟨rfl, b1⟩

end Go.Proofs.YtpcdiijmhllejaaDoor

/- Minus, Times, told; Add, Sub, Mul of package whole and of the references. (Written by wip/exact/genops.py.) -/
namespace Go.Proofs.YtpcdiijmhllejaaDoor
open Go.RowKit

theorem ival_at (x : Int) : ival (decide (x < 0)) (natL x.natAbs) = x := by
  unfold ival
  rw [val_natL]
  by_cases h : x < 0
  · simp [h]; omega
  · simp [h]; omega
/-- A number as a value: its sign, its limbs somewhere. -/
structure IntAt (w : World) (v : Value) (x : Int) : Prop where
  form : ∃ A c, v = .agg #[.bool (decide (x < 0)), .slice A (natL x.natAbs).length c] ∧ Raw w A c (natL x.natAbs)
theorem IntAt.below {w w' : World} {v : Value} {x : Int} (h : IntAt w v x) (hb : Below w.heap.size w w') : IntAt w' v x := by
  obtain ⟨A, c, h1, h2⟩ := h.form
  exact ⟨A, c, h1, h2.below hb⟩
theorem IntOwn.at_ {w : World} {base : Nat} {v : Value} {x : Int} (h : IntOwn w base v x) : IntAt w v x := ⟨h.raw⟩
theorem Raw.cut {w : World} {A : Option Addr} {c : Nat} {xs : List Nat} (h : Raw w A c xs) : Raw w A c (natL (val xs)) := by
  have hle := natL_val_le h.limbs
  have hr := h.reads.take (natL (val xs)).length
  rw [← natL_take h.limbs] at hr
  exact ⟨limbs_natL _, Nat.le_trans hle h.cap, h.most, hr⟩
theorem Raw.none_ (w : World) : Raw w none 0 [] := ⟨by simp [Limbs], Nat.le_refl _, by omega, ⟨by simp [cellsU], fun h => absurd h (by simp)⟩⟩
theorem IntAt.nought (w : World) : IntAt w (.agg #[.bool false, .slice none 0 0]) 0 := ⟨none, 0, rfl, Raw.none_ w⟩
/-- A call that hands back a whole number, wherever its limbs lie. -/
def RetAt (w : World) (x : Int) (e : Ending) (w' : World) : Prop := ∃ v, e = .returned v ∧ IntAt w' v x ∧ Below w.heap.size w w'
def sv (neg : Bool) (A : Option Addr) (c : Nat) (xs : List Nat) : Value := if val xs = 0 then .agg #[.bool false, .slice none 0 0] else .agg #[.bool neg, .slice A (natL (val xs)).length c]
theorem sv_form (neg : Bool) (A : Option Addr) (c : Nat) (xs : List Nat) : ∃ b A' k c', sv neg A c xs = .agg #[.bool b, .slice A' k c'] := by
  unfold sv; split <;> exact ⟨_, _, _, _, rfl⟩
theorem IntAt.sv {w : World} {neg : Bool} {A : Option Addr} {c : Nat} {xs : List Nat} (h : Raw w A c xs) : IntAt w (sv neg A c xs) (ival neg xs) := by
  unfold Go.Proofs.YtpcdiijmhllejaaDoor.sv
  by_cases h0 : val xs = 0
  · rw [if_pos h0]
    have : ival neg xs = 0 := by unfold ival; rw [h0]; cases neg <;> rfl
    rw [this]; exact IntAt.nought w
  · rw [if_neg h0]
    have ha : (ival neg xs).natAbs = val xs := by unfold ival; split <;> omega
    have hn : decide (ival neg xs < 0) = neg := by unfold ival; cases neg <;> simp <;> omega
    exact ⟨A, c, by rw [ha, hn], by rw [ha]; exact h.cut⟩
/-- A call that hands back a whole number of its own and an error. -/
def RetInt2 (base : Nat) (w : World) (x : Int) (code : Int) (e : Ending) (w' : World) : Prop := ∃ v, e = .returned (.tuple #[v, .int .i64 code]) ∧ IntOwn w' base v x ∧ Below w.heap.size w w'
def toldV (z : Int) : Int := if (natL z.natAbs).length ≤ 2048 then z else 0
def toldE (z : Int) : Int := if (natL z.natAbs).length ≤ 2048 then 0 else 4

theorem exact_Times (n1 n2 : Bool) (A B : Option Addr) (c d : Nat) (xs ys : List Nat) (hlx : xs.length ≤ 536870912) (hly : ys.length ≤ 536870912) (w : World) (h : Raw w A c xs) (g : Raw w B d ys) :
    Calls Tryd.prog 38 #[.agg #[.bool n1, .slice A xs.length c], .agg #[.bool n2, .slice B ys.length d]] w (RetInt w.heap.size w (ival n1 xs * ival n2 ys)) := by
  refine exact_Times_own n1 n2 A B c d xs ys hlx hly _ ?_ w h g
  show _ = _
  unfold ival
  cases n1 <;> cases n2 <;> simp [Int.neg_mul, Int.mul_neg]

set_option maxRecDepth 100000 in
set_option maxHeartbeats 1000000 in
theorem exact_Minus_neg (n1 : Bool) (A B : Option Addr) (c d : Nat) (xs ys : List Nat)  (hcx : Canon xs) (hcy : Canon ys) (hlx : xs.length ≤ 536870912) (hly : ys.length ≤ 536870912) (z : Int) (HZV : Hid (z = ival n1 xs + ival false ys)) (w : World) (h : Raw w A c xs) (g : Raw w B d ys) :
    Calls Tryd.prog 35 #[.agg #[.bool n1, .slice A xs.length c], .agg #[.bool true, .slice B ys.length d]] w (RetInt w.heap.size w z) := by
  have px := ((Pair.new w 24 (.bool n1) (.slice A xs.length c)).alloc (.cells #[.bool true, .slice B ys.length d] 24)).alloc (.cells #[.bool false, .slice none 0 0] 24)
  have py := (Pair.new (w.alloc (.cells #[.bool n1, .slice A xs.length c] 24)) 24 (.bool true) (.slice B ys.length d)).alloc (.cells #[.bool false, .slice none 0 0] 24)
  have pr := Pair.new ((w.alloc (.cells #[.bool n1, .slice A xs.length c] 24)).alloc (.cells #[.bool true, .slice B ys.length d] 24)) 24 (.bool false) (.slice none 0 0)
  have rx := (((h.alloc (.cells #[.bool n1, .slice A xs.length c] 24)).alloc (.cells #[.bool true, .slice B ys.length d] 24)).alloc (.cells #[.bool false, .slice none 0 0] 24))
  have ry := (((g.alloc (.cells #[.bool n1, .slice A xs.length c] 24)).alloc (.cells #[.bool true, .slice B ys.length d] 24)).alloc (.cells #[.bool false, .slice none 0 0] 24))
  have b0 := (((Below.refl w.heap.size w).alloc (Nat.le_refl _) (.cells #[.bool n1, .slice A xs.length c] 24)).alloc (by simp) (.cells #[.bool true, .slice B ys.length d] 24)).alloc (by simp; omega) (.cells #[.bool false, .slice none 0 0] 24)
  simp only [World.size_alloc] at py pr
  clear h g
  go_enter Tryd.func35, Tryd.ntmps35
  go_wp2_with fail
  obtain ⟨W, E⟩ : ∃ W, W = ((w.alloc (.cells #[.bool n1, .slice A xs.length c] 24)).alloc (.cells #[.bool true, .slice B ys.length d] 24)).alloc (.cells #[.bool false, .slice none 0 0] 24) := ⟨_, rfl⟩
  rw [← E] at px py pr b0 rx ry ⊢
  clear E
  have PX := Lib.hid px
  have PY := Lib.hid py
  have PR := Lib.hid pr
  have B0 := Lib.hid b0
  have RX := Lib.hid rx
  have RY := Lib.hid ry
  have hlr := pr.blk.lt
  have hsz := b0.size
  obtain ⟨l1, x0, x1, -, -⟩ := px.facts
  obtain ⟨l2, y0, y1, -, -⟩ := py.facts
  clear px py pr rx ry b0
  have C1 := Lib.hid (show Calls Tryd.prog 39 #[.agg #[.bool n1, .slice A xs.length c], .agg #[.bool false, .slice B ys.length d]] W (RetInt W.heap.size W z) from by rw [HZV.out]; exact exact_Plus n1 false A B c d xs ys hcx hcy hlx hly W RX.out RY.out)
  go_wp2_with fail
  refine C1.out.mono ?_
  rintro e w1 ⟨v, rfl, hI, hb⟩
  clear C1 RX RY PX PY l1 x0 x1 l2 y0 y1
  obtain ⟨A1, c1, hv, -⟩ := hI.form
  have hI2 := hI
  rw [hv] at hI2 ⊢
  have pr := PR.out.below hb
  have B1 := belowTo B0.out hb
  obtain ⟨hl, k0, k1, f0, f1⟩ := pr.facts
  clear hv hI hb
  go_wp2_with fail
  have hq := pr.store (.bool (decide (z < 0))) (.slice A1 (natL z.natAbs).length c1)
  obtain ⟨_, k0, k1, _, _⟩ := hq.facts
  exact bodyPost_ret (by simp [results, Tryd.results35, go_sem, k0, k1]) rfl ⟨_, rfl, (hI2.pair (by omega)).base hsz, below2 B1 (by omega) _ _⟩

set_option maxRecDepth 100000 in
set_option maxHeartbeats 1000000 in
theorem exact_Minus_pos (n1 : Bool) (A B : Option Addr) (c d : Nat) (xs ys : List Nat) (hy : 0 < ys.length) (hcx : Canon xs) (hcy : Canon ys) (hlx : xs.length ≤ 536870912) (hly : ys.length ≤ 536870912) (z : Int) (HZV : Hid (z = ival n1 xs + ival true ys)) (w : World) (h : Raw w A c xs) (g : Raw w B d ys) :
    Calls Tryd.prog 35 #[.agg #[.bool n1, .slice A xs.length c], .agg #[.bool false, .slice B ys.length d]] w (RetInt w.heap.size w z) := by
  have hy2 : decide ((0 : Int) < (ys.length : Int)) = true := by simp; omega
  have px := ((Pair.new w 24 (.bool n1) (.slice A xs.length c)).alloc (.cells #[.bool false, .slice B ys.length d] 24)).alloc (.cells #[.bool false, .slice none 0 0] 24)
  have py := (Pair.new (w.alloc (.cells #[.bool n1, .slice A xs.length c] 24)) 24 (.bool false) (.slice B ys.length d)).alloc (.cells #[.bool false, .slice none 0 0] 24)
  have pr := Pair.new ((w.alloc (.cells #[.bool n1, .slice A xs.length c] 24)).alloc (.cells #[.bool false, .slice B ys.length d] 24)) 24 (.bool false) (.slice none 0 0)
  have rx := (((h.alloc (.cells #[.bool n1, .slice A xs.length c] 24)).alloc (.cells #[.bool false, .slice B ys.length d] 24)).alloc (.cells #[.bool false, .slice none 0 0] 24))
  have ry := (((g.alloc (.cells #[.bool n1, .slice A xs.length c] 24)).alloc (.cells #[.bool false, .slice B ys.length d] 24)).alloc (.cells #[.bool false, .slice none 0 0] 24))
  have b0 := (((Below.refl w.heap.size w).alloc (Nat.le_refl _) (.cells #[.bool n1, .slice A xs.length c] 24)).alloc (by simp) (.cells #[.bool false, .slice B ys.length d] 24)).alloc (by simp; omega) (.cells #[.bool false, .slice none 0 0] 24)
  simp only [World.size_alloc] at py pr
  clear h g
  go_enter Tryd.func35, Tryd.ntmps35
  go_wp2_with fail
  obtain ⟨W, E⟩ : ∃ W, W = ((w.alloc (.cells #[.bool n1, .slice A xs.length c] 24)).alloc (.cells #[.bool false, .slice B ys.length d] 24)).alloc (.cells #[.bool false, .slice none 0 0] 24) := ⟨_, rfl⟩
  rw [← E] at px py pr b0 rx ry ⊢
  clear E
  have PX := Lib.hid px
  have PY := Lib.hid py
  have PR := Lib.hid pr
  have B0 := Lib.hid b0
  have RX := Lib.hid rx
  have RY := Lib.hid ry
  have hlr := pr.blk.lt
  have hsz := b0.size
  obtain ⟨l1, x0, x1, -, -⟩ := px.facts
  obtain ⟨l2, y0, y1, -, -⟩ := py.facts
  clear px py pr rx ry b0
  have C1 := Lib.hid (show Calls Tryd.prog 39 #[.agg #[.bool n1, .slice A xs.length c], .agg #[.bool true, .slice B ys.length d]] W (RetInt W.heap.size W z) from by rw [HZV.out]; exact exact_Plus n1 true A B c d xs ys hcx hcy hlx hly W RX.out RY.out)
  go_wp2_with fail
  refine C1.out.mono ?_
  rintro e w1 ⟨v, rfl, hI, hb⟩
  clear C1 RX RY PX PY l1 x0 x1 l2 y0 y1
  obtain ⟨A1, c1, hv, -⟩ := hI.form
  have hI2 := hI
  rw [hv] at hI2 ⊢
  have pr := PR.out.below hb
  have B1 := belowTo B0.out hb
  obtain ⟨hl, k0, k1, f0, f1⟩ := pr.facts
  clear hv hI hb
  go_wp2_with fail
  have hq := pr.store (.bool (decide (z < 0))) (.slice A1 (natL z.natAbs).length c1)
  obtain ⟨_, k0, k1, _, _⟩ := hq.facts
  exact bodyPost_ret (by simp [results, Tryd.results35, go_sem, k0, k1]) rfl ⟨_, rfl, (hI2.pair (by omega)).base hsz, below2 B1 (by omega) _ _⟩

set_option maxRecDepth 100000 in
set_option maxHeartbeats 1000000 in
theorem exact_Minus_nought (n1 : Bool) (A B : Option Addr) (c d : Nat) (xs : List Nat)  (hcx : Canon xs) (hcy : Canon ([] : List Nat)) (hlx : xs.length ≤ 536870912) (hly : 0 ≤ 536870912) (z : Int) (HZV : Hid (z = ival n1 xs + ival false ([] : List Nat))) (w : World) (h : Raw w A c xs) (g : Raw w B d ([] : List Nat)) :
    Calls Tryd.prog 35 #[.agg #[.bool n1, .slice A xs.length c], .agg #[.bool false, .slice B 0 d]] w (RetInt w.heap.size w z) := by
  have px := ((Pair.new w 24 (.bool n1) (.slice A xs.length c)).alloc (.cells #[.bool false, .slice B 0 d] 24)).alloc (.cells #[.bool false, .slice none 0 0] 24)
  have py := (Pair.new (w.alloc (.cells #[.bool n1, .slice A xs.length c] 24)) 24 (.bool false) (.slice B 0 d)).alloc (.cells #[.bool false, .slice none 0 0] 24)
  have pr := Pair.new ((w.alloc (.cells #[.bool n1, .slice A xs.length c] 24)).alloc (.cells #[.bool false, .slice B 0 d] 24)) 24 (.bool false) (.slice none 0 0)
  have rx := (((h.alloc (.cells #[.bool n1, .slice A xs.length c] 24)).alloc (.cells #[.bool false, .slice B 0 d] 24)).alloc (.cells #[.bool false, .slice none 0 0] 24))
  have ry := (((g.alloc (.cells #[.bool n1, .slice A xs.length c] 24)).alloc (.cells #[.bool false, .slice B 0 d] 24)).alloc (.cells #[.bool false, .slice none 0 0] 24))
  have b0 := (((Below.refl w.heap.size w).alloc (Nat.le_refl _) (.cells #[.bool n1, .slice A xs.length c] 24)).alloc (by simp) (.cells #[.bool false, .slice B 0 d] 24)).alloc (by simp; omega) (.cells #[.bool false, .slice none 0 0] 24)
  simp only [World.size_alloc] at py pr
  clear h g
  go_enter Tryd.func35, Tryd.ntmps35
  go_wp2_with fail
  obtain ⟨W, E⟩ : ∃ W, W = ((w.alloc (.cells #[.bool n1, .slice A xs.length c] 24)).alloc (.cells #[.bool false, .slice B 0 d] 24)).alloc (.cells #[.bool false, .slice none 0 0] 24) := ⟨_, rfl⟩
  rw [← E] at px py pr b0 rx ry ⊢
  clear E
  have PX := Lib.hid px
  have PY := Lib.hid py
  have PR := Lib.hid pr
  have B0 := Lib.hid b0
  have RX := Lib.hid rx
  have RY := Lib.hid ry
  have hlr := pr.blk.lt
  have hsz := b0.size
  obtain ⟨l1, x0, x1, -, -⟩ := px.facts
  obtain ⟨l2, y0, y1, -, -⟩ := py.facts
  clear px py pr rx ry b0
  have C1 := Lib.hid (show Calls Tryd.prog 39 #[.agg #[.bool n1, .slice A xs.length c], .agg #[.bool false, .slice B 0 d]] W (RetInt W.heap.size W z) from by rw [HZV.out]; exact exact_Plus n1 false A B c d xs ([] : List Nat) hcx hcy hlx hly W RX.out RY.out)
  go_wp2_with fail
  refine C1.out.mono ?_
  rintro e w1 ⟨v, rfl, hI, hb⟩
  clear C1 RX RY PX PY l1 x0 x1 l2 y0 y1
  obtain ⟨A1, c1, hv, -⟩ := hI.form
  have hI2 := hI
  rw [hv] at hI2 ⊢
  have pr := PR.out.below hb
  have B1 := belowTo B0.out hb
  obtain ⟨hl, k0, k1, f0, f1⟩ := pr.facts
  clear hv hI hb
  go_wp2_with fail
  have hq := pr.store (.bool (decide (z < 0))) (.slice A1 (natL z.natAbs).length c1)
  obtain ⟨_, k0, k1, _, _⟩ := hq.facts
  exact bodyPost_ret (by simp [results, Tryd.results35, go_sem, k0, k1]) rfl ⟨_, rfl, (hI2.pair (by omega)).base hsz, below2 B1 (by omega) _ _⟩

theorem exact_Minus (n1 n2 : Bool) (A B : Option Addr) (c d : Nat) (xs ys : List Nat) (hcx : Canon xs) (hcy : Canon ys) (hlx : xs.length ≤ 536870912) (hly : ys.length ≤ 536870912) (w : World) (h : Raw w A c xs) (g : Raw w B d ys) :
    Calls Tryd.prog 35 #[.agg #[.bool n1, .slice A xs.length c], .agg #[.bool n2, .slice B ys.length d]] w (RetInt w.heap.size w (ival n1 xs - ival n2 ys)) := by
  cases n2 with
  | true => exact exact_Minus_neg n1 A B c d xs ys hcx hcy hlx hly _ (by show _ = _; simp [ival]; try omega) w h g
  | false =>
    by_cases hy : 0 < ys.length
    · exact exact_Minus_pos n1 A B c d xs ys hy hcx hcy hlx hly _ (by show _ = _; simp [ival]; try omega) w h g
    · have e : ys = [] := List.eq_nil_of_length_eq_zero (by omega)
      subst e
      exact exact_Minus_nought n1 A B c d xs hcx hcy hlx hly _ (by show _ = _; simp [ival, val]) w h g

end Go.Proofs.YtpcdiijmhllejaaDoor
