/- Several texts in one: Fine, Ops, Answer, Append. -/
import Derived.Test.YtadmoheohmbieaaGreatDoorPr05
import Derived.Test.YtadmoheohmbieaaGreatDoorPr07
import Derived.Test.YtadmoheohmbieaaGreatDoorPr01
/- fine, Cmp of package whole and of the references. (Written by wip/exact/genfine.py.) -/
namespace Go.Proofs.YtadmoheohmbieaaGreatDoor
open Go.RowKit

end Go.Proofs.YtadmoheohmbieaaGreatDoor

/- Minus, Times, told; Add, Sub, Mul of package whole and of the references. (Written by wip/exact/genops.py.) -/
namespace Go.Proofs.YtadmoheohmbieaaGreatDoor
open Go.RowKit

theorem ival_at (x : Int) : ival (decide (x < 0)) (natL x.natAbs) = x := by
  unfold ival
  rw [val_natL]
  by_cases h : x < 0
  · simp [h]; omega
  · simp [h]; omega
/-- A number as a value: its sign, its limbs somewhere. -/
structure IntAt (w : World) (v : Value) (x : Int) : Prop where
  form : ∃ A c, v = .agg #[.bool (decide (x < 0)), .slice A (natL x.natAbs).length c] ∧ Raw w A c (natL x.natAbs)
theorem IntAt.below {w w' : World} {v : Value} {x : Int} (h : IntAt w v x) (hb : Below w.heap.size w w') : IntAt w' v x := by
  obtain ⟨A, c, h1, h2⟩ := h.form
  exact ⟨A, c, h1, h2.below hb⟩
theorem IntOwn.at_ {w : World} {base : Nat} {v : Value} {x : Int} (h : IntOwn w base v x) : IntAt w v x := ⟨h.raw⟩
theorem Raw.cut {w : World} {A : Option Addr} {c : Nat} {xs : List Nat} (h : Raw w A c xs) : Raw w A c (natL (val xs)) := by
  have hle := natL_val_le h.limbs
  have hr := h.reads.take (natL (val xs)).length
  rw [← natL_take h.limbs] at hr
  exact ⟨limbs_natL _, Nat.le_trans hle h.cap, h.most, hr⟩
theorem Raw.none_ (w : World) : Raw w none 0 [] := ⟨by simp [Limbs], Nat.le_refl _, by omega, ⟨by simp [cellsU], fun h => absurd h (by simp)⟩⟩
theorem IntAt.nought (w : World) : IntAt w (.agg #[.bool false, .slice none 0 0]) 0 := ⟨none, 0, rfl, Raw.none_ w⟩
/-- A call that hands back a whole number, wherever its limbs lie. -/
def RetAt (w : World) (x : Int) (e : Ending) (w' : World) : Prop := ∃ v, e = .returned v ∧ IntAt w' v x ∧ Below w.heap.size w w'
def sv (neg : Bool) (A : Option Addr) (c : Nat) (xs : List Nat) : Value := if val xs = 0 then .agg #[.bool false, .slice none 0 0] else .agg #[.bool neg, .slice A (natL (val xs)).length c]
theorem sv_form (neg : Bool) (A : Option Addr) (c : Nat) (xs : List Nat) : ∃ b A' k c', sv neg A c xs = .agg #[.bool b, .slice A' k c'] := by
  unfold sv; split <;> exact ⟨_, _, _, _, rfl⟩
theorem IntAt.sv {w : World} {neg : Bool} {A : Option Addr} {c : Nat} {xs : List Nat} (h : Raw w A c xs) : IntAt w (sv neg A c xs) (ival neg xs) := by
  unfold Go.Proofs.YtadmoheohmbieaaGreatDoor.sv
  by_cases h0 : val xs = 0
  · rw [if_pos h0]
    have : ival neg xs = 0 := by unfold ival; rw [h0]; cases neg <;> rfl
    rw [this]; exact IntAt.nought w
  · rw [if_neg h0]
    have ha : (ival neg xs).natAbs = val xs := by unfold ival; split <;> omega
    have hn : decide (ival neg xs < 0) = neg := by unfold ival; cases neg <;> simp <;> omega
    exact ⟨A, c, by rw [ha, hn], by rw [ha]; exact h.cut⟩
theorem ref_signed_sv (neg : Bool) (A : Option Addr) (c : Nat) (xs : List Nat) (w : World) (h : Raw w A c xs) :
    Calls Tryz.prog 66 #[.bool neg, .slice A xs.length c] w fun e w' => e = .returned (sv neg A c xs) ∧ Below w.heap.size w w' := by
  unfold sv
  by_cases h0 : val xs = 0
  · rw [if_pos h0]; exact ref_signed_nought neg A c xs w h h0
  · rw [if_neg h0]; exact ref_signed_more neg A c xs w h h0
/-- A call that hands back a whole number of its own and an error. -/
def RetInt2 (base : Nat) (w : World) (x : Int) (code : Int) (e : Ending) (w' : World) : Prop := ∃ v, e = .returned (.tuple #[v, .int .i64 code]) ∧ IntOwn w' base v x ∧ Below w.heap.size w w'
def toldV (z : Int) : Int := if (natL z.natAbs).length ≤ 2048 then z else 0
def toldE (z : Int) : Int := if (natL z.natAbs).length ≤ 2048 then 0 else 4

theorem exact_Times (n1 n2 : Bool) (A B : Option Addr) (c d : Nat) (xs ys : List Nat) (hlx : xs.length ≤ 536870912) (hly : ys.length ≤ 536870912) (w : World) (h : Raw w A c xs) (g : Raw w B d ys) :
    Calls Tryz.prog 204 #[.agg #[.bool n1, .slice A xs.length c], .agg #[.bool n2, .slice B ys.length d]] w (RetInt w.heap.size w (ival n1 xs * ival n2 ys)) := by
  refine exact_Times_own n1 n2 A B c d xs ys hlx hly _ ?_ w h g
  show _ = _
  unfold ival
  cases n1 <;> cases n2 <;> simp [Int.neg_mul, Int.mul_neg]

set_option maxRecDepth 100000 in
set_option maxHeartbeats 1000000 in
theorem exact_Minus_neg (n1 : Bool) (A B : Option Addr) (c d : Nat) (xs ys : List Nat)  (hcx : Canon xs) (hcy : Canon ys) (hlx : xs.length ≤ 536870912) (hly : ys.length ≤ 536870912) (z : Int) (HZV : Hid (z = ival n1 xs + ival false ys)) (w : World) (h : Raw w A c xs) (g : Raw w B d ys) :
    Calls Tryz.prog 224 #[.agg #[.bool n1, .slice A xs.length c], .agg #[.bool true, .slice B ys.length d]] w (RetInt w.heap.size w z) := by
  have px := ((Pair.new w 24 (.bool n1) (.slice A xs.length c)).alloc (.cells #[.bool true, .slice B ys.length d] 24)).alloc (.cells #[.bool false, .slice none 0 0] 24)
  have py := (Pair.new (w.alloc (.cells #[.bool n1, .slice A xs.length c] 24)) 24 (.bool true) (.slice B ys.length d)).alloc (.cells #[.bool false, .slice none 0 0] 24)
  have pr := Pair.new ((w.alloc (.cells #[.bool n1, .slice A xs.length c] 24)).alloc (.cells #[.bool true, .slice B ys.length d] 24)) 24 (.bool false) (.slice none 0 0)
  have rx := (((h.alloc (.cells #[.bool n1, .slice A xs.length c] 24)).alloc (.cells #[.bool true, .slice B ys.length d] 24)).alloc (.cells #[.bool false, .slice none 0 0] 24))
  have ry := (((g.alloc (.cells #[.bool n1, .slice A xs.length c] 24)).alloc (.cells #[.bool true, .slice B ys.length d] 24)).alloc (.cells #[.bool false, .slice none 0 0] 24))
  have b0 := (((Below.refl w.heap.size w).alloc (Nat.le_refl _) (.cells #[.bool n1, .slice A xs.length c] 24)).alloc (by simp) (.cells #[.bool true, .slice B ys.length d] 24)).alloc (by simp; omega) (.cells #[.bool false, .slice none 0 0] 24)
  simp only [World.size_alloc] at py pr
  clear h g
  go_enter Tryz.func224, Tryz.ntmps224
  go_wp2_with fail
  obtain ⟨W, E⟩ : ∃ W, W = ((w.alloc (.cells #[.bool n1, .slice A xs.length c] 24)).alloc (.cells #[.bool true, .slice B ys.length d] 24)).alloc (.cells #[.bool false, .slice none 0 0] 24) := ⟨_, rfl⟩
  rw [← E] at px py pr b0 rx ry ⊢
  clear E
  have PX := Lib.hid px
  have PY := Lib.hid py
  have PR := Lib.hid pr
  have B0 := Lib.hid b0
  have RX := Lib.hid rx
  have RY := Lib.hid ry
  have hlr := pr.blk.lt
  have hsz := b0.size
  obtain ⟨l1, x0, x1, -, -⟩ := px.facts
  obtain ⟨l2, y0, y1, -, -⟩ := py.facts
  clear px py pr rx ry b0
  have C1 := Lib.hid (show Calls Tryz.prog 208 #[.agg #[.bool n1, .slice A xs.length c], .agg #[.bool false, .slice B ys.length d]] W (RetInt W.heap.size W z) from by rw [HZV.out]; exact exact_Plus n1 false A B c d xs ys hcx hcy hlx hly W RX.out RY.out)
  go_wp2_with fail
  refine C1.out.mono ?_
  rintro e w1 ⟨v, rfl, hI, hb⟩
  clear C1 RX RY PX PY l1 x0 x1 l2 y0 y1
  obtain ⟨A1, c1, hv, -⟩ := hI.form
  have hI2 := hI
  rw [hv] at hI2 ⊢
  have pr := PR.out.below hb
  have B1 := belowTo B0.out hb
  obtain ⟨hl, k0, k1, f0, f1⟩ := pr.facts
  clear hv hI hb
  go_wp2_with fail
  have hq := pr.store (.bool (decide (z < 0))) (.slice A1 (natL z.natAbs).length c1)
  obtain ⟨_, k0, k1, _, _⟩ := hq.facts
  exact bodyPost_ret (by simp [results, Tryz.results224, go_sem, k0, k1]) rfl ⟨_, rfl, (hI2.pair (by omega)).base hsz, below2 B1 (by omega) _ _⟩

set_option maxRecDepth 100000 in
set_option maxHeartbeats 1000000 in
theorem exact_Minus_pos (n1 : Bool) (A B : Option Addr) (c d : Nat) (xs ys : List Nat) (hy : 0 < ys.length) (hcx : Canon xs) (hcy : Canon ys) (hlx : xs.length ≤ 536870912) (hly : ys.length ≤ 536870912) (z : Int) (HZV : Hid (z = ival n1 xs + ival true ys)) (w : World) (h : Raw w A c xs) (g : Raw w B d ys) :
    Calls Tryz.prog 224 #[.agg #[.bool n1, .slice A xs.length c], .agg #[.bool false, .slice B ys.length d]] w (RetInt w.heap.size w z) := by
  have hy2 : decide ((0 : Int) < (ys.length : Int)) = true := by simp; omega
  have px := ((Pair.new w 24 (.bool n1) (.slice A xs.length c)).alloc (.cells #[.bool false, .slice B ys.length d] 24)).alloc (.cells #[.bool false, .slice none 0 0] 24)
  have py := (Pair.new (w.alloc (.cells #[.bool n1, .slice A xs.length c] 24)) 24 (.bool false) (.slice B ys.length d)).alloc (.cells #[.bool false, .slice none 0 0] 24)
  have pr := Pair.new ((w.alloc (.cells #[.bool n1, .slice A xs.length c] 24)).alloc (.cells #[.bool false, .slice B ys.length d] 24)) 24 (.bool false) (.slice none 0 0)
  have rx := (((h.alloc (.cells #[.bool n1, .slice A xs.length c] 24)).alloc (.cells #[.bool false, .slice B ys.length d] 24)).alloc (.cells #[.bool false, .slice none 0 0] 24))
  have ry := (((g.alloc (.cells #[.bool n1, .slice A xs.length c] 24)).alloc (.cells #[.bool false, .slice B ys.length d] 24)).alloc (.cells #[.bool false, .slice none 0 0] 24))
  have b0 := (((Below.refl w.heap.size w).alloc (Nat.le_refl _) (.cells #[.bool n1, .slice A xs.length c] 24)).alloc (by simp) (.cells #[.bool false, .slice B ys.length d] 24)).alloc (by simp; omega) (.cells #[.bool false, .slice none 0 0] 24)
  simp only [World.size_alloc] at py pr
  clear h g
  go_enter Tryz.func224, Tryz.ntmps224
  go_wp2_with fail
  obtain ⟨W, E⟩ : ∃ W, W = ((w.alloc (.cells #[.bool n1, .slice A xs.length c] 24)).alloc (.cells #[.bool false, .slice B ys.length d] 24)).alloc (.cells #[.bool false, .slice none 0 0] 24) := ⟨_, rfl⟩
  rw [← E] at px py pr b0 rx ry ⊢
  clear E
  have PX := Lib.hid px
  have PY := Lib.hid py
  have PR := Lib.hid pr
  have B0 := Lib.hid b0
  have RX := Lib.hid rx
  have RY := Lib.hid ry
  have hlr := pr.blk.lt
  have hsz := b0.size
  obtain ⟨l1, x0, x1, -, -⟩ := px.facts
  obtain ⟨l2, y0, y1, -, -⟩ := py.facts
  clear px py pr rx ry b0
  have C1 := Lib.hid (show Calls Tryz.prog 208 #[.agg #[.bool n1, .slice A xs.length c], .agg #[.bool true, .slice B ys.length d]] W (RetInt W.heap.size W z) from by rw [HZV.out]; exact exact_Plus n1 true A B c d xs ys hcx hcy hlx hly W RX.out RY.out)
  go_wp2_with fail
  refine C1.out.mono ?_
  rintro e w1 ⟨v, rfl, hI, hb⟩
  clear C1 RX RY PX PY l1 x0 x1 l2 y0 y1
  obtain ⟨A1, c1, hv, -⟩ := hI.form
  have hI2 := hI
  rw [hv] at hI2 ⊢
  have pr := PR.out.below hb
  have B1 := belowTo B0.out hb
  obtain ⟨hl, k0, k1, f0, f1⟩ := pr.facts
  clear hv hI hb
  go_wp2_with fail
  have hq := pr.store (.bool (decide (z < 0))) (.slice A1 (natL z.natAbs).length c1)
  obtain ⟨_, k0, k1, _, _⟩ := hq.facts
  exact bodyPost_ret (by simp [results, Tryz.results224, go_sem, k0, k1]) rfl ⟨_, rfl, (hI2.pair (by omega)).base hsz, below2 B1 (by omega) _ _⟩

set_option maxRecDepth 100000 in
set_option maxHeartbeats 1000000 in
theorem exact_Minus_nought (n1 : Bool) (A B : Option Addr) (c d : Nat) (xs : List Nat)  (hcx : Canon xs) (hcy : Canon ([] : List Nat)) (hlx : xs.length ≤ 536870912) (hly : 0 ≤ 536870912) (z : Int) (HZV : Hid (z = ival n1 xs + ival false ([] : List Nat))) (w : World) (h : Raw w A c xs) (g : Raw w B d ([] : List Nat)) :
    Calls Tryz.prog 224 #[.agg #[.bool n1, .slice A xs.length c], .agg #[.bool false, .slice B 0 d]] w (RetInt w.heap.size w z) := by
  have px := ((Pair.new w 24 (.bool n1) (.slice A xs.length c)).alloc (.cells #[.bool false, .slice B 0 d] 24)).alloc (.cells #[.bool false, .slice none 0 0] 24)
  have py := (Pair.new (w.alloc (.cells #[.bool n1, .slice A xs.length c] 24)) 24 (.bool false) (.slice B 0 d)).alloc (.cells #[.bool false, .slice none 0 0] 24)
  have pr := Pair.new ((w.alloc (.cells #[.bool n1, .slice A xs.length c] 24)).alloc (.cells #[.bool false, .slice B 0 d] 24)) 24 (.bool false) (.slice none 0 0)
  have rx := (((h.alloc (.cells #[.bool n1, .slice A xs.length c] 24)).alloc (.cells #[.bool false, .slice B 0 d] 24)).alloc (.cells #[.bool false, .slice none 0 0] 24))
  have ry := (((g.alloc (.cells #[.bool n1, .slice A xs.length c] 24)).alloc (.cells #[.bool false, .slice B 0 d] 24)).alloc (.cells #[.bool false, .slice none 0 0] 24))
  have b0 := (((Below.refl w.heap.size w).alloc (Nat.le_refl _) (.cells #[.bool n1, .slice A xs.length c] 24)).alloc (by simp) (.cells #[.bool false, .slice B 0 d] 24)).alloc (by simp; omega) (.cells #[.bool false, .slice none 0 0] 24)
  simp only [World.size_alloc] at py pr
  clear h g
  go_enter Tryz.func224, Tryz.ntmps224
  go_wp2_with fail
  obtain ⟨W, E⟩ : ∃ W, W = ((w.alloc (.cells #[.bool n1, .slice A xs.length c] 24)).alloc (.cells #[.bool false, .slice B 0 d] 24)).alloc (.cells #[.bool false, .slice none 0 0] 24) := ⟨_, rfl⟩
  rw [← E] at px py pr b0 rx ry ⊢
  clear E
  have PX := Lib.hid px
  have PY := Lib.hid py
  have PR := Lib.hid pr
  have B0 := Lib.hid b0
  have RX := Lib.hid rx
  have RY := Lib.hid ry
  have hlr := pr.blk.lt
  have hsz := b0.size
  obtain ⟨l1, x0, x1, -, -⟩ := px.facts
  obtain ⟨l2, y0, y1, -, -⟩ := py.facts
  clear px py pr rx ry b0
  have C1 := Lib.hid (show Calls Tryz.prog 208 #[.agg #[.bool n1, .slice A xs.length c], .agg #[.bool false, .slice B 0 d]] W (RetInt W.heap.size W z) from by rw [HZV.out]; exact exact_Plus n1 false A B c d xs ([] : List Nat) hcx hcy hlx hly W RX.out RY.out)
  go_wp2_with fail
  refine C1.out.mono ?_
  rintro e w1 ⟨v, rfl, hI, hb⟩
  clear C1 RX RY PX PY l1 x0 x1 l2 y0 y1
  obtain ⟨A1, c1, hv, -⟩ := hI.form
  have hI2 := hI
  rw [hv] at hI2 ⊢
  have pr := PR.out.below hb
  have B1 := belowTo B0.out hb
  obtain ⟨hl, k0, k1, f0, f1⟩ := pr.facts
  clear hv hI hb
  go_wp2_with fail
  have hq := pr.store (.bool (decide (z < 0))) (.slice A1 (natL z.natAbs).length c1)
  obtain ⟨_, k0, k1, _, _⟩ := hq.facts
  exact bodyPost_ret (by simp [results, Tryz.results224, go_sem, k0, k1]) rfl ⟨_, rfl, (hI2.pair (by omega)).base hsz, below2 B1 (by omega) _ _⟩

theorem exact_Minus (n1 n2 : Bool) (A B : Option Addr) (c d : Nat) (xs ys : List Nat) (hcx : Canon xs) (hcy : Canon ys) (hlx : xs.length ≤ 536870912) (hly : ys.length ≤ 536870912) (w : World) (h : Raw w A c xs) (g : Raw w B d ys) :
    Calls Tryz.prog 224 #[.agg #[.bool n1, .slice A xs.length c], .agg #[.bool n2, .slice B ys.length d]] w (RetInt w.heap.size w (ival n1 xs - ival n2 ys)) := by
  cases n2 with
  | true => exact exact_Minus_neg n1 A B c d xs ys hcx hcy hlx hly _ (by show _ = _; simp [ival]; try omega) w h g
  | false =>
    by_cases hy : 0 < ys.length
    · exact exact_Minus_pos n1 A B c d xs ys hy hcx hcy hlx hly _ (by show _ = _; simp [ival]; try omega) w h g
    · have e : ys = [] := List.eq_nil_of_length_eq_zero (by omega)
      subst e
      exact exact_Minus_nought n1 A B c d xs hcx hcy hlx hly _ (by show _ = _; simp [ival, val]) w h g

set_option maxRecDepth 100000 in
set_option maxHeartbeats 2000000 in
theorem ref_Times_own (n1 n2 : Bool) (A B : Option Addr) (c d : Nat) (xs ys : List Nat) (hlx : xs.length ≤ 536870912) (hly : ys.length ≤ 536870912) (z : Int) (HZV : Hid (z = if (n1 != n2) then -((val xs * val ys : Nat) : Int) else ((val xs * val ys : Nat) : Int))) (w : World) (h : Raw w A c xs) (g : Raw w B d ys) :
    Calls Tryz.prog 127 #[.agg #[.bool n1, .slice A xs.length c], .agg #[.bool n2, .slice B ys.length d]] w (RetInt w.heap.size w z) := by
  have px := ((Pair.new w 24 (.bool n1) (.slice A xs.length c)).alloc (.cells #[.bool n2, .slice B ys.length d] 24)).alloc (.cells #[.bool false, .slice none 0 0] 24)
  have py := (Pair.new (w.alloc (.cells #[.bool n1, .slice A xs.length c] 24)) 24 (.bool n2) (.slice B ys.length d)).alloc (.cells #[.bool false, .slice none 0 0] 24)
  have pr := Pair.new ((w.alloc (.cells #[.bool n1, .slice A xs.length c] 24)).alloc (.cells #[.bool n2, .slice B ys.length d] 24)) 24 (.bool false) (.slice none 0 0)
  have rx := (((h.alloc (.cells #[.bool n1, .slice A xs.length c] 24)).alloc (.cells #[.bool n2, .slice B ys.length d] 24)).alloc (.cells #[.bool false, .slice none 0 0] 24))
  have ry := (((g.alloc (.cells #[.bool n1, .slice A xs.length c] 24)).alloc (.cells #[.bool n2, .slice B ys.length d] 24)).alloc (.cells #[.bool false, .slice none 0 0] 24))
  have b0 := (((Below.refl w.heap.size w).alloc (Nat.le_refl _) (.cells #[.bool n1, .slice A xs.length c] 24)).alloc (by simp) (.cells #[.bool n2, .slice B ys.length d] 24)).alloc (by simp; omega) (.cells #[.bool false, .slice none 0 0] 24)
  simp only [World.size_alloc] at py pr
  clear h g
  go_enter Tryz.func127, Tryz.ntmps127
  go_wp2_with fail
  obtain ⟨W, E⟩ : ∃ W, W = ((w.alloc (.cells #[.bool n1, .slice A xs.length c] 24)).alloc (.cells #[.bool n2, .slice B ys.length d] 24)).alloc (.cells #[.bool false, .slice none 0 0] 24) := ⟨_, rfl⟩
  rw [← E] at px py pr b0 rx ry ⊢
  clear E
  have PX := Lib.hid px
  have PY := Lib.hid py
  have PR := Lib.hid pr
  have B0 := Lib.hid b0
  have RX := Lib.hid rx
  have RY := Lib.hid ry
  have hlr := pr.blk.lt
  have hsz := b0.size
  obtain ⟨l1, x0, x1, -, -⟩ := px.facts
  obtain ⟨l2, y0, y1, -, -⟩ := py.facts
  clear px py pr rx ry b0
  have HW := Lib.hid (Below.refl W.heap.size W)
  have C1 := Lib.hid (fun (V : World) (hV : Below W.heap.size W V) => ref_mul A B c d xs ys hlx hly V (RX.out.below hV) (RY.out.below hV))
  have C2 := Lib.hid (fun (V : World) (v : Value) (hV : OwnL V W.heap.size v (val xs * val ys) (xs.length + ys.length)) => show Calls Tryz.prog 66 #[.bool (n1 != n2), v] V (RetInt W.heap.size V z) from by rw [HZV.out]; exact ref_signed_own (n1 != n2) v _ _ _ V hV)
  refine wp_region_steps [.val (.pointer (some ⟨w.heap.size, 0, none⟩)), .val (.bool n1), .val (.pointer (some ⟨w.heap.size + 1, 0, none⟩)), .val (.bool n2), .val (.bool (n1 != n2)), .val (.pointer (some ⟨w.heap.size, 1, none⟩)), .val (.slice A xs.length c), .val (.pointer (some ⟨w.heap.size + 1, 1, none⟩)), .val (.slice B ys.length d), .step, .step, .step] 2 3 W
    (fun us V => match us with
      | [] => True
      | [va] => OwnL V W.heap.size va (val xs * val ys) (xs.length + ys.length)
      | [_, vb] => IntOwn V W.heap.size vb z
      | _ => False)
    (fun _ V => ∃ A1 c1, IntOwn V W.heap.size (.agg #[.bool (decide (z < 0)), .slice A1 (natL z.natAbs).length c1]) z ∧ Pair V (w.heap.size + 1 + 1) 24 (.bool (decide (z < 0))) (.slice A1 (natL z.natAbs).length c1) ∧ Below w.heap.size w V)
    _ mixedOrders2 (by kernel_rfl) (by kernel_rfl) (by kernel_rfl) (by kernel_rfl) (by kernel_rfl) (by kernel_rfl) (by kernel_rfl) (by kernel_rfl) (by kernel_rfl) rfl ?_ HW.out trivial ?_ ?_ ?_
  · intro us V V' hg hb
    match us, hg with
    | [], _ => trivial
    | [va], hg => exact hg.below hb
    | [va, vb], hg => exact hg.below hb
  · simp [ValsOk, chainAct, fill, pairs, valAt]
    repeat' apply And.intro
    all_goals
      intro V hV
      obtain ⟨-, e0, e1, -, -⟩ := (PX.out.below hV).facts
      obtain ⟨-, f0, f1, -, -⟩ := (PY.out.below hV).facts
      clear hV
      go_simp
      first | exact Below.refl _ _ | exact ⟨by cases n1 <;> cases n2 <;> rfl, Below.refl _ _⟩
  · simp [StepsOk, chainAct, fill, pairs, valAt, stepNo, List.filter, Stp.isStep]
    refine ⟨fun V hV => ?_, fun va => ⟨fun V hV hva => ?_, fun vb V hV hvb => ?_⟩⟩
    · go_simp
      refine (C1.out V hV).mono ?_
      rintro e w' ⟨v, rfl, hv, hb⟩
      exact ⟨belowTo hV hb, hv.base hV.size⟩
    · go_simp
      refine (C2.out V va hva).mono ?_
      rintro e w' ⟨v, rfl, hv, hb⟩
      exact ⟨belowTo hV hb, hv⟩
    · obtain ⟨A1, c1, rfl, -⟩ := hvb.form
      have pr := PR.out.below hV
      obtain ⟨p1, p2, p3, p4, p5⟩ := pr.facts
      go_simp
      exact ⟨A1, c1, hvb.pair (by omega), pr.store _ _, below2 (belowTo B0.out hV) (by omega) _ _⟩
  · intro us V hus hF
    simp only [show ¬ (3 ≤ 2) by decide, if_false] at hF
    obtain ⟨A1, c1, hI, pr, hb⟩ := hF
    obtain ⟨u0, u1, u2, rfl⟩ : ∃ u0 u1 u2, us = [u0, u1, u2] := by
      match us, hus with
      | [u0, u1, u2], _ => exact ⟨u0, u1, u2, rfl⟩
    simp [chainAct, fill, pairs, valAt, stepNo, List.filter, Stp.isStep]
    obtain ⟨_, k0, k1, _, _⟩ := pr.facts
    clear PX PY RX RY l1 x0 x1 l2 y0 y1
    go_wp2_with fail
    exact bodyPost_ret (by simp [results, Tryz.results127, go_sem, k0, k1]) rfl ⟨_, rfl, hI.base hsz, hb⟩

theorem ref_Times (n1 n2 : Bool) (A B : Option Addr) (c d : Nat) (xs ys : List Nat) (hlx : xs.length ≤ 536870912) (hly : ys.length ≤ 536870912) (w : World) (h : Raw w A c xs) (g : Raw w B d ys) :
    Calls Tryz.prog 127 #[.agg #[.bool n1, .slice A xs.length c], .agg #[.bool n2, .slice B ys.length d]] w (RetInt w.heap.size w (ival n1 xs * ival n2 ys)) := by
  refine ref_Times_own n1 n2 A B c d xs ys hlx hly _ ?_ w h g
  show _ = _
  unfold ival
  cases n1 <;> cases n2 <;> simp [Int.neg_mul, Int.mul_neg]
end Go.Proofs.YtadmoheohmbieaaGreatDoor

/- told, Add, Sub, Mul of package whole and of the references. (Written by wip/exact/gentold.py.) -/
namespace Go.Proofs.YtadmoheohmbieaaGreatDoor
open Go.RowKit

theorem IntOwn.value {w : World} {base : Nat} {v : Value} {x : Int} (h : IntOwn w base v x) : ∃ A c, v = .agg #[.bool (decide (x < 0)), .slice A (natL x.natAbs).length c] ∧ (natL x.natAbs).length ≤ 9223372036854775807 := by
  obtain ⟨A, c, h1, h2, h3, _⟩ := h.form
  exact ⟨A, c, h1, by omega⟩

end Go.Proofs.YtadmoheohmbieaaGreatDoor

/- An append of one cell to a row of the call's own: in place, or to a new block; the elder block then stays. -/
namespace Go.Proofs.YtadmoheohmbieaaGreatDoor
open Go.RowKit
section
variable {P : Program} (w : World)
/-- In place, or moved. -/
def Grew (w : World) (v : Value) (n : Nat) (v' : Value) (w' : World) : Prop :=
  (∃ g cap, v = .slice (some ⟨g, 0, none⟩) n cap ∧ v' = .slice (some ⟨g, 0, none⟩) (n + 1) cap ∧ w.grownBy w' (some g)) ∨ (v'.ownBlock = some w.heap.size ∧ w.grownBy w' none)
theorem run_append_one (base : Nat) (t ty e : TypeId) (i : TypeInfo) (z : Value) (bytes : Nat) (ht : P.underlying t = some (.slice e)) (hi : P.info? e = some i) (hz : i.zero = some z)
    (hsize : i.size = 1) (hby : i.bytes = bytes) (hzs : z.cells.size = 1) (v : Value) (n : Nat) (xs : List Value) (hown : w.ownsRow base e 1 v n xs)
    (a : Addr) (c : Nat) (u : Value) (hu : w.cell? a = some u) (h1 : u.oneCell' = true)
    (h63 : n + 1 ≤ maxLen) (hbytes : (n + 1) * bytes ≤ 140737488355328) (hbase : base ≤ w.heap.size) :
    ∃ v' w', (Builtin.append_ #[t, t] ty #[v, .slice (some a) 1 c]).run P w = .ok v' w' ∧ w'.ownsRow base e 1 v' (n + 1) (xs ++ [u]) ∧ Grew w v n v' w' := by
  have hnews : ∀ j x, [u][j]? = some x → w.cell? (a.add j) = some x := by
    intro j x hj
    cases j with
    | zero => simp at hj; subst hj; simpa [Addr.add] using hu
    | succ j => simp at hj
  have h1' : ∀ x ∈ [u], x.oneCell' = true := by simpa using h1
  obtain ⟨v', w', hrun, how, -, -, -⟩ := run_append_own_at (P := P) w base t ty e i z 1 bytes ht hi hz hsize hby hzs (by omega) v n xs hown a 1 c [u] rfl hnews h1' h63 hbytes hbase
  refine ⟨v', w', hrun, how, ?_⟩
  have hsmall : n + 1 ≤ 9223372036854775807 := by simp only [maxLen] at h63; omega
  have moved : ∀ o : Obj, w.grownBy (w.drew.alloc o) none := fun o => ⟨rfl, rfl, rfl, by simp, fun k hk _ => Below.heap_alloc w.drew _ k hk⟩
  rcases hown.2 with ⟨rfl, rfl⟩ | ⟨g, cap, cur, rfl, hbg, hg, hnc, hcm, hcs, htake⟩
  · have hr := run_append_nil (P := P) w t ty e i z ht hi hz a 1 c [u] (by simp [hsize]) hnews (by omega) (by omega) (by rw [hby]; omega)
    rw [hrun] at hr
    injection hr with e1 e2
    subst e1 e2
    exact .inr ⟨rfl, moved _⟩
  · by_cases hroom : n + 1 ≤ cap
    · obtain ⟨w1, hr, -, hgr⟩ := run_append_fits (P := P) w base t ty e i 1 ht hi hsize g n cap xs hown a 1 c [u] rfl hnews h1' hroom
      rw [hrun] at hr
      injection hr with e1 e2
      subst e1 e2
      exact .inl ⟨g, cap, rfl, rfl, hgr⟩
    · have holds : ∀ j x, xs[j]? = some x → w.cell? ((⟨g, 0, none⟩ : Addr).add j) = some x := hown.cells (g := g) rfl
      have hr := run_append_grow (P := P) w t ty e i z ht hi hz ⟨g, 0, none⟩ n cap xs (by rw [hsize]; exact hown.1) holds a 1 c [u] (by simp [hsize]) hnews (by omega) (by omega) (by rw [hby]; exact growslice_fits (by omega) hbytes)
      rw [hrun] at hr
      injection hr with e1 e2
      subst e1 e2
      exact .inr ⟨rfl, moved _⟩
theorem wpList_append_one {ops : Array Oper} {rest : List Oper} {o : Oper} {a : Act} {Q : Exit → Act → World → Prop} (hgd : o.guard = none) (s x : Operand) (t : TypeId)
    (ho : o.op = .call { callee := .builtin .append, args := #[s, x], argTypes := #[t, t] })
    (base : Nat) (e : TypeId) (i : TypeInfo) (z : Value) (bytes : Nat) (ht : P.underlying t = some (.slice e)) (hi : P.info? e = some i) (hz : i.zero = some z)
    (hsize : i.size = 1) (hby : i.bytes = bytes) (hzs : z.cells.size = 1)
    (v : Value) (n : Nat) (xs : List Value) (hs : a.eval s = v) (hown : w.ownsRow base e 1 v n xs)
    (ad : Addr) (c : Nat) (u : Value) (hx : a.eval x = .slice (some ad) 1 c) (hu : w.cell? ad = some u) (h1 : u.oneCell' = true)
    (h63 : n + 1 ≤ maxLen) (hbytes : (n + 1) * bytes ≤ 140737488355328) (hbase : base ≤ w.heap.size)
    (h : ∀ v' w', w'.ownsRow base e 1 v' (n + 1) (xs ++ [u]) → Grew w v n v' w' → wpList P ops Q rest (a.put o.dst v') w') : wpList P ops Q (o :: rest) a w := by
  refine wpList_plain hgd fun _ hK => ?_
  obtain ⟨v', w', hrun, h2, h3⟩ := run_append_one (P := P) w base t o.type e i z bytes ht hi hz hsize hby hzs v n xs hown ad c u hu h1 h63 hbytes hbase
  unfold Oper.wp execOp
  simp only [ho, resolve, invoke, builtin, Sem.run_bind, Sem.run_pure, Result.andThen_ok, List.map_toArray, List.map_cons, List.map_nil, hs, hx, hrun]
  exact hK _ _ (h v' w' h2 h3)
end
end Go.Proofs.YtadmoheohmbieaaGreatDoor
