/- Several texts in one: RefMul, Long, Fine, Ops. -/
import Derived.Test.YthlehkjcfhnplaaGreatDoorGc05
import Derived.Test.YthlehkjcfhnplaaGreatDoorGc09
import Derived.Test.YthlehkjcfhnplaaGreatDoorGc08
import Derived.Test.YthlehkjcfhnplaaGreatDoorGcHd
set_option maxRecDepth 100000
set_option maxHeartbeats 8000000
/- mul, times of the references: what they count. -/
namespace Go.Proofs.YthlehkjcfhnplaaGreatDoor
open Go.RowKit

theorem Mid.drewN {w0 wr : World} {g L : Nat} {zs : List Nat} {top : Nat} (h : Mid w0 wr g L zs top) (n : Nat) : Mid w0 (wr.drewN n) g L zs top :=
  ⟨h.len, h.limbs, ⟨h.row.blk.drewN n⟩, below_drewN h.low n, h.nought⟩

/- Long of package exact and of the references: is one of these too long? -/

theorem Reads.row2 {w : World} {B n k : Nat} {A : Option Addr} {xs : List Value} {a b : Value} (h : Reads w B 2 A n xs) (hk : k < n) (h0 : xs[k * 2]? = some a) (h1 : xs[k * 2 + 1]? = some b) :
    ∃ ad : Addr, A = some ad ∧ ad.block < B ∧ w.cell? (ad.add (k * 2)) = some a ∧ w.cell? ⟨(ad.add (k * 2)).block, (ad.add (k * 2)).off + 1, none⟩ = some b := by
  obtain ⟨ad, e, hb, hc⟩ := h.2 (by omega)
  refine ⟨ad, e, hb, hc _ _ h0, ?_⟩
  rw [← add_more _ _ 1 (by omega)]; exact hc _ _ h1
theorem flat2 {α : Type} (f g : α → Value) : ∀ (l : List α) (k : Nat) (hk : k < l.length), (l.flatMap fun m => [f m, g m])[k * 2]? = some (f l[k]) ∧ (l.flatMap fun m => [f m, g m])[k * 2 + 1]? = some (g l[k])
  | [], k, hk => by simp at hk
  | m :: l, 0, _ => by simp
  | m :: l, k + 1, hk => by
    have ih := flat2 f g l k (by simpa using hk)
    simp only [List.flatMap_cons, show (k + 1) * 2 = k * 2 + 2 by omega]
    simpa using ih
abbrev Loc := Bool × Option Addr × Nat × Nat
def cellsZ (l : List Loc) : List Value := l.flatMap fun m => [.bool m.1, .slice m.2.1 m.2.2.1 m.2.2.2]

theorem long_one (neg : Bool) (A : Option Addr) (k c : Nat) (hk : k ≤ 9223372036854775807) (w : World) :
    Calls Tryz.prog 290 #[.agg #[.bool neg, .slice A k c]] w fun e w' => e = .returned (.bool (decide (2048 < k))) ∧ Below w.heap.size w w' := by
  by_cases h : 2048 < k
  · rw [decide_eq_true h]
    have h2 : (2048 : Int) < (k : Int) := by omega
    clear h
    go_enter Tryz.func290, Tryz.ntmps290
    go_wp2
    go_ret
    exact ⟨by go_num, by repeat (first | exact Below.refl _ _ | refine Below.alloc ?_ (by simp; try omega) _)⟩
  · rw [decide_eq_false h]
    have h2 : (k : Int) ≤ 2048 := by omega
    clear h
    go_enter Tryz.func290, Tryz.ntmps290
    go_wp2
    go_ret
    exact ⟨by go_num, by repeat (first | exact Below.refl _ _ | refine Below.alloc ?_ (by simp; try omega) _)⟩

theorem index_long (A : Option Addr) (c : Nat) (l : List Loc) (hl : l.length ≤ 9223372036854775807) (hs : ∀ x ∈ l, x.2.2.1 ≤ 9223372036854775807) (w : World) (h : Reads w w.heap.size 2 A l.length (cellsZ l)) :
    Calls Tryz.prog 316 #[.slice A l.length c, (.func (.func 290) #[] #[])] w fun e w' => ∃ k : Int, e = .returned (.int .i64 k) ∧ (decide (0 ≤ k) = l.any fun x => decide (2048 < x.2.2.1)) ∧ Below w.heap.size w w' := by
  have HR := Hd h
  have HS := Hd hs
  clear h hs
  have H0 := Hd (by intro j hj; omega : ∀ j (hj : j < 0), (h : j < l.length) → ¬ 2048 < l[j].2.2.1)
  go_enter Tryz.func316, Tryz.ntmps316
  go_wp2_with fail
  go_loopw [8] (fun s wr => ∃ i : Nat, s = .int .i64 i ∧ i ≤ l.length ∧ Hid (∀ j (hj : j < i), (h : j < l.length) → ¬ 2048 < l[j].2.2.1) ∧ Below w.heap.size w wr) (fun s _ => l.length - (intOf s).toNat)
  case atStart => exact ⟨0, rfl, Nat.zero_le _, H0, Below.refl _ _⟩
  case round =>
    obtain ⟨i, rfl, hi, HN, hb⟩ := hrel
    clear H0
    by_cases hlt : i < l.length
    · have a0 : (0 : Int) ≤ (i : Int) := by omega
      have a1 : (i : Int) < (l.length : Int) := by omega
      obtain ⟨e0, e1⟩ := flat2 (fun m : Loc => Value.bool m.1) (fun m : Loc => Value.slice m.2.1 m.2.2.1 m.2.2.2) l i hlt
      obtain ⟨ad, rfl, hbl, c0, c1⟩ := (HR.out.below hb).row2 hlt e0 e1
      have C := Hd (fun V => long_one l[i].1 l[i].2.1 l[i].2.2.1 l[i].2.2.2 (HS.out _ (List.getElem_mem hlt)) V)
      have HB := Hd hb
      clear e0 e1 hbl hb
      by_cases hlong : 2048 < l[i].2.2.1
      · rw [decide_eq_true hlong] at C
        have HL := Hd hlong
        clear hlong
        go_wp2_with (first | (go_at_call 290; with_reducible refine (C.out _).mono ?_; rintro e w' ⟨rfl, hb'⟩))
        go_ret
        refine ⟨_, rfl, ?_, belowTo HB.out hb'⟩
        rw [decide_eq_true (by omega), eq_comm, List.any_eq_true]
        exact ⟨l[i], List.getElem_mem hlt, decide_eq_true HL.out⟩
      · rw [decide_eq_false hlong] at C
        have HL := Hd hlong
        clear hlong
        go_wp2_with (first | (go_at_call 290; with_reducible refine (C.out _).mono ?_; rintro e w' ⟨rfl, hb'⟩))
        go_roundw
        case rel =>
          refine ⟨i + 1, by go_num, hlt, Hd fun j hj h => ?_, belowTo HB.out hb'⟩
          rcases (by omega : j < i ∨ j = i) with hj | rfl
          · exact HN.out j hj h
          · exact HL.out
        case measure => simp [intOf]; omega
    · have HB := Hd hb
      clear hb
      go_wp2_with fail
      go_ret
      refine ⟨_, rfl, ?_, HB.out⟩
      rw [decide_eq_false (by omega), eq_comm, List.any_eq_false]
      intro x hx
      obtain ⟨j, hj, rfl⟩ := List.getElem_of_mem hx
      simpa using HN.out j (by omega) hj

theorem contains_long (A : Option Addr) (c : Nat) (l : List Loc) (hl : l.length ≤ 9223372036854775807) (hs : ∀ x ∈ l, x.2.2.1 ≤ 9223372036854775807) (w : World) (h : Reads w w.heap.size 2 A l.length (cellsZ l)) :
    Calls Tryz.prog 289 #[.slice A l.length c, (.func (.func 290) #[] #[])] w fun e w' => e = .returned (.bool (l.any fun x => decide (2048 < x.2.2.1))) ∧ Below w.heap.size w w' := by
  have C := Hd (index_long A c l hl hs w h)
  clear h hs
  generalize (l.any fun x => decide (2048 < x.2.2.1)) = b at C ⊢
  go_enter Tryz.func289, Tryz.ntmps289
  go_wp2_with fail
  refine C.out.mono ?_
  rintro e w' ⟨k, rfl, rfl, hb⟩
  go_wp2_with fail
  go_ret
  exact ⟨rfl, hb⟩
theorem exact_Long (A : Option Addr) (c : Nat) (l : List Loc) (hl : l.length ≤ 9223372036854775807) (hs : ∀ x ∈ l, x.2.2.1 ≤ 9223372036854775807) (w : World) (h : Reads w w.heap.size 2 A l.length (cellsZ l)) :
    Calls Tryz.prog 250 #[.slice A l.length c] w fun e w' => e = .returned (.bool (l.any fun x => decide (2048 < x.2.2.1))) ∧ Below w.heap.size w w' := by
  have C := Hd (contains_long A c l hl hs w h)
  clear h hs
  generalize (l.any fun x => decide (2048 < x.2.2.1)) = b at C ⊢
  go_enter Tryz.func250, Tryz.ntmps250
  go_wp2_with fail
  refine C.out.mono ?_
  rintro e w' ⟨rfl, hb⟩
  go_wp2_with fail
  go_ret
  exact ⟨rfl, hb⟩

/- fine, Cmp of package whole and of the references. (Written by wip/exact/genfine.py.) -/

/- Minus, Times, told; Add, Sub, Mul of package whole and of the references. (Written by wip/exact/genops.py.) -/

theorem ival_at (x : Int) : ival (decide (x < 0)) (natL x.natAbs) = x := by
  unfold ival
  rw [val_natL]
  by_cases h : x < 0
  · simp [h]; omega
  · simp [h]; omega
structure IntAt (w : World) (v : Value) (x : Int) : Prop where
  form : ∃ A c, v = .agg #[.bool (decide (x < 0)), .slice A (natL x.natAbs).length c] ∧ Raw w A c (natL x.natAbs)
theorem IntAt.below {w w' : World} {v : Value} {x : Int} (h : IntAt w v x) (hb : Below w.heap.size w w') : IntAt w' v x := by
  obtain ⟨A, c, h1, h2⟩ := h.form
  exact ⟨A, c, h1, h2.below hb⟩
theorem IntOwn.at_ {w : World} {base : Nat} {v : Value} {x : Int} (h : IntOwn w base v x) : IntAt w v x := ⟨h.raw⟩
theorem Raw.cut {w : World} {A : Option Addr} {c : Nat} {xs : List Nat} (h : Raw w A c xs) : Raw w A c (natL (val xs)) := by
  have hle := natL_val_le h.limbs
  have hr := h.reads.take (natL (val xs)).length
  rw [← natL_take h.limbs] at hr
  exact ⟨limbs_natL _, Nat.le_trans hle h.cap, h.most, hr⟩
theorem Raw.none_ (w : World) : Raw w none 0 [] := ⟨by simp [Limbs], Nat.le_refl _, by omega, ⟨by simp [cellsU], fun h => absurd h (by simp)⟩⟩
theorem IntAt.nought (w : World) : IntAt w (.agg #[.bool false, .slice none 0 0]) 0 := ⟨none, 0, rfl, Raw.none_ w⟩
def RetAt (w : World) (x : Int) (e : Ending) (w' : World) : Prop := ∃ v, e = .returned v ∧ IntAt w' v x ∧ Below w.heap.size w w'
def sv (neg : Bool) (A : Option Addr) (c : Nat) (xs : List Nat) : Value := if val xs = 0 then .agg #[.bool false, .slice none 0 0] else .agg #[.bool neg, .slice A (natL (val xs)).length c]
theorem sv_form (neg : Bool) (A : Option Addr) (c : Nat) (xs : List Nat) : ∃ b A' k c', sv neg A c xs = .agg #[.bool b, .slice A' k c'] := by
  unfold sv; split <;> exact ⟨_, _, _, _, rfl⟩
theorem IntAt.sv {w : World} {neg : Bool} {A : Option Addr} {c : Nat} {xs : List Nat} (h : Raw w A c xs) : IntAt w (sv neg A c xs) (ival neg xs) := by
  unfold Go.Proofs.YthlehkjcfhnplaaGreatDoor.sv
  by_cases h0 : val xs = 0
  · rw [if_pos h0]
    have : ival neg xs = 0 := by unfold ival; rw [h0]; cases neg <;> rfl
    rw [this]; exact IntAt.nought w
  · rw [if_neg h0]
    have ha : (ival neg xs).natAbs = val xs := by unfold ival; split <;> omega
    have hn : decide (ival neg xs < 0) = neg := by unfold ival; cases neg <;> simp <;> omega
    exact ⟨A, c, by rw [ha, hn], by rw [ha]; exact h.cut⟩
def RetInt2 (base : Nat) (w : World) (x : Int) (code : Int) (e : Ending) (w' : World) : Prop := ∃ v, e = .returned (.tuple #[v, .int .i64 code]) ∧ IntOwn w' base v x ∧ Below w.heap.size w w'
def toldV (z : Int) : Int := if (natL z.natAbs).length ≤ 2048 then z else 0
def toldE (z : Int) : Int := if (natL z.natAbs).length ≤ 2048 then 0 else 4

theorem exact_Times (n1 n2 : Bool) (A B : Option Addr) (c d : Nat) (xs ys : List Nat) (hlx : xs.length ≤ 536870912) (hly : ys.length ≤ 536870912) (w : World) (h : Raw w A c xs) (g : Raw w B d ys) :
    Calls Tryz.prog 212 #[.agg #[.bool n1, .slice A xs.length c], .agg #[.bool n2, .slice B ys.length d]] w (RetInt w.heap.size w (ival n1 xs * ival n2 ys)) := by
  refine exact_Times_own n1 n2 A B c d xs ys hlx hly _ ?_ w h g
  show _ = _
  unfold ival
  cases n1 <;> cases n2 <;> simp [Int.neg_mul, Int.mul_neg]

theorem exact_Minus_neg (n1 : Bool) (A B : Option Addr) (c d : Nat) (xs ys : List Nat)  (hcx : Canon xs) (hcy : Canon ys) (hlx : xs.length ≤ 536870912) (hly : ys.length ≤ 536870912) (z : Int) (HZV : Hid (z = ival n1 xs + ival false ys)) (w : World) (h : Raw w A c xs) (g : Raw w B d ys) :
    Calls Tryz.prog 219 #[.agg #[.bool n1, .slice A xs.length c], .agg #[.bool true, .slice B ys.length d]] w (RetInt w.heap.size w z) := by
  have px := ((Pair.new w 24 (.bool n1) (.slice A xs.length c)).alloc (.cells #[.bool true, .slice B ys.length d] 24)).alloc (.cells #[.bool false, .slice none 0 0] 24)
  have py := (Pair.new (w.alloc (.cells #[.bool n1, .slice A xs.length c] 24)) 24 (.bool true) (.slice B ys.length d)).alloc (.cells #[.bool false, .slice none 0 0] 24)
  have pr := Pair.new ((w.alloc (.cells #[.bool n1, .slice A xs.length c] 24)).alloc (.cells #[.bool true, .slice B ys.length d] 24)) 24 (.bool false) (.slice none 0 0)
  have rx := (((h.alloc (.cells #[.bool n1, .slice A xs.length c] 24)).alloc (.cells #[.bool true, .slice B ys.length d] 24)).alloc (.cells #[.bool false, .slice none 0 0] 24))
  have ry := (((g.alloc (.cells #[.bool n1, .slice A xs.length c] 24)).alloc (.cells #[.bool true, .slice B ys.length d] 24)).alloc (.cells #[.bool false, .slice none 0 0] 24))
  have b0 := (((Below.refl w.heap.size w).alloc (Nat.le_refl _) (.cells #[.bool n1, .slice A xs.length c] 24)).alloc (by simp) (.cells #[.bool true, .slice B ys.length d] 24)).alloc (by simp; omega) (.cells #[.bool false, .slice none 0 0] 24)
  simp only [World.size_alloc] at py pr
  clear h g
  go_enter Tryz.func219, Tryz.ntmps219
  go_wp2_with fail
  obtain ⟨W, E⟩ : ∃ W, W = ((w.alloc (.cells #[.bool n1, .slice A xs.length c] 24)).alloc (.cells #[.bool true, .slice B ys.length d] 24)).alloc (.cells #[.bool false, .slice none 0 0] 24) := ⟨_, rfl⟩
  rw [← E] at px py pr b0 rx ry ⊢
  clear E
  have PX := Hd px
  have PY := Hd py
  have PR := Hd pr
  have B0 := Hd b0
  have RX := Hd rx
  have RY := Hd ry
  have hlr := pr.blk.lt
  have hsz := b0.size
  obtain ⟨l1, x0, x1, -, -⟩ := px.facts
  obtain ⟨l2, y0, y1, -, -⟩ := py.facts
  clear px py pr rx ry b0
  have C1 := Hd (show Calls Tryz.prog 220 #[.agg #[.bool n1, .slice A xs.length c], .agg #[.bool false, .slice B ys.length d]] W (RetInt W.heap.size W z) from by rw [HZV.out]; exact exact_Plus n1 false A B c d xs ys hcx hcy hlx hly W RX.out RY.out)
  go_wp2_with fail
  refine C1.out.mono ?_
  rintro e w1 ⟨v, rfl, hI, hb⟩
  clear C1 RX RY PX PY l1 x0 x1 l2 y0 y1
  obtain ⟨A1, c1, hv, -⟩ := hI.form
  have hI2 := hI
  rw [hv] at hI2 ⊢
  have pr := PR.out.below hb
  have B1 := belowTo B0.out hb
  obtain ⟨hl, k0, k1, f0, f1⟩ := pr.facts
  clear hv hI hb
  go_wp2_with fail
  have hq := pr.store (.bool (decide (z < 0))) (.slice A1 (natL z.natAbs).length c1)
  obtain ⟨_, k0, k1, _, _⟩ := hq.facts
  exact bodyPost_ret (by simp [results, Tryz.results219, go_sem, k0, k1]) rfl ⟨_, rfl, (hI2.pair (by omega)).base hsz, below2 B1 (by omega) _ _⟩

theorem exact_Minus_pos (n1 : Bool) (A B : Option Addr) (c d : Nat) (xs ys : List Nat) (hy : 0 < ys.length) (hcx : Canon xs) (hcy : Canon ys) (hlx : xs.length ≤ 536870912) (hly : ys.length ≤ 536870912) (z : Int) (HZV : Hid (z = ival n1 xs + ival true ys)) (w : World) (h : Raw w A c xs) (g : Raw w B d ys) :
    Calls Tryz.prog 219 #[.agg #[.bool n1, .slice A xs.length c], .agg #[.bool false, .slice B ys.length d]] w (RetInt w.heap.size w z) := by
  have hy2 : decide ((0 : Int) < (ys.length : Int)) = true := by simp; omega
  have px := ((Pair.new w 24 (.bool n1) (.slice A xs.length c)).alloc (.cells #[.bool false, .slice B ys.length d] 24)).alloc (.cells #[.bool false, .slice none 0 0] 24)
  have py := (Pair.new (w.alloc (.cells #[.bool n1, .slice A xs.length c] 24)) 24 (.bool false) (.slice B ys.length d)).alloc (.cells #[.bool false, .slice none 0 0] 24)
  have pr := Pair.new ((w.alloc (.cells #[.bool n1, .slice A xs.length c] 24)).alloc (.cells #[.bool false, .slice B ys.length d] 24)) 24 (.bool false) (.slice none 0 0)
  have rx := (((h.alloc (.cells #[.bool n1, .slice A xs.length c] 24)).alloc (.cells #[.bool false, .slice B ys.length d] 24)).alloc (.cells #[.bool false, .slice none 0 0] 24))
  have ry := (((g.alloc (.cells #[.bool n1, .slice A xs.length c] 24)).alloc (.cells #[.bool false, .slice B ys.length d] 24)).alloc (.cells #[.bool false, .slice none 0 0] 24))
  have b0 := (((Below.refl w.heap.size w).alloc (Nat.le_refl _) (.cells #[.bool n1, .slice A xs.length c] 24)).alloc (by simp) (.cells #[.bool false, .slice B ys.length d] 24)).alloc (by simp; omega) (.cells #[.bool false, .slice none 0 0] 24)
  simp only [World.size_alloc] at py pr
  clear h g
  go_enter Tryz.func219, Tryz.ntmps219
  go_wp2_with fail
  obtain ⟨W, E⟩ : ∃ W, W = ((w.alloc (.cells #[.bool n1, .slice A xs.length c] 24)).alloc (.cells #[.bool false, .slice B ys.length d] 24)).alloc (.cells #[.bool false, .slice none 0 0] 24) := ⟨_, rfl⟩
  rw [← E] at px py pr b0 rx ry ⊢
  clear E
  have PX := Hd px
  have PY := Hd py
  have PR := Hd pr
  have B0 := Hd b0
  have RX := Hd rx
  have RY := Hd ry
  have hlr := pr.blk.lt
  have hsz := b0.size
  obtain ⟨l1, x0, x1, -, -⟩ := px.facts
  obtain ⟨l2, y0, y1, -, -⟩ := py.facts
  clear px py pr rx ry b0
  have C1 := Hd (show Calls Tryz.prog 220 #[.agg #[.bool n1, .slice A xs.length c], .agg #[.bool true, .slice B ys.length d]] W (RetInt W.heap.size W z) from by rw [HZV.out]; exact exact_Plus n1 true A B c d xs ys hcx hcy hlx hly W RX.out RY.out)
  go_wp2_with fail
  refine C1.out.mono ?_
  rintro e w1 ⟨v, rfl, hI, hb⟩
  clear C1 RX RY PX PY l1 x0 x1 l2 y0 y1
  obtain ⟨A1, c1, hv, -⟩ := hI.form
  have hI2 := hI
  rw [hv] at hI2 ⊢
  have pr := PR.out.below hb
  have B1 := belowTo B0.out hb
  obtain ⟨hl, k0, k1, f0, f1⟩ := pr.facts
  clear hv hI hb
  go_wp2_with fail
  have hq := pr.store (.bool (decide (z < 0))) (.slice A1 (natL z.natAbs).length c1)
  obtain ⟨_, k0, k1, _, _⟩ := hq.facts
  exact bodyPost_ret (by simp [results, Tryz.results219, go_sem, k0, k1]) rfl ⟨_, rfl, (hI2.pair (by omega)).base hsz, below2 B1 (by omega) _ _⟩

theorem exact_Minus_nought (n1 : Bool) (A B : Option Addr) (c d : Nat) (xs : List Nat)  (hcx : Canon xs) (hcy : Canon ([] : List Nat)) (hlx : xs.length ≤ 536870912) (hly : 0 ≤ 536870912) (z : Int) (HZV : Hid (z = ival n1 xs + ival false ([] : List Nat))) (w : World) (h : Raw w A c xs) (g : Raw w B d ([] : List Nat)) :
    Calls Tryz.prog 219 #[.agg #[.bool n1, .slice A xs.length c], .agg #[.bool false, .slice B 0 d]] w (RetInt w.heap.size w z) := by
  have px := ((Pair.new w 24 (.bool n1) (.slice A xs.length c)).alloc (.cells #[.bool false, .slice B 0 d] 24)).alloc (.cells #[.bool false, .slice none 0 0] 24)
  have py := (Pair.new (w.alloc (.cells #[.bool n1, .slice A xs.length c] 24)) 24 (.bool false) (.slice B 0 d)).alloc (.cells #[.bool false, .slice none 0 0] 24)
  have pr := Pair.new ((w.alloc (.cells #[.bool n1, .slice A xs.length c] 24)).alloc (.cells #[.bool false, .slice B 0 d] 24)) 24 (.bool false) (.slice none 0 0)
  have rx := (((h.alloc (.cells #[.bool n1, .slice A xs.length c] 24)).alloc (.cells #[.bool false, .slice B 0 d] 24)).alloc (.cells #[.bool false, .slice none 0 0] 24))
  have ry := (((g.alloc (.cells #[.bool n1, .slice A xs.length c] 24)).alloc (.cells #[.bool false, .slice B 0 d] 24)).alloc (.cells #[.bool false, .slice none 0 0] 24))
  have b0 := (((Below.refl w.heap.size w).alloc (Nat.le_refl _) (.cells #[.bool n1, .slice A xs.length c] 24)).alloc (by simp) (.cells #[.bool false, .slice B 0 d] 24)).alloc (by simp; omega) (.cells #[.bool false, .slice none 0 0] 24)
  simp only [World.size_alloc] at py pr
  clear h g
  go_enter Tryz.func219, Tryz.ntmps219
  go_wp2_with fail
  obtain ⟨W, E⟩ : ∃ W, W = ((w.alloc (.cells #[.bool n1, .slice A xs.length c] 24)).alloc (.cells #[.bool false, .slice B 0 d] 24)).alloc (.cells #[.bool false, .slice none 0 0] 24) := ⟨_, rfl⟩
  rw [← E] at px py pr b0 rx ry ⊢
  clear E
  have PX := Hd px
  have PY := Hd py
  have PR := Hd pr
  have B0 := Hd b0
  have RX := Hd rx
  have RY := Hd ry
  have hlr := pr.blk.lt
  have hsz := b0.size
  obtain ⟨l1, x0, x1, -, -⟩ := px.facts
  obtain ⟨l2, y0, y1, -, -⟩ := py.facts
  clear px py pr rx ry b0
  have C1 := Hd (show Calls Tryz.prog 220 #[.agg #[.bool n1, .slice A xs.length c], .agg #[.bool false, .slice B 0 d]] W (RetInt W.heap.size W z) from by rw [HZV.out]; exact exact_Plus n1 false A B c d xs ([] : List Nat) hcx hcy hlx hly W RX.out RY.out)
  go_wp2_with fail
  refine C1.out.mono ?_
  rintro e w1 ⟨v, rfl, hI, hb⟩
  clear C1 RX RY PX PY l1 x0 x1 l2 y0 y1
  obtain ⟨A1, c1, hv, -⟩ := hI.form
  have hI2 := hI
  rw [hv] at hI2 ⊢
  have pr := PR.out.below hb
  have B1 := belowTo B0.out hb
  obtain ⟨hl, k0, k1, f0, f1⟩ := pr.facts
  clear hv hI hb
  go_wp2_with fail
  have hq := pr.store (.bool (decide (z < 0))) (.slice A1 (natL z.natAbs).length c1)
  obtain ⟨_, k0, k1, _, _⟩ := hq.facts
  exact bodyPost_ret (by simp [results, Tryz.results219, go_sem, k0, k1]) rfl ⟨_, rfl, (hI2.pair (by omega)).base hsz, below2 B1 (by omega) _ _⟩

theorem exact_Minus (n1 n2 : Bool) (A B : Option Addr) (c d : Nat) (xs ys : List Nat) (hcx : Canon xs) (hcy : Canon ys) (hlx : xs.length ≤ 536870912) (hly : ys.length ≤ 536870912) (w : World) (h : Raw w A c xs) (g : Raw w B d ys) :
    Calls Tryz.prog 219 #[.agg #[.bool n1, .slice A xs.length c], .agg #[.bool n2, .slice B ys.length d]] w (RetInt w.heap.size w (ival n1 xs - ival n2 ys)) := by
  cases n2 with
  | true => exact exact_Minus_neg n1 A B c d xs ys hcx hcy hlx hly _ (by show _ = _; simp [ival]; try omega) w h g
  | false =>
    by_cases hy : 0 < ys.length
    · exact exact_Minus_pos n1 A B c d xs ys hy hcx hcy hlx hly _ (by show _ = _; simp [ival]; try omega) w h g
    · have e : ys = [] := List.eq_nil_of_length_eq_zero (by omega)
      subst e
      exact exact_Minus_nought n1 A B c d xs hcx hcy hlx hly _ (by show _ = _; simp [ival, val]) w h g

end Go.Proofs.YthlehkjcfhnplaaGreatDoor
