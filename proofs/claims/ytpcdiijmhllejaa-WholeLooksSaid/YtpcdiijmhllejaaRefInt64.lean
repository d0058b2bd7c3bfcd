/- Int64 of the references. -/
import Derived.Test.YtpcdiijmhllejaaFine
import Derived.Deep.RegionWith
namespace Go.Proofs.Ytpcdiijmhllejaa
open Go.RowKit

set_option maxRecDepth 100000 in
set_option maxHeartbeats 1000000 in
theorem ref_Int64_bad (neg : Bool) (A : Option Addr) (c : Nat) (xs : List Nat) (hok : okI neg xs = false) (w : World) (h : Raw w A c xs) :
    Calls Try.prog 17 #[.agg #[.bool neg, .slice A xs.length c]] w fun e w' => e = .returned (.tuple #[.int .i64 0, .bool false]) ∧ Below w.heap.size w w' := by
  have hx := h.alloc (.cells #[.bool neg, .slice A xs.length c] 24)
  have p0 := Pair.new w 24 (.bool neg) (.slice A xs.length c)
  have b0 := (Below.refl w.heap.size w).alloc (Nat.le_refl _) (.cells #[.bool neg, .slice A xs.length c] 24)
  have e1 : errI neg xs = 1 := by simp [errI, hok]
  clear h hok
  go_enter Try.func17, Try.ntmps17
  go_wp2_with fail
  obtain ⟨W, E⟩ : ∃ W, W = w.alloc (.cells #[.bool neg, .slice A xs.length c] 24) := ⟨_, rfl⟩
  rw [← E] at hx p0 b0 ⊢
  clear E
  have D1 := fun (V : World) (hV : Below W.heap.size W V) => ref_Check_any neg A c xs V (hx.below hV)
  rw [e1] at D1
  have H1 := Lib.hid D1
  obtain ⟨l1, c0, c1, -, -⟩ := p0.facts
  clear D1 hx p0 e1
  go_region_with (go_at_call 18; refine (H1.out _ ?_).mono ?_; exact (Below.refl _ _).drew; rintro e wx ⟨rfl, hbx⟩)
  all_goals
    go_wp2
    go_ret2
    exact ⟨rfl, b0.trans (((Below.refl _ _).drew.trans hbx).mono b0.size)⟩

theorem ival_of (n : Int) : ival (decide (n < 0)) (natL n.natAbs) = n := by
  unfold ival; rw [val_natL]
  by_cases h : n < 0
  · simp [h]; omega
  · simp [h]; omega
theorem ok64' (n : Int) (h1 : -9223372036854775808 ≤ n) (h2 : n ≤ 9223372036854775807) : okI (decide (n < 0)) (natL n.natAbs) = true := by
  refine okI_true.2 ⟨?_, canon_natL _, fun h => ?_⟩
  · have := (natL_length_le (n := n.natAbs) (k := 2)).2 (by omega); omega
  · have := natL_eq_nil.1 h
    simp; omega
/-- Of, and what it hands back opened. -/
theorem ref_Of_open (n : Int) (h1 : -9223372036854775808 ≤ n) (h2 : n ≤ 9223372036854775807) (w : World) :
    Calls Try.prog 6 #[.int .i64 n] w fun e w' => ∃ B d ys n2, e = .returned (.agg #[.bool n2, .slice B ys.length d]) ∧ Raw w' B d ys ∧ okI n2 ys = true ∧ ival n2 ys = n ∧ Below w.heap.size w w' :=
  (ref_Of n h1 h2 w).mono fun e w' ⟨v, he, hI, hb⟩ => by
    obtain ⟨B, d, hv, hR⟩ := hI.raw
    exact ⟨B, d, natL n.natAbs, decide (n < 0), by rw [he, hv], hR, ok64' n h1 h2, ival_of n, hb⟩

set_option maxRecDepth 100000 in
set_option maxHeartbeats 2000000 in
theorem ref_Int64_low (neg : Bool) (A : Option Addr) (c : Nat) (xs : List Nat) (hok : okI neg xs = true) (hlow : ival neg xs < -9223372036854775808) (w : World) (h : Raw w A c xs) :
    Calls Try.prog 17 #[.agg #[.bool neg, .slice A xs.length c]] w fun e w' => e = .returned (.tuple #[.int .i64 0, .bool false]) ∧ Below w.heap.size w w' := by
  have hx := h.alloc (.cells #[.bool neg, .slice A xs.length c] 24)
  have p0 := Pair.new w 24 (.bool neg) (.slice A xs.length c)
  have b0 := (Below.refl w.heap.size w).alloc (Nat.le_refl _) (.cells #[.bool neg, .slice A xs.length c] 24)
  have e1 : errI neg xs = 0 := by simp [errI, hok]
  have HOK := Lib.hid hok
  have HLOW := Lib.hid hlow
  clear h hok hlow
  go_enter Try.func17, Try.ntmps17
  go_wp2_with fail
  obtain ⟨W, E⟩ : ∃ W, W = w.alloc (.cells #[.bool neg, .slice A xs.length c] 24) := ⟨_, rfl⟩
  rw [← E] at hx p0 b0 ⊢
  clear E
  have D1 := fun (V : World) (hV : Below W.heap.size W V) => ref_Check_any neg A c xs V (hx.below hV)
  rw [e1] at D1
  have H1 := Lib.hid D1
  have H2 := Lib.hid (fun V => ref_Of_open (-9223372036854775808) (by omega) (by omega) V)
  have HX := Lib.hid hx
  have hk : ∀ V : World, Below W.heap.size W V → V.cell? ⟨w.heap.size, 0, none⟩ = some (.bool neg) ∧ V.cell? ⟨w.heap.size, 1, none⟩ = some (.slice A xs.length c) := fun V hV => ⟨(p0.below hV).facts.2.1, (p0.below hV).facts.2.2.1⟩
  have HK := Lib.hid hk
  obtain ⟨l1, c0, c1, -, -⟩ := p0.facts
  clear D1 hx p0 e1 hk
  go_region_with (first
    | (go_at_call 18; refine (H1.out _ ?_).mono ?_; exact (Below.refl _ _).drew; rintro e wx ⟨rfl, hbx⟩; have q1 : Below W.heap.size W wx := (Below.refl _ _).drew.trans hbx; obtain ⟨k0, k1⟩ := HK.out wx q1)
    | (go_at_call 6; refine (H2.out _).mono ?_; rintro e wy ⟨B, d, ys, n2, rfl, hR, hokR, hvR, hby⟩; have q2 : Below W.heap.size W wy := belowTo q1 hby; obtain ⟨k2, k3⟩ := HK.out wy q2; have HO := Lib.hid hokR; have HV := Lib.hid hvR; clear hokR hvR)
    | (go_at_call 29; refine (ref_Cmp_any neg n2 A B c d xs ys HOK.out HO.out _ (HX.out.below q2) hR).mono ?_; rintro e wz ⟨rfl, hbz⟩; rw [HV.out, cmpz_lt HLOW.out]; have q3 : Below W.heap.size W wz := belowTo q2 hbz))
  all_goals
    go_wp2
    go_ret2
    exact ⟨rfl, b0.trans (q3.mono b0.size)⟩

theorem cmpz_up {a b : Int} (h : b ≤ a) : 0 ≤ cmpz a b := by unfold cmpz; split <;> (try split) <;> omega
theorem cmpz_down {a b : Int} (h : a ≤ b) : cmpz a b ≤ 0 := by unfold cmpz; split <;> (try split) <;> omega

set_option maxRecDepth 100000 in
set_option maxHeartbeats 2000000 in
theorem ref_Int64_high (neg : Bool) (A : Option Addr) (c : Nat) (xs : List Nat) (hok : okI neg xs = true) (hhi : 9223372036854775807 < ival neg xs) (w : World) (h : Raw w A c xs) :
    Calls Try.prog 17 #[.agg #[.bool neg, .slice A xs.length c]] w fun e w' => e = .returned (.tuple #[.int .i64 0, .bool false]) ∧ Below w.heap.size w w' := by
  have hx := h.alloc (.cells #[.bool neg, .slice A xs.length c] 24)
  have p0 := Pair.new w 24 (.bool neg) (.slice A xs.length c)
  have b0 := (Below.refl w.heap.size w).alloc (Nat.le_refl _) (.cells #[.bool neg, .slice A xs.length c] 24)
  have e1 : errI neg xs = 0 := by simp [errI, hok]
  have HOK := Lib.hid hok
  have Z1 := Lib.hid (cmpz_up (a := ival neg xs) (b := -9223372036854775808) (by omega))
  have Z2 := Lib.hid (show 0 < cmpz (ival neg xs) 9223372036854775807 by rw [cmpz_gt hhi]; omega)
  clear h hok
  go_enter Try.func17, Try.ntmps17
  go_wp2_with fail
  obtain ⟨W, E⟩ : ∃ W, W = w.alloc (.cells #[.bool neg, .slice A xs.length c] 24) := ⟨_, rfl⟩
  rw [← E] at hx p0 b0 ⊢
  clear E
  have D1 := fun (V : World) (hV : Below W.heap.size W V) => ref_Check_any neg A c xs V (hx.below hV)
  rw [e1] at D1
  have H1 := Lib.hid D1
  have H2 := Lib.hid (fun V => ref_Of_open (-9223372036854775808) (by omega) (by omega) V)
  have H3 := Lib.hid (fun V => ref_Of_open 9223372036854775807 (by omega) (by omega) V)
  have HX := Lib.hid hx
  obtain ⟨l1, c0, c1, -, -⟩ := p0.facts
  have P0 := Lib.hid p0
  clear D1 hx p0 e1
  go_region_held3 (fun w' => Below W.heap.size W w' ∧ ∀ b o, b < W.heap.size → w'.cell? ⟨b, o, none⟩ = W.cell? ⟨b, o, none⟩)
    (first
      | exact ⟨(Below.refl _ _).drew, fun _ _ _ => rfl⟩
      | (obtain ⟨q, _⟩ := ‹Below W.heap.size W _ ∧ _›; have q' := belowTo q hbx; exact ⟨q', fun b o h => q'.cell (p := ⟨b, o, none⟩) h⟩))
    (first
      | (go_at_call 18; with_reducible refine (H1.out _ ?_).mono ?_; exact (‹Below W.heap.size W _ ∧ _›).1; rintro e wx ⟨rfl, hbx⟩)
      | (go_at_call 6; with_reducible refine (H2.out _).mono ?_; rintro e wx ⟨B, d, ys, n2, rfl, hR, hokR, hvR, hbx⟩; have HO := Lib.hid hokR; have HV := Lib.hid hvR; clear hokR hvR)
      | (go_at_call 6; with_reducible refine (H3.out _).mono ?_; rintro e wx ⟨B2, d2, ys2, n3, rfl, hR2, hokR, hvR, hbx⟩; have HO2 := Lib.hid hokR; have HV2 := Lib.hid hvR; clear hokR hvR)
      | (go_at_call 29; with_reducible refine (ref_Cmp_any neg n2 A B c d xs ys HOK.out HO.out _ ?_ hR).mono ?_; exact HX.out.below (‹Below W.heap.size W _ ∧ _›).1; rintro e wx ⟨rfl, hbx⟩; rw [HV.out]; have z1 := Z1.out; generalize cmpz (ival neg xs) (-9223372036854775808) = k1 at z1 ⊢; have zb1 : decide (k1 < 0) = false := by (simp; omega))
      | (go_at_call 29; with_reducible refine (ref_Cmp_any neg n3 A B2 c d2 xs ys2 HOK.out HO2.out _ ?_ hR2).mono ?_; exact HX.out.below (‹Below W.heap.size W _ ∧ _›).1; rintro e wx ⟨rfl, hbx⟩; rw [HV2.out]; have z2 := Z2.out; generalize cmpz (ival neg xs) 9223372036854775807 = k2 at z2 ⊢; have zb2 : decide (0 < k2) = true := by (simp; omega)))
  obtain ⟨q, _⟩ := ‹Below W.heap.size W _ ∧ _›
  go_wp2
  go_ret2
  exact ⟨rfl, b0.trans (q.mono b0.size)⟩

end Go.Proofs.Ytpcdiijmhllejaa
