/- MatNames: the walk. (Written by wip/mat/gennames.py.) -/
import Derived.Test.YtalalbhhlbeghaaAt
import Derived.Test.YtalalbhhlbeghaaWrapPow
import Derived.Test.YtalalbhhlbeghaaSmall
import Derived.Test.YtalalbhhlbeghaaWaves
import Derived.Deep.RegionHeld3
namespace Go.Proofs.Ytalalbhhlbeghaa
open Go.RowKit

theorem nm_trace (V : World) : Calls Try.prog 12 #[.agg #[.int .i64 1, .int .i64 2, .int .i64 3, .int .i64 4]] V fun e w' => e = .returned (.int .i64 5) ∧ Below V.heap.size V w' := by
  have h := wrp_Trace4 ⟨1, 2, 3, 4⟩ V
  rw [show M4.gtrace wrapR ⟨1, 2, 3, 4⟩ = 5 by kernel_rfl] at h
  exact h
theorem nm_turned (V : World) : Calls Try.prog 13 #[.agg #[.int .i64 1, .int .i64 2, .int .i64 3, .int .i64 4]] V fun e w' => e = .returned (.agg #[.int .i64 4, .int .i64 (-2), .int .i64 (-3), .int .i64 1]) ∧ Below V.heap.size V w' := by
  have h := wrp_Turned4 ⟨1, 2, 3, 4⟩ V
  rw [show M4.gturned wrapR ⟨1, 2, 3, 4⟩ = ⟨4, -2, -3, 1⟩ by kernel_rfl] at h
  exact h
theorem pow10 : M4.gpow wrapR 65 ⟨1, 0, 0, 1⟩ ⟨1, 1, 1, 0⟩ 10 = ⟨89, 55, 55, 34⟩ := by kernel_rfl
theorem nm_pow10 (V : World) : Calls Try.prog 16 #[.agg #[.int .i64 1, .int .i64 0, .int .i64 0, .int .i64 1], .agg #[.int .i64 1, .int .i64 1, .int .i64 1, .int .i64 0], .int .u64 10] V fun e w' => e = .returned (.agg #[.int .i64 89, .int .i64 55, .int .i64 55, .int .i64 34]) ∧ Below V.heap.size V w' := by
  have h := wrp_Power4 ⟨1, 0, 0, 1⟩ ⟨1, 1, 1, 0⟩ 10 (by omega) V
  rw [pow10] at h
  exact h
theorem nm_pow0 (V : World) : Calls Try.prog 16 #[.agg #[.int .i64 1, .int .i64 0, .int .i64 0, .int .i64 1], .agg #[.int .i64 1, .int .i64 1, .int .i64 1, .int .i64 0], .int .u64 0] V fun e w' => e = .returned (.agg #[.int .i64 1, .int .i64 0, .int .i64 0, .int .i64 1]) ∧ Below V.heap.size V w' := by
  have h := wrp_Power4 ⟨1, 0, 0, 1⟩ ⟨1, 1, 1, 0⟩ 0 (by omega) V
  rw [M4.gpow_stop] at h
  exact h
theorem nm_chain0 (V : World) : Calls Try.prog 19 #[.agg #[.int .i64 1, .int .i64 0, .int .i64 0, .int .i64 1], .slice none 0 0] V fun e w' => e = .returned (.agg #[.int .i64 1, .int .i64 0, .int .i64 0, .int .i64 1]) ∧ Below V.heap.size V w' :=
  wrp_Chain4 ⟨1, 0, 0, 1⟩ none 0 [] (by simp) V Reads.none_
theorem chain2 : M4.gchain wrapR ⟨1, 0, 0, 1⟩ [⟨1, 1, 0, 1⟩, ⟨1, 0, 1, 1⟩] = ⟨1, 1, 1, 2⟩ := by kernel_rfl
theorem Reads.new8 (w : World) (t : TypeId) (cs : List Value) (h : cs.length = 2 * 4) : Reads (w.alloc (.cells cs.toArray t)) (w.heap.size + 1) 4 (some ⟨w.heap.size, 0, none⟩) 2 cs :=
  ⟨h, fun _ => ⟨_, rfl, Nat.lt_succ_self _, World.news_of_block (heap_alloc_new w _)⟩⟩
theorem nm_chain2 (t : TypeId) (V : World) : Calls Try.prog 19 #[.agg #[.int .i64 1, .int .i64 0, .int .i64 0, .int .i64 1], .slice (some ⟨V.heap.size, 0, none⟩) 2 2] (V.alloc (.cells #[.int .i64 1, .int .i64 1, .int .i64 0, .int .i64 1, .int .i64 1, .int .i64 0, .int .i64 1, .int .i64 1] t)) fun e w' => e = .returned (.agg #[.int .i64 1, .int .i64 1, .int .i64 1, .int .i64 2]) ∧ Below (V.alloc (.cells #[.int .i64 1, .int .i64 1, .int .i64 0, .int .i64 1, .int .i64 1, .int .i64 0, .int .i64 1, .int .i64 1] t)).heap.size (V.alloc (.cells #[.int .i64 1, .int .i64 1, .int .i64 0, .int .i64 1, .int .i64 1, .int .i64 0, .int .i64 1, .int .i64 1] t)) w' := by
  have hr := Reads.new8 V t [.int .i64 1, .int .i64 1, .int .i64 0, .int .i64 1, .int .i64 1, .int .i64 0, .int .i64 1, .int .i64 1] rfl
  have h := wrp_Chain4 ⟨1, 0, 0, 1⟩ (some ⟨V.heap.size, 0, none⟩) 2 [⟨1, 1, 0, 1⟩, ⟨1, 0, 1, 1⟩] (by simp) _ (by rw [World.size_alloc]; exact hr)
  rw [chain2] at h
  exact h
theorem nm_add (V : World) : Calls Try.prog 20 #[.int .i64 9223372036854775807, .int .i64 1] V fun e w' => e = .returned (.int .i64 (-9223372036854775808)) ∧ V = w' := by
  have h := wrp_Add 9223372036854775807 1 V
  rw [show wrapR.add 9223372036854775807 1 = -9223372036854775808 by kernel_rfl] at h
  exact h
theorem nm_mul (V : World) : Calls Try.prog 21 #[.int .i8 100, .int .i8 3] V fun e w' => e = .returned (.int .i8 44) ∧ V = w' := by
  have h := small_Mul 100 3 V
  rw [show smallR.mul 100 3 = 44 by kernel_rfl] at h
  exact h
theorem nm_neg (V : World) : Calls Try.prog 22 #[.int .i8 (-128)] V fun e w' => e = .returned (.int .i8 (-128)) ∧ V = w' := by
  have h := small_Neg (-128) V
  rw [show smallR.neg (-128) = -128 by kernel_rfl] at h
  exact h

set_option maxRecDepth 100000 in
set_option maxHeartbeats 1000000 in
theorem names_true (w : World) :
    Calls Try.prog 5 #[] w fun e w' => e = .returned (.bool true) ∧ Below w.heap.size w w' := by
  go_enter Try.func5, Try.ntmps5
  go_wp2_with fail
  refine (wrap_Wrap0 1 0 0 1 _).mono ?_; rintro e w1 ⟨rfl, hb1⟩
  go_wp2_with fail
  refine (wrap_Wrap0 1 2 3 4 _).mono ?_; rintro e w2 ⟨rfl, hb2⟩
  go_wp2_with fail
  refine (wrap_Wrap0 1 1 1 0 _).mono ?_; rintro e w3 ⟨rfl, hb3⟩
  go_wp2_with fail
  have n1 := ((Blk.new w1 26 #[.int .i64 1, .int .i64 0, .int .i64 0, .int .i64 1]).below hb2 (by simp))
  have n2 := ((n1.alloc (.cells #[.int .i64 1, .int .i64 2, .int .i64 3, .int .i64 4] 26)).below hb3 (Blk.lt (n1.alloc (.cells #[.int .i64 1, .int .i64 2, .int .i64 3, .int .i64 4] 26)))).alloc (.cells #[.int .i64 1, .int .i64 1, .int .i64 1, .int .i64 0] 26)
  have m2 := ((Blk.new w2 26 #[.int .i64 1, .int .i64 2, .int .i64 3, .int .i64 4]).below hb3 (by simp)).alloc (.cells #[.int .i64 1, .int .i64 1, .int .i64 1, .int .i64 0] 26)
  have f2 := Blk.new w3 26 #[.int .i64 1, .int .i64 1, .int .i64 1, .int .i64 0]
  have B := (bstep (bstep hb1 hb2) hb3).alloc (bstep (bstep hb1 hb2) hb3).size (.cells #[.int .i64 1, .int .i64 1, .int .i64 1, .int .i64 0] 26)
  obtain ⟨W, E⟩ : ∃ W, W = w3.alloc (.cells #[.int .i64 1, .int .i64 1, .int .i64 1, .int .i64 0] 26) := ⟨_, rfl⟩
  rw [← E] at n2 m2 f2 B ⊢
  clear E n1 hb1 hb2 hb3
  have nc0 := n2.cell 0
  have nc1 := n2.cell 1
  have nc2 := n2.cell 2
  have nc3 := n2.cell 3
  have mc0 := m2.cell 0
  have mc1 := m2.cell 1
  have mc2 := m2.cell 2
  have mc3 := m2.cell 3
  have fc0 := f2.cell 0
  have fc1 := f2.cell 1
  have fc2 := f2.cell 2
  have fc3 := f2.cell 3
  have ln := n2.lt
  have lm := m2.lt
  have lf := f2.lt
  simp at nc0 nc1 nc2 nc3 mc0 mc1 mc2 mc3 fc0 fc1 fc2 fc3
  clear n2 m2 f2
  go_region_held3 (fun w' => Below W.heap.size W w' ∧ ∀ b o, b < W.heap.size → w'.cell? ⟨b, o, none⟩ = W.cell? ⟨b, o, none⟩)
    (first
      | exact ⟨(Below.refl _ _).drew, fun _ _ _ => rfl⟩
      | (obtain ⟨q, _⟩ := ‹Below W.heap.size W _ ∧ _›; have q' := belowTo q hbx; exact ⟨q', fun b o h => q'.cell (p := ⟨b, o, none⟩) h⟩)
      | (obtain ⟨q, _⟩ := ‹Below W.heap.size W _ ∧ _›; exact ⟨q, fun b o h => q.cell (p := ⟨b, o, none⟩) h⟩)
      | (obtain ⟨q, _⟩ := ‹Below W.heap.size W _ ∧ _›; refine have q' := q.alloc q.size _; ⟨q', fun b o h => q'.cell (p := ⟨b, o, none⟩) h⟩))
    (first
      | (go_at_call 12; with_reducible refine (nm_trace _).mono ?_; rintro e wx ⟨rfl, hbx⟩)
      | (go_at_call 13; with_reducible refine (nm_turned _).mono ?_; rintro e wx ⟨rfl, hbx⟩)
      | (go_at_call 9; with_reducible refine (wrap_Wrap0 _ _ _ _ _).mono ?_; rintro e wx ⟨rfl, hbx⟩)
      | (go_at_call 16; with_reducible refine (nm_pow10 _).mono ?_; rintro e wx ⟨rfl, hbx⟩)
      | (go_at_call 16; with_reducible refine (nm_pow0 _).mono ?_; rintro e wx ⟨rfl, hbx⟩)
      | (go_at_call 19; with_reducible refine (nm_chain0 _).mono ?_; rintro e wx ⟨rfl, hbx⟩))
  obtain ⟨q, qc⟩ := ‹Below W.heap.size W _ ∧ _›
  go_wp2_with fail
  go_region_held3 (fun w' => Below W.heap.size W w' ∧ ∀ b o, b < W.heap.size → w'.cell? ⟨b, o, none⟩ = W.cell? ⟨b, o, none⟩)
    (first
      | exact ⟨q.drew, qc⟩
      | (obtain ⟨q, _⟩ := ‹Below W.heap.size W _ ∧ _›; have q' := belowTo q hbx; exact ⟨q', fun b o h => q'.cell (p := ⟨b, o, none⟩) h⟩)
      | (obtain ⟨q, _⟩ := ‹Below W.heap.size W _ ∧ _›; exact ⟨q, fun b o h => q.cell (p := ⟨b, o, none⟩) h⟩)
      | (obtain ⟨q, _⟩ := ‹Below W.heap.size W _ ∧ _›; refine have q' := q.alloc q.size _; ⟨q', fun b o h => q'.cell (p := ⟨b, o, none⟩) h⟩))
    (first
      | (go_at_call 9; with_reducible refine (wrap_Wrap0 _ _ _ _ _).mono ?_; rintro e wx ⟨rfl, hbx⟩)
      | (go_at_call 19; with_reducible refine (nm_chain2 _ _).mono ?_; rintro e wx ⟨rfl, hbx⟩)
      | (go_at_call 20; with_reducible refine (nm_add _).mono ?_; rintro e wx ⟨rfl, rfl⟩)
      | (go_at_call 21; with_reducible refine (nm_mul _).mono ?_; rintro e wx ⟨rfl, rfl⟩)
      | (go_at_call 22; with_reducible refine (nm_neg _).mono ?_; rintro e wx ⟨rfl, rfl⟩))
  obtain ⟨r, _⟩ := ‹Below W.heap.size W _ ∧ _›
  have B2 := B.trans (r.mono B.size)
  clear nc0 nc1 nc2 nc3 mc0 mc1 mc2 mc3 fc0 fc1 fc2 fc3 ln lm lf qc q B
  go_wp2_with (first
    | (go_at_call 14; refine (lives_true _).mono ?_; rintro e wl ⟨rfl, hbl⟩)
    | (go_at_call 24; with_reducible refine (wave_mul _).mono ?_; rintro e wx ⟨rfl, rfl⟩)
    | (go_at_call 23; with_reducible refine (wave_same _).mono ?_; rintro e wx ⟨rfl, rfl⟩)
    | (go_at_call 26; with_reducible refine (wave_neg _).mono ?_; rintro e wx ⟨rfl, rfl⟩)
    | (go_at_call 25; with_reducible refine (wave_like _).mono ?_; rintro e wx ⟨rfl, rfl⟩)
    | (go_at_call 25; with_reducible refine (wave_unlike _).mono ?_; rintro e wx ⟨rfl, rfl⟩))
  go_ret
  exact ⟨rfl, B2.trans (hbl.mono B2.size)⟩
end Go.Proofs.Ytalalbhhlbeghaa
