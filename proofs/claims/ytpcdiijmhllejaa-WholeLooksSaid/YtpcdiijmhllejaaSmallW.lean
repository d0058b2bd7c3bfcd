/- WholeSmall: the walk. -/
import Derived.Test.YtpcdiijmhllejaaInt64
namespace Go.Proofs.Ytpcdiijmhllejaa
open Go.RowKit

theorem natL64_length (m : Nat) (h : m < 18446744073709551616) : (natL m).length ≤ 2 := natL_length_le.2 (by omega)
theorem ok64 (n : Int) (h1 : -9223372036854775808 ≤ n) (h2 : n ≤ 9223372036854775807) : okI (decide (n < 0)) (natL n.natAbs) = true := by
  refine okI_true.2 ⟨?_, canon_natL _, fun h => ?_⟩
  · have := natL64_length n.natAbs (by omega); omega
  · have := natL_eq_nil.1 h
    simp; omega
theorem back64 (n : Int) (h1 : -9223372036854775808 ≤ n) (h2 : n ≤ 9223372036854775807) : i64V (decide (n < 0)) (val (natL n.natAbs)) = n ∧ i64B (decide (n < 0)) (val (natL n.natAbs)) = true := by
  rw [val_natL]
  by_cases h : n < 0
  · simp only [h, decide_true, i64V, i64B, if_true]
    rw [if_pos (by omega)]
    simp; omega
  · simp only [h, decide_false, i64V, i64B, Bool.false_eq_true, if_false]
    rw [if_pos (by omega)]
    simp; omega

set_option maxRecDepth 100000 in
set_option maxHeartbeats 1000000 in
theorem small_true (n : Int) (h1 : -9223372036854775808 ≤ n) (h2 : n ≤ 9223372036854775807) (w : World) :
    Calls Try.prog 3 #[.int .i64 n] w fun e w' => e = .returned (.bool true) ∧ Below w.heap.size w w' := by
  have C1 := whole_Of n h1 h2
  have C2 := ref_Of n h1 h2
  have hok := ok64 n h1 h2
  have hbk := back64 n h1 h2
  have H1 := Lib.hid C1
  have H2 := Lib.hid C2
  clear C1 C2
  have hlen : (natL n.natAbs).length ≤ 2 := natL64_length n.natAbs (by omega)
  generalize hneg : decide (n < 0) = neg at hok hbk
  generalize hxs : natL n.natAbs = xs at hok hbk hlen
  have HOK := Lib.hid hok
  have HBK := Lib.hid hbk
  have HN := Lib.hid hneg
  have HX := Lib.hid hxs
  clear hok hbk hneg hxs
  go_enter Try.func3, Try.ntmps3
  go_wp2_with fail
  refine (H1.out _).mono ?_
  rintro e w1 ⟨v, rfl, hI, hb⟩
  obtain ⟨A, c, hv, hR⟩ := hI.raw
  rw [HN.out, HX.out] at hv
  rw [HX.out] at hR
  rw [hv]
  have hb1 := hb
  clear hI hb hv
  go_wp2_with fail
  refine (H2.out _).mono ?_
  rintro e w2 ⟨v, rfl, hI, hb⟩
  obtain ⟨B, d, hv, hS⟩ := hI.raw
  rw [HN.out, HX.out] at hv
  rw [HX.out] at hS
  rw [hv]
  have hP := (Pair.new w1 24 (.bool neg) (.slice A xs.length c)).below hb
  have hR2 := (hR.alloc (.cells #[.bool neg, .slice A xs.length c] 24)).below hb
  have hb2 := (Below.alloc hb1 hb1.size (.cells #[.bool neg, .slice A xs.length c] 24)).trans (hb.mono (by have := hb1.size; simp; omega))
  clear hI hb hv hR hb1 H1 H2
  have hP2 := hP.alloc (.cells #[.bool neg, .slice B xs.length d] 24)
  have hQ2 := Pair.new w2 24 (.bool neg) (.slice B xs.length d)
  have hR3 := hR2.alloc (.cells #[.bool neg, .slice B xs.length d] 24)
  have hS3 := hS.alloc (.cells #[.bool neg, .slice B xs.length d] 24)
  have hb3 := Below.alloc hb2 hb2.size (.cells #[.bool neg, .slice B xs.length d] 24)
  obtain ⟨hl, c0, c1, f0, f1⟩ := hP.facts
  clear hP hR2 hS hb2
  go_wp2_with fail
  have C3 := whole_Int64_any neg A c xs _ hR3
  rw [HOK.out, if_pos rfl, Bool.true_and, HBK.out.1, HBK.out.2] at C3
  have H3 := Lib.hid C3
  clear C3
  refine H3.out.mono ?_
  rintro e w3 ⟨rfl, hb⟩
  have hP := hP2.below hb
  have hQ := hQ2.below hb
  have hR := hR3.below hb
  have hS := hS3.below hb
  have hb4 := belowTo hb3 hb
  clear hb hP2 hQ2 hR3 hS3 hb3 H3 hl c0 c1 f0 f1
  go_wp2_with fail
  obtain ⟨l1, x0, x1, -, -⟩ := hP.facts
  obtain ⟨l2, y0, y1, -, -⟩ := hQ.facts
  clear hP hQ
  have D1 := fun (W : World) (hW : Below w3.heap.size w3 W) => same_any neg neg A B c d xs xs W (hR.below hW) (hS.below hW)
  rw [show decide (neg = neg ∧ xs = xs) = true by simp] at D1
  have D2 := fun (W : World) (hW : Below w3.heap.size w3 W) => whole_Check_any neg A c xs W (hR.below hW)
  rw [show errI neg xs = 0 by simp [errI, HOK.out]] at D2
  have D3 := fun (W : World) (hW : Below w3.heap.size w3 W) => whole_Sign_any neg A c xs W (hR.below hW)
  rw [HOK.out, if_pos rfl] at D3
  have D4 := fun (W : World) (hW : Below w3.heap.size w3 W) => ref_Sign_any neg B d xs W (hS.below hW)
  have D5 := fun (W : World) (hW : Below w3.heap.size w3 W) => whole_Bits_any neg A c xs W (hR.below hW)
  rw [HOK.out, if_pos rfl] at D5
  have D6 := fun (W : World) (hW : Below w3.heap.size w3 W) => ref_Bits_any neg B d xs W (hS.below hW) (by omega)
  have H1 := Lib.hid D1
  have H2 := Lib.hid D2
  have H3 := Lib.hid D3
  have H4 := Lib.hid D4
  have H5 := Lib.hid D5
  have H6 := Lib.hid D6
  clear D1 D2 D3 D4 D5 D6 hR hS
  go_region_held3 (fun w' => Below w3.heap.size w3 w' ∧ ∀ b o, b < w3.heap.size → w'.cell? ⟨b, o, none⟩ = w3.cell? ⟨b, o, none⟩)
    (first
      | exact ⟨(Below.refl _ _).drew, fun _ _ _ => rfl⟩
      | (obtain ⟨q, _⟩ := ‹Below w3.heap.size w3 _ ∧ _›; have q' := belowTo q hbx; exact ⟨q', fun b o h => q'.cell (p := ⟨b, o, none⟩) h⟩))
    (first
      | (go_at_call 8; with_reducible refine (H1.out _ ?_).mono ?_; exact (‹Below w3.heap.size w3 _ ∧ _›).1; rintro e wx ⟨rfl, hbx⟩)
      | (go_at_call 9; with_reducible refine (H2.out _ ?_).mono ?_; exact (‹Below w3.heap.size w3 _ ∧ _›).1; rintro e wx ⟨rfl, hbx⟩)
      | (go_at_call 10; with_reducible refine (H3.out _ ?_).mono ?_; exact (‹Below w3.heap.size w3 _ ∧ _›).1; rintro e wx ⟨rfl, hbx⟩)
      | (go_at_call 11; with_reducible refine (H4.out _ ?_).mono ?_; exact (‹Below w3.heap.size w3 _ ∧ _›).1; rintro e wx ⟨rfl, hbx⟩)
      | (go_at_call 12; with_reducible refine (H5.out _ ?_).mono ?_; exact (‹Below w3.heap.size w3 _ ∧ _›).1; rintro e wx ⟨rfl, hbx⟩)
      | (go_at_call 13; with_reducible refine (H6.out _ ?_).mono ?_; exact (‹Below w3.heap.size w3 _ ∧ _›).1; rintro e wx ⟨rfl, hbx⟩))
  obtain ⟨q, _⟩ := ‹Below w3.heap.size w3 _ ∧ _›
  go_wp2
  go_ret
  exact ⟨rfl, belowTo hb4 q⟩
end Go.Proofs.Ytpcdiijmhllejaa
