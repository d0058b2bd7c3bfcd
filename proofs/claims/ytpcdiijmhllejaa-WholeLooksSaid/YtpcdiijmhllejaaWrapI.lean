/- Sign, Bits of package whole and of the references: 0 of what may not be. (Written by wip/exact/genwrap.py.) -/
import Derived.Test.YtpcdiijmhllejaaRefBits
namespace Go.Proofs.Ytpcdiijmhllejaa
open Go.RowKit

set_option maxRecDepth 100000 in
set_option maxHeartbeats 400000 in
theorem whole_Check_any (neg : Bool) (A : Option Addr) (c : Nat) (xs : List Nat) (w : World) (h : Raw w A c xs) :
    Calls Try.prog 9 #[.agg #[.bool neg, .slice A xs.length c]] w fun e w' => e = .returned (.int .i64 (errI neg xs)) ∧ Below w.heap.size w w' := by
  have h0 := h.alloc (.cells #[.bool neg, .slice A xs.length c] 24)
  go_enter Try.func9, Try.ntmps9
  go_wp2_with fail
  refine (exact_Check_any neg A c xs _ h0).mono ?_
  rintro e w1 ⟨rfl, hb⟩
  have hb1 := (Below.alloc (Below.refl w.heap.size w) (Nat.le_refl _) _).trans (hb.mono (by simp))
  go_wp2
  go_ret
  exact ⟨rfl, hb1⟩

set_option maxRecDepth 100000 in
set_option maxHeartbeats 400000 in
theorem whole_Sign_any (neg : Bool) (A : Option Addr) (c : Nat) (xs : List Nat) (w : World) (h : Raw w A c xs) :
    Calls Try.prog 10 #[.agg #[.bool neg, .slice A xs.length c]] w fun e w' => e = .returned (.int .i64 (if okI neg xs then sgnI neg xs else 0)) ∧ Below w.heap.size w w' := by
  have h0 := h.alloc (.cells #[.bool neg, .slice A xs.length c] 24)
  have hp := Pair.new w 24 (.bool neg) (.slice A xs.length c)
  have HK := Lib.hid h0
  clear h0
  by_cases hok : okI neg xs = true
  · have hl := (okI_true.1 hok).1
    have e0 : errI neg xs = 0 := by simp [errI, hok]
    rw [if_pos hok]
    go_enter Try.func10, Try.ntmps10
    go_wp2_with fail
    refine (exact_Check_any neg A c xs _ HK.out).mono ?_
    rintro e w1 ⟨rfl, hb⟩
    rw [e0]
    have hp1 := hp.below hb
    have hb1 := (Below.alloc (Below.refl w.heap.size w) (Nat.le_refl _) _).trans (hb.mono (by simp))
    have h1 := HK.out.below hb
    obtain ⟨hlt, c0, c1, -, -⟩ := hp1.facts
    clear hb hp e0
    go_wp2_with fail
    refine (exact_Sign_any neg A c xs _ h1).mono ?_
    rintro e w2 ⟨rfl, hb2⟩
    go_wp2
    go_ret
    exact ⟨rfl, belowTo hb1 hb2⟩
  · have e0 : errI neg xs = 1 := by simp [errI, hok]
    rw [if_neg hok]
    go_enter Try.func10, Try.ntmps10
    go_wp2_with fail
    refine (exact_Check_any neg A c xs _ HK.out).mono ?_
    rintro e w1 ⟨rfl, hb⟩
    rw [e0]
    have hb1 := (Below.alloc (Below.refl w.heap.size w) (Nat.le_refl _) _).trans (hb.mono (by simp))
    go_wp2
    go_ret
    exact ⟨rfl, hb1⟩

set_option maxRecDepth 100000 in
set_option maxHeartbeats 400000 in
theorem whole_Bits_any (neg : Bool) (A : Option Addr) (c : Nat) (xs : List Nat) (w : World) (h : Raw w A c xs) :
    Calls Try.prog 12 #[.agg #[.bool neg, .slice A xs.length c]] w fun e w' => e = .returned (.int .i64 (if okI neg xs then (bitsI xs : Int) else 0)) ∧ Below w.heap.size w w' := by
  have h0 := h.alloc (.cells #[.bool neg, .slice A xs.length c] 24)
  have hp := Pair.new w 24 (.bool neg) (.slice A xs.length c)
  have HK := Lib.hid h0
  clear h0
  by_cases hok : okI neg xs = true
  · have hl := (okI_true.1 hok).1
    have e0 : errI neg xs = 0 := by simp [errI, hok]
    rw [if_pos hok]
    go_enter Try.func12, Try.ntmps12
    go_wp2_with fail
    refine (exact_Check_any neg A c xs _ HK.out).mono ?_
    rintro e w1 ⟨rfl, hb⟩
    rw [e0]
    have hp1 := hp.below hb
    have hb1 := (Below.alloc (Below.refl w.heap.size w) (Nat.le_refl _) _).trans (hb.mono (by simp))
    have h1 := HK.out.below hb
    obtain ⟨hlt, c0, c1, -, -⟩ := hp1.facts
    clear hb hp e0
    go_wp2_with fail
    refine (exact_Bits_any neg A c xs _ h1 (by omega)).mono ?_
    rintro e w2 ⟨rfl, hb2⟩
    go_wp2
    go_ret
    exact ⟨rfl, belowTo hb1 hb2⟩
  · have e0 : errI neg xs = 1 := by simp [errI, hok]
    rw [if_neg hok]
    go_enter Try.func12, Try.ntmps12
    go_wp2_with fail
    refine (exact_Check_any neg A c xs _ HK.out).mono ?_
    rintro e w1 ⟨rfl, hb⟩
    rw [e0]
    have hb1 := (Below.alloc (Below.refl w.heap.size w) (Nat.le_refl _) _).trans (hb.mono (by simp))
    go_wp2
    go_ret
    exact ⟨rfl, hb1⟩

set_option maxRecDepth 100000 in
set_option maxHeartbeats 400000 in
theorem ref_SignOf_any (neg : Bool) (A : Option Addr) (c : Nat) (xs : List Nat) (w : World) (h : Raw w A c xs) :
    Calls Try.prog 19 #[.agg #[.bool neg, .slice A xs.length c]] w fun e w' => e = .returned (.int .i64 (if okI neg xs then sgnI neg xs else 0)) ∧ Below w.heap.size w w' := by
  have h0 := h.alloc (.cells #[.bool neg, .slice A xs.length c] 24)
  have hp := Pair.new w 24 (.bool neg) (.slice A xs.length c)
  have HK := Lib.hid h0
  clear h0
  by_cases hok : okI neg xs = true
  · have hl := (okI_true.1 hok).1
    have e0 : errI neg xs = 0 := by simp [errI, hok]
    rw [if_pos hok]
    go_enter Try.func19, Try.ntmps19
    go_wp2_with fail
    refine (ref_Check_any neg A c xs _ HK.out).mono ?_
    rintro e w1 ⟨rfl, hb⟩
    rw [e0]
    have hp1 := hp.below hb
    have hb1 := (Below.alloc (Below.refl w.heap.size w) (Nat.le_refl _) _).trans (hb.mono (by simp))
    have h1 := HK.out.below hb
    obtain ⟨hlt, c0, c1, -, -⟩ := hp1.facts
    clear hb hp e0
    go_wp2_with fail
    refine (ref_Sign_any neg A c xs _ h1).mono ?_
    rintro e w2 ⟨rfl, hb2⟩
    go_wp2
    go_ret
    exact ⟨rfl, belowTo hb1 hb2⟩
  · have e0 : errI neg xs = 1 := by simp [errI, hok]
    rw [if_neg hok]
    go_enter Try.func19, Try.ntmps19
    go_wp2_with fail
    refine (ref_Check_any neg A c xs _ HK.out).mono ?_
    rintro e w1 ⟨rfl, hb⟩
    rw [e0]
    have hb1 := (Below.alloc (Below.refl w.heap.size w) (Nat.le_refl _) _).trans (hb.mono (by simp))
    go_wp2
    go_ret
    exact ⟨rfl, hb1⟩

set_option maxRecDepth 100000 in
set_option maxHeartbeats 400000 in
theorem ref_BitsOf_any (neg : Bool) (A : Option Addr) (c : Nat) (xs : List Nat) (w : World) (h : Raw w A c xs) :
    Calls Try.prog 20 #[.agg #[.bool neg, .slice A xs.length c]] w fun e w' => e = .returned (.int .i64 (if okI neg xs then (bitsI xs : Int) else 0)) ∧ Below w.heap.size w w' := by
  have h0 := h.alloc (.cells #[.bool neg, .slice A xs.length c] 24)
  have hp := Pair.new w 24 (.bool neg) (.slice A xs.length c)
  have HK := Lib.hid h0
  clear h0
  by_cases hok : okI neg xs = true
  · have hl := (okI_true.1 hok).1
    have e0 : errI neg xs = 0 := by simp [errI, hok]
    rw [if_pos hok]
    go_enter Try.func20, Try.ntmps20
    go_wp2_with fail
    refine (ref_Check_any neg A c xs _ HK.out).mono ?_
    rintro e w1 ⟨rfl, hb⟩
    rw [e0]
    have hp1 := hp.below hb
    have hb1 := (Below.alloc (Below.refl w.heap.size w) (Nat.le_refl _) _).trans (hb.mono (by simp))
    have h1 := HK.out.below hb
    obtain ⟨hlt, c0, c1, -, -⟩ := hp1.facts
    clear hb hp e0
    go_wp2_with fail
    refine (ref_Bits_any neg A c xs _ h1 (by omega)).mono ?_
    rintro e w2 ⟨rfl, hb2⟩
    go_wp2
    go_ret
    exact ⟨rfl, belowTo hb1 hb2⟩
  · have e0 : errI neg xs = 1 := by simp [errI, hok]
    rw [if_neg hok]
    go_enter Try.func20, Try.ntmps20
    go_wp2_with fail
    refine (ref_Check_any neg A c xs _ HK.out).mono ?_
    rintro e w1 ⟨rfl, hb⟩
    rw [e0]
    have hb1 := (Below.alloc (Below.refl w.heap.size w) (Nat.le_refl _) _).trans (hb.mono (by simp))
    go_wp2
    go_ret
    exact ⟨rfl, hb1⟩
end Go.Proofs.Ytpcdiijmhllejaa
