/- Several texts in one: CmpW, OfW, WrapI. -/
import Derived.Test.YtpcdiijmhllejaaDoorBk13
import Derived.Test.YtpcdiijmhllejaaDoorBk03
import Derived.Test.YtpcdiijmhllejaaDoorBk09
/- Cmp of package whole and of the references. (Written by wip/exact/genfine.py, cut off by hand.) -/
namespace Go.Proofs.YtpcdiijmhllejaaDoor
open Go.RowKit

set_option maxRecDepth 100000 in
set_option maxHeartbeats 1000000 in
theorem whole_Cmp_any (n1 n2 : Bool) (A B : Option Addr) (c d : Nat) (xs ys : List Nat) (w : World) (h : Raw w A c xs) (g : Raw w B d ys) :
    Calls Tryd.prog 13 #[.agg #[.bool n1, .slice A xs.length c], .agg #[.bool n2, .slice B ys.length d]] w fun e w' => e = .returned (.int .i64 (if okI n1 xs && okI n2 ys then cmpz (ival n1 xs) (ival n2 ys) else 0)) ∧ Below w.heap.size w w' := by
  by_cases o : (okI n1 xs && okI n2 ys) = true
  · obtain ⟨o1, o2⟩ := Bool.and_eq_true_iff.1 o
    rw [if_pos o]
    have O := Lib.hid o
    have O1 := Lib.hid o1
    have O2 := Lib.hid o2
    clear o o1 o2
    have p0 := (Pair.new w 24 (.bool n1) (.slice A xs.length c)).alloc (.cells #[.bool n2, .slice B ys.length d] 24)
    have q0 := Pair.new (w.alloc (.cells #[.bool n1, .slice A xs.length c] 24)) 24 (.bool n2) (.slice B ys.length d)
    have b0 := ((Below.refl w.heap.size w).alloc (Nat.le_refl _) (.cells #[.bool n1, .slice A xs.length c] 24)).alloc (by simp) (.cells #[.bool n2, .slice B ys.length d] 24)
    have hx := (h.alloc (.cells #[.bool n1, .slice A xs.length c] 24)).alloc (.cells #[.bool n2, .slice B ys.length d] 24)
    have hy := (g.alloc (.cells #[.bool n1, .slice A xs.length c] 24)).alloc (.cells #[.bool n2, .slice B ys.length d] 24)
    simp only [World.size_alloc] at q0
    clear h g
    go_enter Tryd.func13, Tryd.ntmps13
    go_wp2_with fail
    refine (whole_fine_any n1 n2 A B c d xs ys _ hx hy).mono ?_
    rintro e w1 ⟨rfl, q1⟩
    rw [O.out]
    have p2 := p0.below q1
    have q2 := q0.below q1
    obtain ⟨k1, c0, c1, -, -⟩ := p2.facts
    obtain ⟨k2, d0, d1, -, -⟩ := q2.facts
    have b1 := b0.trans (q1.mono b0.size)
    have hx1 := hx.below q1
    have hy1 := hy.below q1
    clear p0 q0 b0 hx hy q1
    go_wp2_with fail
    refine (exact_Cmp_any n1 n2 A B c d xs ys O1.out O2.out _ hx1 hy1).mono ?_
    rintro e w2 ⟨rfl, q1⟩
    clear c0 c1 d0 d1
    go_wp2
    go_ret
    exact ⟨rfl, belowTo b1 q1⟩
  · have o' : (okI n1 xs && okI n2 ys) = false := by simpa using o
    rw [if_neg o]
    have O := Lib.hid o'
    clear o o'
    have p0 := (Pair.new w 24 (.bool n1) (.slice A xs.length c)).alloc (.cells #[.bool n2, .slice B ys.length d] 24)
    have q0 := Pair.new (w.alloc (.cells #[.bool n1, .slice A xs.length c] 24)) 24 (.bool n2) (.slice B ys.length d)
    have b0 := ((Below.refl w.heap.size w).alloc (Nat.le_refl _) (.cells #[.bool n1, .slice A xs.length c] 24)).alloc (by simp) (.cells #[.bool n2, .slice B ys.length d] 24)
    have hx := (h.alloc (.cells #[.bool n1, .slice A xs.length c] 24)).alloc (.cells #[.bool n2, .slice B ys.length d] 24)
    have hy := (g.alloc (.cells #[.bool n1, .slice A xs.length c] 24)).alloc (.cells #[.bool n2, .slice B ys.length d] 24)
    simp only [World.size_alloc] at q0
    clear h g
    go_enter Tryd.func13, Tryd.ntmps13
    go_wp2_with fail
    refine (whole_fine_any n1 n2 A B c d xs ys _ hx hy).mono ?_
    rintro e w1 ⟨rfl, q1⟩
    rw [O.out]
    have b1 := b0.trans (q1.mono b0.size)
    clear p0 q0 b0 hx hy q1
    go_wp2
    go_ret
    exact ⟨rfl, b1⟩

end Go.Proofs.YtpcdiijmhllejaaDoor

/- Of of package whole. -/
namespace Go.Proofs.YtpcdiijmhllejaaDoor
open Go.RowKit

set_option maxRecDepth 100000 in
set_option maxHeartbeats 400000 in
theorem whole_Of (n : Int) (h1 : -9223372036854775808 ≤ n) (h2 : n ≤ 9223372036854775807) (w : World) :
    Calls Tryd.prog 14 #[.int .i64 n] w (RetInt w.heap.size w n) := by
  have HC := Lib.hid (fun W => exact_Of n h1 h2 W)
  go_enter Tryd.func14, Tryd.ntmps14
  go_wp2_with fail
  refine (HC.out _).mono ?_
  rintro e w1 ⟨v, rfl, hI, hb⟩
  obtain ⟨A, c, hv, _⟩ := hI.form
  have hI2 := hI
  rw [hv] at hI2 ⊢
  have hp := (Pair.new w 24 (.bool false) (.slice none 0 0)).below hb
  have hb1 := (Below.alloc (Below.refl w.heap.size w) (Nat.le_refl _) _).trans (hb.mono (by simp))
  obtain ⟨hl, c0, c1, f0, f1⟩ := hp.facts
  clear hb HC hv hI
  go_wp2_with fail
  have hq := hp.store (.bool (decide (n < 0))) (.slice A (natL n.natAbs).length c)
  obtain ⟨_, k0, k1, _, _⟩ := hq.facts
  exact bodyPost_ret (by simp [results, Tryd.results14, go_sem, k0, k1]) rfl ⟨_, rfl, ((hI2.base (b' := w.heap.size + 1) (by simp)).pair (Nat.lt_succ_self _)).base (Nat.le_succ _), below2 hb1 (Nat.le_refl _) _ _⟩
end Go.Proofs.YtpcdiijmhllejaaDoor

/- Sign, Bits of package whole and of the references: 0 of what may not be. (Written by wip/exact/genwrap.py.) -/
namespace Go.Proofs.YtpcdiijmhllejaaDoor
open Go.RowKit

set_option maxRecDepth 100000 in
set_option maxHeartbeats 400000 in
theorem whole_Sign_any (neg : Bool) (A : Option Addr) (c : Nat) (xs : List Nat) (w : World) (h : Raw w A c xs) :
    Calls Tryd.prog 16 #[.agg #[.bool neg, .slice A xs.length c]] w fun e w' => e = .returned (.int .i64 (if okI neg xs then sgnI neg xs else 0)) ∧ Below w.heap.size w w' := by
  have h0 := h.alloc (.cells #[.bool neg, .slice A xs.length c] 24)
  have hp := Pair.new w 24 (.bool neg) (.slice A xs.length c)
  have HK := Lib.hid h0
  clear h0
  by_cases hok : okI neg xs = true
  · have hl := (okI_true.1 hok).1
    have e0 : errI neg xs = 0 := by simp [errI, hok]
    rw [if_pos hok]
    go_enter Tryd.func16, Tryd.ntmps16
    go_wp2_with fail
    refine (exact_Check_any neg A c xs _ HK.out).mono ?_
    rintro e w1 ⟨rfl, hb⟩
    rw [e0]
    have hp1 := hp.below hb
    have hb1 := (Below.alloc (Below.refl w.heap.size w) (Nat.le_refl _) _).trans (hb.mono (by simp))
    have h1 := HK.out.below hb
    obtain ⟨hlt, c0, c1, -, -⟩ := hp1.facts
    clear hb hp e0
    go_wp2_with fail
    refine (exact_Sign_any neg A c xs _ h1).mono ?_
    rintro e w2 ⟨rfl, hb2⟩
    go_wp2
    go_ret
    exact ⟨rfl, belowTo hb1 hb2⟩
  · have e0 : errI neg xs = 1 := by simp [errI, hok]
    rw [if_neg hok]
    go_enter Tryd.func16, Tryd.ntmps16
    go_wp2_with fail
    refine (exact_Check_any neg A c xs _ HK.out).mono ?_
    rintro e w1 ⟨rfl, hb⟩
    rw [e0]
    have hb1 := (Below.alloc (Below.refl w.heap.size w) (Nat.le_refl _) _).trans (hb.mono (by simp))
    go_wp2
    go_ret
    exact ⟨rfl, hb1⟩

set_option maxRecDepth 100000 in
set_option maxHeartbeats 400000 in
theorem whole_Bits_any (neg : Bool) (A : Option Addr) (c : Nat) (xs : List Nat) (w : World) (h : Raw w A c xs) :
    Calls Tryd.prog 21 #[.agg #[.bool neg, .slice A xs.length c]] w fun e w' => e = .returned (.int .i64 (if okI neg xs then (bitsI xs : Int) else 0)) ∧ Below w.heap.size w w' := by
  have h0 := h.alloc (.cells #[.bool neg, .slice A xs.length c] 24)
  have hp := Pair.new w 24 (.bool neg) (.slice A xs.length c)
  have HK := Lib.hid h0
  clear h0
  by_cases hok : okI neg xs = true
  · have hl := (okI_true.1 hok).1
    have e0 : errI neg xs = 0 := by simp [errI, hok]
    rw [if_pos hok]
    go_enter Tryd.func21, Tryd.ntmps21
    go_wp2_with fail
    refine (exact_Check_any neg A c xs _ HK.out).mono ?_
    rintro e w1 ⟨rfl, hb⟩
    rw [e0]
    have hp1 := hp.below hb
    have hb1 := (Below.alloc (Below.refl w.heap.size w) (Nat.le_refl _) _).trans (hb.mono (by simp))
    have h1 := HK.out.below hb
    obtain ⟨hlt, c0, c1, -, -⟩ := hp1.facts
    clear hb hp e0
    go_wp2_with fail
    refine (exact_Bits_any neg A c xs _ h1 (by omega)).mono ?_
    rintro e w2 ⟨rfl, hb2⟩
    go_wp2
    go_ret
    exact ⟨rfl, belowTo hb1 hb2⟩
  · have e0 : errI neg xs = 1 := by simp [errI, hok]
    rw [if_neg hok]
    go_enter Tryd.func21, Tryd.ntmps21
    go_wp2_with fail
    refine (exact_Check_any neg A c xs _ HK.out).mono ?_
    rintro e w1 ⟨rfl, hb⟩
    rw [e0]
    have hb1 := (Below.alloc (Below.refl w.heap.size w) (Nat.le_refl _) _).trans (hb.mono (by simp))
    go_wp2
    go_ret
    exact ⟨rfl, hb1⟩

end Go.Proofs.YtpcdiijmhllejaaDoor
