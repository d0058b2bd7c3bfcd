/- fine, Cmp of package whole and of the references. (Written by wip/exact/genfine.py.) -/
import Derived.Test.YtpcdiijmhllejaaGreatDoorCmp2
namespace Go.Proofs.YtpcdiijmhllejaaGreatDoor
open Go.RowKit

set_option maxRecDepth 100000 in
set_option maxHeartbeats 1000000 in
theorem whole_fine_any (n1 n2 : Bool) (A B : Option Addr) (c d : Nat) (xs ys : List Nat) (w : World) (h : Raw w A c xs) (g : Raw w B d ys) :
    Calls Tryz.prog 28 #[.agg #[.bool n1, .slice A xs.length c], .agg #[.bool n2, .slice B ys.length d]] w fun e w' => e = .returned (.bool (okI n1 xs && okI n2 ys)) ∧ Below w.heap.size w w' := by
  by_cases o1 : okI n1 xs = true
  · have e1 : errI n1 xs = 0 := by simp [errI, o1]
    by_cases o2 : okI n2 ys = true
    · have e2 : errI n2 ys = 0 := by simp [errI, o2]
      rw [o1, o2]
      have E1 := Lib.hid e1
      have E2 := Lib.hid e2
      clear o1 o2 e1 e2
      have p0 := (Pair.new w 24 (.bool n1) (.slice A xs.length c)).alloc (.cells #[.bool n2, .slice B ys.length d] 24)
      have q0 := Pair.new (w.alloc (.cells #[.bool n1, .slice A xs.length c] 24)) 24 (.bool n2) (.slice B ys.length d)
      have b0 := ((Below.refl w.heap.size w).alloc (Nat.le_refl _) (.cells #[.bool n1, .slice A xs.length c] 24)).alloc (by simp) (.cells #[.bool n2, .slice B ys.length d] 24)
      have hx := (h.alloc (.cells #[.bool n1, .slice A xs.length c] 24)).alloc (.cells #[.bool n2, .slice B ys.length d] 24)
      have hy := (g.alloc (.cells #[.bool n1, .slice A xs.length c] 24)).alloc (.cells #[.bool n2, .slice B ys.length d] 24)
      simp only [World.size_alloc] at q0
      clear h g
      go_enter Tryz.func28, Tryz.ntmps28
      go_wp2_with fail
      refine (exact_Check_any n1 A c xs _ hx).mono ?_
      rintro e w1 ⟨rfl, q1⟩
      rw [E1.out]
      have q2 := q0.below q1
      obtain ⟨k2, d0, d1, -, -⟩ := q2.facts
      have b1 := b0.trans (q1.mono b0.size)
      have hy1 := hy.below q1
      clear p0 q0 b0 hx hy q1
      go_wp2_with fail
      refine (exact_Check_any n2 B d ys _ hy1).mono ?_
      rintro e w2 ⟨rfl, q1⟩
      rw [E2.out]
      clear d0 d1
      go_wp2
      go_ret
      exact ⟨rfl, belowTo b1 q1⟩
    · have e2 : errI n2 ys = 1 := by simp [errI, o2]
      have o2' : okI n2 ys = false := by simpa using o2
      rw [o1, o2']
      have E1 := Lib.hid e1
      have E2 := Lib.hid e2
      clear o1 o2 o2' e1 e2
      have p0 := (Pair.new w 24 (.bool n1) (.slice A xs.length c)).alloc (.cells #[.bool n2, .slice B ys.length d] 24)
      have q0 := Pair.new (w.alloc (.cells #[.bool n1, .slice A xs.length c] 24)) 24 (.bool n2) (.slice B ys.length d)
      have b0 := ((Below.refl w.heap.size w).alloc (Nat.le_refl _) (.cells #[.bool n1, .slice A xs.length c] 24)).alloc (by simp) (.cells #[.bool n2, .slice B ys.length d] 24)
      have hx := (h.alloc (.cells #[.bool n1, .slice A xs.length c] 24)).alloc (.cells #[.bool n2, .slice B ys.length d] 24)
      have hy := (g.alloc (.cells #[.bool n1, .slice A xs.length c] 24)).alloc (.cells #[.bool n2, .slice B ys.length d] 24)
      simp only [World.size_alloc] at q0
      clear h g
      go_enter Tryz.func28, Tryz.ntmps28
      go_wp2_with fail
      refine (exact_Check_any n1 A c xs _ hx).mono ?_
      rintro e w1 ⟨rfl, q1⟩
      rw [E1.out]
      have q2 := q0.below q1
      obtain ⟨k2, d0, d1, -, -⟩ := q2.facts
      have b1 := b0.trans (q1.mono b0.size)
      have hy1 := hy.below q1
      clear p0 q0 b0 hx hy q1
      go_wp2_with fail
      refine (exact_Check_any n2 B d ys _ hy1).mono ?_
      rintro e w2 ⟨rfl, q1⟩
      rw [E2.out]
      clear d0 d1
      go_wp2
      go_ret
      exact ⟨rfl, belowTo b1 q1⟩
  · have e1 : errI n1 xs = 1 := by simp [errI, o1]
    have o1' : okI n1 xs = false := by simpa using o1
    rw [o1', Bool.false_and]
    have E1 := Lib.hid e1
    clear o1 o1' e1
    have p0 := (Pair.new w 24 (.bool n1) (.slice A xs.length c)).alloc (.cells #[.bool n2, .slice B ys.length d] 24)
    have q0 := Pair.new (w.alloc (.cells #[.bool n1, .slice A xs.length c] 24)) 24 (.bool n2) (.slice B ys.length d)
    have b0 := ((Below.refl w.heap.size w).alloc (Nat.le_refl _) (.cells #[.bool n1, .slice A xs.length c] 24)).alloc (by simp) (.cells #[.bool n2, .slice B ys.length d] 24)
    have hx := (h.alloc (.cells #[.bool n1, .slice A xs.length c] 24)).alloc (.cells #[.bool n2, .slice B ys.length d] 24)
    have hy := (g.alloc (.cells #[.bool n1, .slice A xs.length c] 24)).alloc (.cells #[.bool n2, .slice B ys.length d] 24)
    simp only [World.size_alloc] at q0
    clear h g
    go_enter Tryz.func28, Tryz.ntmps28
    go_wp2_with fail
    refine (exact_Check_any n1 A c xs _ hx).mono ?_
    rintro e w1 ⟨rfl, q1⟩
    rw [E1.out]
    have b1 := b0.trans (q1.mono b0.size)
    clear p0 q0 b0 hx hy q1
    go_wp2
    go_ret
    exact ⟨rfl, b1⟩

set_option maxRecDepth 100000 in
set_option maxHeartbeats 1000000 in
theorem ref_fine_any (n1 n2 : Bool) (A B : Option Addr) (c d : Nat) (xs ys : List Nat) (w : World) (h : Raw w A c xs) (g : Raw w B d ys) :
    Calls Tryz.prog 33 #[.agg #[.bool n1, .slice A xs.length c], .agg #[.bool n2, .slice B ys.length d]] w fun e w' => e = .returned (.bool (okI n1 xs && okI n2 ys)) ∧ Below w.heap.size w w' := by
  by_cases o1 : okI n1 xs = true
  · have e1 : errI n1 xs = 0 := by simp [errI, o1]
    by_cases o2 : okI n2 ys = true
    · have e2 : errI n2 ys = 0 := by simp [errI, o2]
      rw [o1, o2]
      have E1 := Lib.hid e1
      have E2 := Lib.hid e2
      clear o1 o2 e1 e2
      have p0 := (Pair.new w 24 (.bool n1) (.slice A xs.length c)).alloc (.cells #[.bool n2, .slice B ys.length d] 24)
      have q0 := Pair.new (w.alloc (.cells #[.bool n1, .slice A xs.length c] 24)) 24 (.bool n2) (.slice B ys.length d)
      have b0 := ((Below.refl w.heap.size w).alloc (Nat.le_refl _) (.cells #[.bool n1, .slice A xs.length c] 24)).alloc (by simp) (.cells #[.bool n2, .slice B ys.length d] 24)
      have hx := (h.alloc (.cells #[.bool n1, .slice A xs.length c] 24)).alloc (.cells #[.bool n2, .slice B ys.length d] 24)
      have hy := (g.alloc (.cells #[.bool n1, .slice A xs.length c] 24)).alloc (.cells #[.bool n2, .slice B ys.length d] 24)
      simp only [World.size_alloc] at q0
      clear h g
      go_enter Tryz.func33, Tryz.ntmps33
      go_wp2_with fail
      refine (ref_Check_any n1 A c xs _ hx).mono ?_
      rintro e w1 ⟨rfl, q1⟩
      rw [E1.out]
      have q2 := q0.below q1
      obtain ⟨k2, d0, d1, -, -⟩ := q2.facts
      have b1 := b0.trans (q1.mono b0.size)
      have hy1 := hy.below q1
      clear p0 q0 b0 hx hy q1
      go_wp2_with fail
      refine (ref_Check_any n2 B d ys _ hy1).mono ?_
      rintro e w2 ⟨rfl, q1⟩
      rw [E2.out]
      clear d0 d1
      go_wp2
      go_ret
      exact ⟨rfl, belowTo b1 q1⟩
    · have e2 : errI n2 ys = 1 := by simp [errI, o2]
      have o2' : okI n2 ys = false := by simpa using o2
      rw [o1, o2']
      have E1 := Lib.hid e1
      have E2 := Lib.hid e2
      clear o1 o2 o2' e1 e2
      have p0 := (Pair.new w 24 (.bool n1) (.slice A xs.length c)).alloc (.cells #[.bool n2, .slice B ys.length d] 24)
      have q0 := Pair.new (w.alloc (.cells #[.bool n1, .slice A xs.length c] 24)) 24 (.bool n2) (.slice B ys.length d)
      have b0 := ((Below.refl w.heap.size w).alloc (Nat.le_refl _) (.cells #[.bool n1, .slice A xs.length c] 24)).alloc (by simp) (.cells #[.bool n2, .slice B ys.length d] 24)
      have hx := (h.alloc (.cells #[.bool n1, .slice A xs.length c] 24)).alloc (.cells #[.bool n2, .slice B ys.length d] 24)
      have hy := (g.alloc (.cells #[.bool n1, .slice A xs.length c] 24)).alloc (.cells #[.bool n2, .slice B ys.length d] 24)
      simp only [World.size_alloc] at q0
      clear h g
      go_enter Tryz.func33, Tryz.ntmps33
      go_wp2_with fail
      refine (ref_Check_any n1 A c xs _ hx).mono ?_
      rintro e w1 ⟨rfl, q1⟩
      rw [E1.out]
      have q2 := q0.below q1
      obtain ⟨k2, d0, d1, -, -⟩ := q2.facts
      have b1 := b0.trans (q1.mono b0.size)
      have hy1 := hy.below q1
      clear p0 q0 b0 hx hy q1
      go_wp2_with fail
      refine (ref_Check_any n2 B d ys _ hy1).mono ?_
      rintro e w2 ⟨rfl, q1⟩
      rw [E2.out]
      clear d0 d1
      go_wp2
      go_ret
      exact ⟨rfl, belowTo b1 q1⟩
  · have e1 : errI n1 xs = 1 := by simp [errI, o1]
    have o1' : okI n1 xs = false := by simpa using o1
    rw [o1', Bool.false_and]
    have E1 := Lib.hid e1
    clear o1 o1' e1
    have p0 := (Pair.new w 24 (.bool n1) (.slice A xs.length c)).alloc (.cells #[.bool n2, .slice B ys.length d] 24)
    have q0 := Pair.new (w.alloc (.cells #[.bool n1, .slice A xs.length c] 24)) 24 (.bool n2) (.slice B ys.length d)
    have b0 := ((Below.refl w.heap.size w).alloc (Nat.le_refl _) (.cells #[.bool n1, .slice A xs.length c] 24)).alloc (by simp) (.cells #[.bool n2, .slice B ys.length d] 24)
    have hx := (h.alloc (.cells #[.bool n1, .slice A xs.length c] 24)).alloc (.cells #[.bool n2, .slice B ys.length d] 24)
    have hy := (g.alloc (.cells #[.bool n1, .slice A xs.length c] 24)).alloc (.cells #[.bool n2, .slice B ys.length d] 24)
    simp only [World.size_alloc] at q0
    clear h g
    go_enter Tryz.func33, Tryz.ntmps33
    go_wp2_with fail
    refine (ref_Check_any n1 A c xs _ hx).mono ?_
    rintro e w1 ⟨rfl, q1⟩
    rw [E1.out]
    have b1 := b0.trans (q1.mono b0.size)
    clear p0 q0 b0 hx hy q1
    go_wp2
    go_ret
    exact ⟨rfl, b1⟩

end Go.Proofs.YtpcdiijmhllejaaGreatDoor
