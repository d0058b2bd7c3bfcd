/- Several texts in one: OrderW. -/
import Derived.Test.YtpcdiijmhllejaaDoorBkOrderMoreW
import Derived.Test.YtpcdiijmhllejaaDoorBkOrderSameW
import Derived.Test.YtpcdiijmhllejaaDoorBkOrderLessW
/- WholeOrder: the walk, joined. (Written by wip/whole/genorder.py.) -/
namespace Go.Proofs.YtpcdiijmhllejaaDoor
open Go.RowKit

set_option maxRecDepth 100000 in
set_option maxHeartbeats 2000000 in
theorem order_bad (n1 n2 n3 : Bool) (A B C : Option Addr) (c d e0 : Nat) (xs ys zs : List Nat) (o : (okI n1 xs && okI n2 ys && okI n3 zs) = false) (w : World) (h : Raw w A c xs) (g : Raw w B d ys) (k : Raw w C e0 zs) (htab : powTab w) :
    Calls Tryd.prog 6 #[.agg #[.bool n1, .slice A xs.length c], .agg #[.bool n2, .slice B ys.length d], .agg #[.bool n3, .slice C zs.length e0]] w fun e w' => e = .returned (.bool true) ∧ Below w.heap.size w w' := by
  have p0 := ((Pair.new w 24 (.bool n1) (.slice A xs.length c)).alloc (.cells #[.bool n2, .slice B ys.length d] 24)).alloc (.cells #[.bool n3, .slice C zs.length e0] 24)
  have p1 := (Pair.new (w.alloc (.cells #[.bool n1, .slice A xs.length c] 24)) 24 (.bool n2) (.slice B ys.length d)).alloc (.cells #[.bool n3, .slice C zs.length e0] 24)
  have p2 := Pair.new ((w.alloc (.cells #[.bool n1, .slice A xs.length c] 24)).alloc (.cells #[.bool n2, .slice B ys.length d] 24)) 24 (.bool n3) (.slice C zs.length e0)
  have r0 := (((h.alloc (.cells #[.bool n1, .slice A xs.length c] 24)).alloc (.cells #[.bool n2, .slice B ys.length d] 24)).alloc (.cells #[.bool n3, .slice C zs.length e0] 24))
  have r1 := (((g.alloc (.cells #[.bool n1, .slice A xs.length c] 24)).alloc (.cells #[.bool n2, .slice B ys.length d] 24)).alloc (.cells #[.bool n3, .slice C zs.length e0] 24))
  have r2 := (((k.alloc (.cells #[.bool n1, .slice A xs.length c] 24)).alloc (.cells #[.bool n2, .slice B ys.length d] 24)).alloc (.cells #[.bool n3, .slice C zs.length e0] 24))
  have b0 := ((((Below.refl w.heap.size w).alloc (Nat.le_refl _) (.cells #[.bool n1, .slice A xs.length c] 24)).alloc (by simp) (.cells #[.bool n2, .slice B ys.length d] 24)).alloc (by simp; omega) (.cells #[.bool n3, .slice C zs.length e0] 24))
  simp only [World.size_alloc] at p1 p2
  have HT := Lib.hid (htab.below b0)
  have HO := Lib.hid o
  clear h g k htab o
  go_enter Tryd.func6, Tryd.ntmps6
  obtain ⟨W, E⟩ : ∃ W, W = (((w.alloc (.cells #[.bool n1, .slice A xs.length c] 24)).alloc (.cells #[.bool n2, .slice B ys.length d] 24)).alloc (.cells #[.bool n3, .slice C zs.length e0] 24)) := ⟨_, rfl⟩
  go_upto_region 1 with fail
  rw [← E] at p0 r0 p1 r1 p2 r2 b0 HT ⊢
  clear E
  have P0 := Lib.hid p0
  have R0 := Lib.hid r0
  have P1 := Lib.hid p1
  have R1 := Lib.hid r1
  have P2 := Lib.hid p2
  have R2 := Lib.hid r2
  have HB := Lib.hid b0
  clear p0 r0 p1 r1 p2 r2 b0
  go_wp2_with fail
  refine (alive_true W HT.out).mono ?_
  rintro e x1 ⟨rfl, hb⟩
  have P0 := Lib.hid (P0.out.below hb)
  have R0 := Lib.hid (R0.out.below hb)
  have P1 := Lib.hid (P1.out.below hb)
  have R1 := Lib.hid (R1.out.below hb)
  have P2 := Lib.hid (P2.out.below hb)
  have R2 := Lib.hid (R2.out.below hb)
  have HT := Lib.hid (HT.out.below hb)
  have HB := Lib.hid (belowTo HB.out hb)
  clear hb
  obtain ⟨l0, a0, b0, -, -⟩ := P0.out.facts
  obtain ⟨l1, a1, b1, -, -⟩ := P1.out.facts
  obtain ⟨l2, a2, b2, -, -⟩ := P2.out.facts
  go_wp2_with fail
  refine (may_list [(n1, A, c, xs), (n2, B, d, ys), (n3, C, e0, zs)] (by simp) x1 (by intro m hm; simp at hm; rcases hm with rfl | rfl | rfl <;> first | exact R0.out | exact R1.out | exact R2.out) 24 false (by have := HO.out; simp only [List.all_cons, List.all_nil, Bool.and_true, okNum]; rw [← Bool.and_assoc]; exact this.symm)).mono ?_
  rintro e x2 ⟨rfl, hb⟩
  have HT := Lib.hid (HT.out.below hb)
  have HB := Lib.hid (belowTo HB.out hb)
  clear hb l0 a0 b0 l1 a1 b1 l2 a2 b2
  go_wp2_with fail
  refine (alive_true x2 HT.out).mono ?_
  rintro e x3 ⟨rfl, hb⟩
  have HF := Lib.hid (belowTo HB.out hb)
  clear hb
  go_wp2_with fail
  go_ret
  exact ⟨rfl, HF.out⟩

theorem order_true (n1 n2 n3 : Bool) (A B C : Option Addr) (c d e0 : Nat) (xs ys zs : List Nat) (w : World) (h : Raw w A c xs) (g : Raw w B d ys) (k : Raw w C e0 zs) (htab : powTab w) :
    Calls Tryd.prog 6 #[.agg #[.bool n1, .slice A xs.length c], .agg #[.bool n2, .slice B ys.length d], .agg #[.bool n3, .slice C zs.length e0]] w fun e w' => e = .returned (.bool true) ∧ Below w.heap.size w w' := by
  by_cases o : (okI n1 xs && okI n2 ys && okI n3 zs) = true
  · obtain ⟨o12, o3⟩ := Bool.and_eq_true_iff.1 o
    obtain ⟨o1, o2⟩ := Bool.and_eq_true_iff.1 o12
    obtain ⟨e1, e2, e3⟩ := ok_num h.limbs o1
    obtain ⟨f1, f2, f3⟩ := ok_num g.limbs o2
    obtain ⟨g1, g2, g3⟩ := ok_num k.limbs o3
    generalize ival n1 xs = x at *
    generalize ival n2 ys = y at *
    generalize ival n3 zs = z at *
    subst e1 e2 f1 f2 g1 g2
    rcases cmpz_range x y with hk | hk | hk
    · exact order_less x y z A B C c d e0 e3 f3 g3 hk.symm w h g k htab
    · exact order_same x y z A B C c d e0 e3 f3 g3 hk.symm w h g k htab
    · exact order_more x y z A B C c d e0 e3 f3 g3 hk.symm w h g k htab
  · exact order_bad n1 n2 n3 A B C c d e0 xs ys zs (by simpa using o) w h g k htab
end Go.Proofs.YtpcdiijmhllejaaDoor
