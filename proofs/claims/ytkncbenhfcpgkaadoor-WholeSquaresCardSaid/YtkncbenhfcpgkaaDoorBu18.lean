/- Several texts in one: CmpW, OfW, WrapI. -/
import Derived.Test.YtkncbenhfcpgkaaDoorBu13
import Derived.Test.YtkncbenhfcpgkaaDoorBuHd
import Derived.Test.YtkncbenhfcpgkaaDoorBu10
import Derived.Test.YtkncbenhfcpgkaaDoorBu09
import Derived.Test.YtkncbenhfcpgkaaDoorBu01
import Derived.Test.YtkncbenhfcpgkaaDoorBu05
import Derived.Test.YtkncbenhfcpgkaaDoorBu04
import Derived.Test.YtkncbenhfcpgkaaDoorBu03
import Derived.Test.YtkncbenhfcpgkaaDoorBu02
set_option maxRecDepth 100000
set_option maxHeartbeats 8000000
/- Cmp of package whole and of the references. (Written by wip/exact/genfine.py, cut off by hand.) -/
namespace Go.Proofs.YtkncbenhfcpgkaaDoor
open Go.RowKit

theorem whole_Cmp_any (n1 n2 : Bool) (A B : Option Addr) (c d : Nat) (xs ys : List Nat) (w : World) (h : Raw w A c xs) (g : Raw w B d ys) :
    Calls Tryd.prog 11 #[.agg #[.bool n1, .slice A xs.length c], .agg #[.bool n2, .slice B ys.length d]] w fun e w' => e = .returned (.int .i64 (if okI n1 xs && okI n2 ys then cmpz (ival n1 xs) (ival n2 ys) else 0)) ∧ Below w.heap.size w w' := by
  by_cases o : (okI n1 xs && okI n2 ys) = true
  · obtain ⟨o1, o2⟩ := Bool.and_eq_true_iff.1 o
    rw [if_pos o]
    have O := Hd o
    have O1 := Hd o1
    have O2 := Hd o2
    clear o o1 o2
    have p0 := (Pair.new w 24 (.bool n1) (.slice A xs.length c)).alloc (.cells #[.bool n2, .slice B ys.length d] 24)
    have q0 := Pair.new (w.alloc (.cells #[.bool n1, .slice A xs.length c] 24)) 24 (.bool n2) (.slice B ys.length d)
    have b0 := ((Below.refl w.heap.size w).alloc (Nat.le_refl _) (.cells #[.bool n1, .slice A xs.length c] 24)).alloc (by simp) (.cells #[.bool n2, .slice B ys.length d] 24)
    have hx := (h.alloc (.cells #[.bool n1, .slice A xs.length c] 24)).alloc (.cells #[.bool n2, .slice B ys.length d] 24)
    have hy := (g.alloc (.cells #[.bool n1, .slice A xs.length c] 24)).alloc (.cells #[.bool n2, .slice B ys.length d] 24)
    simp only [World.size_alloc] at q0
    clear h g
    go_enter Tryd.func11, Tryd.ntmps11
    go_wp2_with fail
    refine (whole_fine_any n1 n2 A B c d xs ys _ hx hy).mono ?_
    rintro e w1 ⟨rfl, q1⟩
    rw [O.out]
    have p2 := p0.below q1
    have q2 := q0.below q1
    obtain ⟨k1, c0, c1, -, -⟩ := p2.facts
    obtain ⟨k2, d0, d1, -, -⟩ := q2.facts
    have b1 := b0.trans (q1.mono b0.size)
    have hx1 := hx.below q1
    have hy1 := hy.below q1
    clear p0 q0 b0 hx hy q1
    go_wp2_with fail
    refine (exact_Cmp_any n1 n2 A B c d xs ys O1.out O2.out _ hx1 hy1).mono ?_
    rintro e w2 ⟨rfl, q1⟩
    clear c0 c1 d0 d1
    go_wp2
    go_ret
    exact ⟨rfl, belowTo b1 q1⟩
  · have o' : (okI n1 xs && okI n2 ys) = false := by simpa using o
    rw [if_neg o]
    have O := Hd o'
    clear o o'
    have p0 := (Pair.new w 24 (.bool n1) (.slice A xs.length c)).alloc (.cells #[.bool n2, .slice B ys.length d] 24)
    have q0 := Pair.new (w.alloc (.cells #[.bool n1, .slice A xs.length c] 24)) 24 (.bool n2) (.slice B ys.length d)
    have b0 := ((Below.refl w.heap.size w).alloc (Nat.le_refl _) (.cells #[.bool n1, .slice A xs.length c] 24)).alloc (by simp) (.cells #[.bool n2, .slice B ys.length d] 24)
    have hx := (h.alloc (.cells #[.bool n1, .slice A xs.length c] 24)).alloc (.cells #[.bool n2, .slice B ys.length d] 24)
    have hy := (g.alloc (.cells #[.bool n1, .slice A xs.length c] 24)).alloc (.cells #[.bool n2, .slice B ys.length d] 24)
    simp only [World.size_alloc] at q0
    clear h g
    go_enter Tryd.func11, Tryd.ntmps11
    go_wp2_with fail
    refine (whole_fine_any n1 n2 A B c d xs ys _ hx hy).mono ?_
    rintro e w1 ⟨rfl, q1⟩
    rw [O.out]
    have b1 := b0.trans (q1.mono b0.size)
    clear p0 q0 b0 hx hy q1
    go_wp2
    go_ret
    exact ⟨rfl, b1⟩

/- Of of package whole. -/

theorem whole_Of (n : Int) (h1 : -9223372036854775808 ≤ n) (h2 : n ≤ 9223372036854775807) (w : World) :
    Calls Tryd.prog 10 #[.int .i64 n] w (RetInt w.heap.size w n) := by
  have HC := Hd (fun W => exact_Of n h1 h2 W)
  go_enter Tryd.func10, Tryd.ntmps10
  go_wp2_with fail
  refine (HC.out _).mono ?_
  rintro e w1 ⟨v, rfl, hI, hb⟩
  obtain ⟨A, c, hv, _⟩ := hI.form
  have hI2 := hI
  rw [hv] at hI2 ⊢
  have hp := (Pair.new w 24 (.bool false) (.slice none 0 0)).below hb
  have hb1 := (Below.alloc (Below.refl w.heap.size w) (Nat.le_refl _) _).trans (hb.mono (by simp))
  obtain ⟨hl, c0, c1, f0, f1⟩ := hp.facts
  clear hb HC hv hI
  go_wp2_with fail
  have hq := hp.store (.bool (decide (n < 0))) (.slice A (natL n.natAbs).length c)
  obtain ⟨_, k0, k1, _, _⟩ := hq.facts
  exact bodyPost_ret (by simp [results, Tryd.results10, go_sem, k0, k1]) rfl ⟨_, rfl, ((hI2.base (b' := w.heap.size + 1) (by simp)).pair (Nat.lt_succ_self _)).base (Nat.le_succ _), below2 hb1 (Nat.le_refl _) _ _⟩
/- Sign, Bits of package whole and of the references: 0 of what may not be. (Written by wip/exact/genwrap.py.) -/

end Go.Proofs.YtkncbenhfcpgkaaDoor
