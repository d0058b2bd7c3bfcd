/- Several texts in one: Tupsq1, WRoot. -/
import Derived.Test.YtkncbenhfcpgkaaDoorBu27
import Derived.Test.YtkncbenhfcpgkaaDoorBu21
import Derived.Test.YtkncbenhfcpgkaaDoorBu32
import Derived.Test.YtkncbenhfcpgkaaDoorBu19
import Derived.Test.YtkncbenhfcpgkaaDoorBu26
import Derived.Test.YtkncbenhfcpgkaaDoorBu20
import Derived.Test.YtkncbenhfcpgkaaDoorBu34
import Derived.Test.YtkncbenhfcpgkaaDoorBu25
import Derived.Test.YtkncbenhfcpgkaaDoorBu33
import Derived.Test.YtkncbenhfcpgkaaDoorBu22
import Derived.Test.YtkncbenhfcpgkaaDoorBu02
import Derived.Test.YtkncbenhfcpgkaaDoorBu04
import Derived.Test.YtkncbenhfcpgkaaDoorBu11
import Derived.Test.YtkncbenhfcpgkaaDoorBu08
import Derived.Test.YtkncbenhfcpgkaaDoorBu03
import Derived.Test.YtkncbenhfcpgkaaDoorBu10
import Derived.Test.YtkncbenhfcpgkaaDoorBu09
import Derived.Test.YtkncbenhfcpgkaaDoorBu01
import Derived.Test.YtkncbenhfcpgkaaDoorBu05
import Derived.Test.YtkncbenhfcpgkaaDoorBu06
import Derived.Test.YtkncbenhfcpgkaaDoorBu07
import Derived.Test.YtkncbenhfcpgkaaDoorBu14
import Derived.Test.YtkncbenhfcpgkaaDoorBu17
import Derived.Test.YtkncbenhfcpgkaaDoorBu23
import Derived.Test.YtkncbenhfcpgkaaDoorBu24
import Derived.Test.YtkncbenhfcpgkaaDoorBu16
import Derived.Test.YtkncbenhfcpgkaaDoorBu15
import Derived.Test.YtkncbenhfcpgkaaDoorBu13
import Derived.Test.YtkncbenhfcpgkaaDoorBu12
import Derived.Test.YtkncbenhfcpgkaaDoorBu18
import Derived.Test.YtkncbenhfcpgkaaDoorBuHd
set_option maxRecDepth 100000
set_option maxHeartbeats 8000000
/- Numbers handed back with an error, in regions that draw their order; refusals told by a number's letter. -/
namespace Go.Proofs.YtkncbenhfcpgkaaDoor
open Go.RowKit

theorem mul_long_n (x y z : Int) (A B : Option Addr) (c d : Nat) (hx : Fit x) (hy : Fit y) (w : World) (h : Raw w A c (natL x.natAbs)) (g : Raw w B d (natL y.natAbs)) (fz : ¬ Fit (x * y)) (hz0 : z = 0) : Calls Tryd.prog 8 #[.agg #[.bool (decide (x < 0)), .slice A (natL x.natAbs).length c], .agg #[.bool (decide (y < 0)), .slice B (natL y.natAbs).length d]] w (RetN2 w z 4) := by
  rw [hz0]; exact mul_long x y A B c d hx hy w h g fz
/- Root of package whole. (Written by wip/exact/genwroot.py.) -/

def RetRoot3 (base : Nat) (w : World) (r : Int) (sq : Bool) (k : Int) (e : Ending) (w' : World) : Prop := ∃ v, e = .returned (.tuple #[v, .bool sq, .int .i64 k]) ∧ IntOwn w' base v r ∧ Below w.heap.size w w'
theorem exact_Root_z (x r : Int) (sq : Bool) (A : Option Addr) (c : Nat) (w : World) (h : Raw w A c (natL x.natAbs)) (hx : lz x ≤ 60000) (h0 : 0 ≤ x) (hr : IsRootZ x r) (hs : sq = decide (r * r = x)) :
    Calls Tryd.prog 19 #[.agg #[.bool (decide (x < 0)), .slice A (natL x.natAbs).length c]] w (RetRoot w.heap.size w r sq) := by
  by_cases hx0 : x = 0
  · have e : r = 0 := rootZ_one h0 hr (by subst hx0; exact ⟨by omega, by omega, by omega⟩)
    have e2 : sq = true := by rw [hs, e, hx0]; rfl
    rw [e, e2]
    exact exact_Root_nought x A c w h hx0
  · by_cases hq : r * r = x
    · have e2 : sq = true := by rw [hs]; exact decide_eq_true hq
      rw [e2]; exact exact_Root_same x r A c w h hx (by omega) hr hq
    · have e2 : sq = false := by rw [hs]; exact decide_eq_false hq
      rw [e2]; exact exact_Root_less x r A c w h hx (by omega) hr hq

theorem whole_Root_ok (x r : Int) (sq : Bool) (A : Option Addr) (c : Nat) (hx : Fit x) (w : World) (h_x : Raw w A c (natL x.natAbs)) (h0 : 0 ≤ x) (hr : IsRootZ x r) (hs : sq = decide (r * r = x)) :
    Calls Tryd.prog 7 #[.agg #[.bool (decide (x < 0)), .slice A (natL x.natAbs).length c]] w (RetRoot3 w.heap.size w r sq 0) := by
  have hng : decide (x < 0) = false := decide_eq_false (by omega)
  have C1 := Hd (fun (V : World) (a : Raw V A c (natL x.natAbs)) => exact_Root_z x r sq A c V a (Nat.le_trans hx (by decide)) h0 hr hs)
  have C0 := Hd (fun (V : World) (a : Raw V A c (natL x.natAbs)) => echeck_fit x A c V a hx)
  rw [hng] at C1 C0
  have HNG := Hd hng
  clear hx h0 hr hs hng
  have b0 := (((Below.refl w.heap.size w).alloc (Nat.le_refl _) (.cells #[.bool (decide (x < 0)), .slice A (natL x.natAbs).length c] 24)).alloc (by simp) (.cells #[.bool false, .slice none 0 0] 24))
  have p0 := (Pair.new w 24 (.bool (decide (x < 0))) (.slice A (natL x.natAbs).length c)).alloc (.cells #[.bool false, .slice none 0 0] 24)
  have p1 := Pair.new (w.alloc (.cells #[.bool (decide (x < 0)), .slice A (natL x.natAbs).length c] 24)) 24 (.bool false) (.slice none 0 0)
  simp only [World.size_alloc] at p1
  have V_x := Hd (NV.of h_x b0 p0)
  have P_r0 := Hd p1
  have RW_x := Hd h_x
  have HBW := Hd b0
  clear b0 p0 p1 h_x
  go_enter Tryd.func7, Tryd.ntmps7
  obtain ⟨W, E⟩ : ∃ W, W = ((w.alloc (.cells #[.bool (decide (x < 0)), .slice A (natL x.natAbs).length c] 24)).alloc (.cells #[.bool false, .slice none 0 0] 24)) := ⟨_, rfl⟩
  go_upto_region 1 with fail
  rw [← E] at V_x P_r0 HBW ⊢
  clear E
  have hng := HNG.out
  obtain ⟨l_x, a_x, b_x, -, -⟩ := V_x.out.pair.facts
  go_wp2_with fail
  refine (C0.out W V_x.out.raw).mono ?_
  rintro e x1 ⟨rfl, hb⟩
  clear l_x a_x b_x
  have V_x := Hd (V_x.out.below hb)
  have P_r0 := Hd (P_r0.out.below hb)
  have HBW := Hd (belowTo HBW.out hb)
  clear hb
  obtain ⟨l_x, a_x, b_x, -, -⟩ := V_x.out.pair.facts
  go_wp2_with fail
  refine (C1.out x1 V_x.out.raw).mono ?_
  rintro e w9 ⟨v, rfl, hI, hb⟩
  clear l_x a_x b_x
  have hsz := P_r0.out.blk.lt
  obtain ⟨b9, A9, k9, c9, rfl⟩ := hI.shape
  have pr := P_r0.out.below hb
  obtain ⟨q1, q2, q3, q4, q5⟩ := pr.facts
  have HI := Hd (hI.pair (g := w.heap.size + 1) (a := .bool b9) (b := .slice A9 k9 c9) (by omega))
  have HB := Hd (below2 (belowTo HBW.out hb) (show w.heap.size ≤ w.heap.size + 1 by omega) (.bool b9) (.slice A9 k9 c9))
  have HQ := Hd (pr.store (.bool b9) (.slice A9 k9 c9))
  have hbs : w.heap.size ≤ x1.heap.size := by omega
  clear hI hb pr hsz
  go_upto_region 4 with fail
  obtain ⟨Y, E⟩ : ∃ Y, Y = (w9.setCell ⟨w.heap.size + 1, 0, none⟩ (.bool b9)).setCell ⟨w.heap.size + 1, 1, none⟩ (.slice A9 k9 c9) := ⟨_, rfl⟩
  rw [← E] at HI HB HQ ⊢
  clear E q1 q2 q3 q4 q5
  obtain ⟨q1, q2, q3, q4, q5⟩ := HQ.out.facts
  have hset := set_same2 HQ.out
  go_wp2_with fail
  exact bodyPost_ret (by simp [results, Tryd.results7, go_sem, q2, q3]) rfl ⟨.agg #[.bool b9, .slice A9 k9 c9], rfl, HI.out.base hbs, HB.out⟩
end Go.Proofs.YtkncbenhfcpgkaaDoor
