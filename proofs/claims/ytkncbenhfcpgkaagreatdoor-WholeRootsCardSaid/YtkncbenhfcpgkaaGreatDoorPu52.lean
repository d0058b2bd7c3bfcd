/- Several texts in one: ShiftR, WRoot, WRootR, Roots0. -/
import Derived.Test.YtkncbenhfcpgkaaGreatDoorPu17
import Derived.Test.YtkncbenhfcpgkaaGreatDoorPuHd
import Derived.Test.YtkncbenhfcpgkaaGreatDoorPu34
import Derived.Test.YtkncbenhfcpgkaaGreatDoorPu39
import Derived.Test.YtkncbenhfcpgkaaGreatDoorPu51
import Derived.Test.YtkncbenhfcpgkaaGreatDoorPu18
import Derived.Test.YtkncbenhfcpgkaaGreatDoorPu36
import Derived.Test.YtkncbenhfcpgkaaGreatDoorPu20
import Derived.Test.YtkncbenhfcpgkaaGreatDoorPu37
import Derived.Test.YtkncbenhfcpgkaaGreatDoorPu19
import Derived.Test.YtkncbenhfcpgkaaGreatDoorPu50
import Derived.Test.YtkncbenhfcpgkaaGreatDoorPu01
import Derived.Test.YtkncbenhfcpgkaaGreatDoorPu16
import Derived.Test.YtkncbenhfcpgkaaGreatDoorPu03
import Derived.Test.YtkncbenhfcpgkaaGreatDoorPu33
import Derived.Test.YtkncbenhfcpgkaaGreatDoorPu13
import Derived.Test.YtkncbenhfcpgkaaGreatDoorPu06
import Derived.Test.YtkncbenhfcpgkaaGreatDoorPu02
import Derived.Test.YtkncbenhfcpgkaaGreatDoorPu08
import Derived.Test.YtkncbenhfcpgkaaGreatDoorPu05
import Derived.Test.YtkncbenhfcpgkaaGreatDoorPu04
import Derived.Test.YtkncbenhfcpgkaaGreatDoorPu12
import Derived.Test.YtkncbenhfcpgkaaGreatDoorPu07
import Derived.Test.YtkncbenhfcpgkaaGreatDoorPu15
import Derived.Test.YtkncbenhfcpgkaaGreatDoorPu14
import Derived.Test.YtkncbenhfcpgkaaGreatDoorPu11
import Derived.Test.YtkncbenhfcpgkaaGreatDoorPu35
import Derived.Test.YtkncbenhfcpgkaaGreatDoorPu09
import Derived.Test.YtkncbenhfcpgkaaGreatDoorPu38
set_option maxRecDepth 100000
set_option maxHeartbeats 8000000
/- Shift of the references. (Written by wip/exact/genshift.py.) -/
namespace Go.Proofs.YtkncbenhfcpgkaaGreatDoor
open Go.RowKit
theorem rcheck_fit (x : Int) (A : Option Addr) (c : Nat) (w : World) (h : Raw w A c (natL x.natAbs)) (hx : Fit x) :
    Calls Tryz.prog 34 #[.agg #[.bool (decide (x < 0)), .slice A (natL x.natAbs).length c]] w fun e w' => e = .returned (.int .i64 0) ∧ Below w.heap.size w w' := by
  have := ref_Check_any (decide (x < 0)) A c _ w h
  unfold errI at this
  rwa [hx.ok, if_pos rfl] at this

theorem ref_Shift_nought (x z n : Int) (A : Option Addr) (c : Nat) (hx : Fit x) (w : World) (h_x : Raw w A c (natL x.natAbs)) (hx0 : x = 0) (hz : z = 0) :
    Calls Tryz.prog 11 #[.agg #[.bool (decide (x < 0)), .slice A (natL x.natAbs).length c], .int .i64 n] w (RetInt2 w.heap.size w z 0) := by
  have F_x := Hd hx
  have HX := Hd hx0
  have HZ := Hd hz
  clear hx hx0 hz
  have b0 := (((Below.refl w.heap.size w).alloc (Nat.le_refl _) (.cells #[.bool (decide (x < 0)), .slice A (natL x.natAbs).length c] 24)).alloc (by simp) (.cells #[.bool false, .slice none 0 0] 24))
  have p0 := (Pair.new w 24 (.bool (decide (x < 0))) (.slice A (natL x.natAbs).length c)).alloc (.cells #[.bool false, .slice none 0 0] 24)
  have p1 := Pair.new (w.alloc (.cells #[.bool (decide (x < 0)), .slice A (natL x.natAbs).length c] 24)) 24 (.bool false) (.slice none 0 0)
  simp only [World.size_alloc] at p1
  have V_x := Hd (NV.of h_x b0 p0)
  have P_r0 := Hd p1
  have RW_x := Hd h_x
  have HBW := Hd b0
  clear b0 p0 p1 h_x
  go_enter Tryz.func11, Tryz.ntmps11
  obtain ⟨W, E⟩ : ∃ W, W = ((w.alloc (.cells #[.bool (decide (x < 0)), .slice A (natL x.natAbs).length c] 24)).alloc (.cells #[.bool false, .slice none 0 0] 24)) := ⟨_, rfl⟩
  go_upto_region 1 with fail
  rw [← E] at V_x P_r0 HBW ⊢
  clear E
  obtain ⟨l_x, a_x, b_x, -, -⟩ := V_x.out.pair.facts
  go_wp2_with fail
  refine (rcheck_fit x A c W V_x.out.raw F_x.out).mono ?_
  rintro e x1 ⟨rfl, hb⟩
  clear l_x a_x b_x
  have V_x := Hd (V_x.out.below hb)
  have P_r0 := Hd (P_r0.out.below hb)
  have HBW := Hd (belowTo HBW.out hb)
  clear hb
  obtain ⟨l_x, a_x, b_x, -, -⟩ := V_x.out.pair.facts
  go_wp2_with fail
  refine (rsign x 0 A c x1 V_x.out.raw (by rw [HX.out]; rfl)).mono ?_
  rintro e x2 ⟨rfl, hb⟩
  clear l_x a_x b_x
  have V_x := Hd (V_x.out.below hb)
  have P_r0 := Hd (P_r0.out.below hb)
  have HBW := Hd (belowTo HBW.out hb)
  clear hb
  obtain ⟨l_x, a_x, b_x, -, -⟩ := V_x.out.pair.facts
  obtain ⟨l_r0, a_r0, b_r0, f_r0, g_r0⟩ := P_r0.out.facts
  have HQ := Hd (P_r0.out.store (.bool false) (.slice none 0 0))
  have HB := Hd (below2 HBW.out (show w.heap.size ≤ w.heap.size + 1 by omega) (.bool false) (.slice none 0 0))
  have hq0 := HQ.out.facts
  go_wp2_with fail
  obtain ⟨_, k0, k1, _, _⟩ := HQ.out.facts
  exact bodyPost_ret (by simp [results, Tryz.results11, go_sem, k0, k1]) rfl ⟨.agg #[.bool false, .slice none 0 0], rfl, by rw [HZ.out]; exact IntOwn.nought _ _, HB.out⟩

theorem ref_Shift_down (x z n : Int) (A : Option Addr) (c : Nat) (hx : Fit x) (w : World) (h_x : Raw w A c (natL x.natAbs)) (hx0 : x ≠ 0) (hn : n < 0) (hn2 : -65536 ≤ n) (hz : z = x / ((2 ^ (-n : Int).toNat : Nat) : Int)) :
    Calls Tryz.prog 11 #[.agg #[.bool (decide (x < 0)), .slice A (natL x.natAbs).length c], .int .i64 n] w (RetInt2 w.heap.size w z 0) := by
  have F_x := Hd hx
  have HX := Hd hx0
  have HZ := Hd hz
  have hlx : lz x ≤ 2048 := hx
  obtain ⟨sg, hsg⟩ : ∃ k : Int, k = x.sign := ⟨_, rfl⟩
  have HSG := Hd hsg
  have SG := Hd (show (sg == 0) = false from beq_false_of_ne (by rw [hsg]; exact fun e => hx0 (Int.sign_eq_zero_iff_zero.1 e)))
  clear hsg
  have C1 := Hd (fun (V : World) (a : Raw V A c (natL x.natAbs)) => rhalved x z (-n) A c V a (by omega) (by omega) (by omega) hz)
  clear hx hx0 hz hlx
  have b0 := (((Below.refl w.heap.size w).alloc (Nat.le_refl _) (.cells #[.bool (decide (x < 0)), .slice A (natL x.natAbs).length c] 24)).alloc (by simp) (.cells #[.bool false, .slice none 0 0] 24))
  have p0 := (Pair.new w 24 (.bool (decide (x < 0))) (.slice A (natL x.natAbs).length c)).alloc (.cells #[.bool false, .slice none 0 0] 24)
  have p1 := Pair.new (w.alloc (.cells #[.bool (decide (x < 0)), .slice A (natL x.natAbs).length c] 24)) 24 (.bool false) (.slice none 0 0)
  simp only [World.size_alloc] at p1
  have V_x := Hd (NV.of h_x b0 p0)
  have P_r0 := Hd p1
  have RW_x := Hd h_x
  have HBW := Hd b0
  clear b0 p0 p1 h_x
  go_enter Tryz.func11, Tryz.ntmps11
  obtain ⟨W, E⟩ : ∃ W, W = ((w.alloc (.cells #[.bool (decide (x < 0)), .slice A (natL x.natAbs).length c] 24)).alloc (.cells #[.bool false, .slice none 0 0] 24)) := ⟨_, rfl⟩
  go_upto_region 1 with fail
  rw [← E] at V_x P_r0 HBW ⊢
  clear E
  obtain ⟨l_x, a_x, b_x, -, -⟩ := V_x.out.pair.facts
  go_wp2_with fail
  refine (rcheck_fit x A c W V_x.out.raw F_x.out).mono ?_
  rintro e x1 ⟨rfl, hb⟩
  clear l_x a_x b_x
  have V_x := Hd (V_x.out.below hb)
  have P_r0 := Hd (P_r0.out.below hb)
  have HBW := Hd (belowTo HBW.out hb)
  clear hb
  have hs0 : (sg == 0) = false := SG.out
  obtain ⟨l_x, a_x, b_x, -, -⟩ := V_x.out.pair.facts
  go_wp2_with fail
  refine (rsign x sg A c x1 V_x.out.raw HSG.out).mono ?_
  rintro e x2 ⟨rfl, hb⟩
  clear l_x a_x b_x
  have V_x := Hd (V_x.out.below hb)
  have P_r0 := Hd (P_r0.out.below hb)
  have HBW := Hd (belowTo HBW.out hb)
  clear hb
  obtain ⟨l_x, a_x, b_x, -, -⟩ := V_x.out.pair.facts
  go_wp2_with fail
  refine (C1.out x2 V_x.out.raw).mono ?_
  rintro e w9 ⟨v, rfl, hI, hb⟩
  clear l_x a_x b_x
  have hsz := P_r0.out.blk.lt
  obtain ⟨b9, A9, k9, c9, rfl⟩ := hI.shape
  have pr := P_r0.out.below hb
  obtain ⟨q1, q2, q3, q4, q5⟩ := pr.facts
  have HI := Hd (hI.pair (g := w.heap.size + 1) (a := .bool b9) (b := .slice A9 k9 c9) (by omega))
  have HB := Hd (below2 (belowTo HBW.out hb) (show w.heap.size ≤ w.heap.size + 1 by omega) (.bool b9) (.slice A9 k9 c9))
  have HQ := Hd (pr.store (.bool b9) (.slice A9 k9 c9))
  clear hI hb pr
  go_wp2_with fail
  obtain ⟨_, k0, k1, _, _⟩ := HQ.out.facts
  exact bodyPost_ret (by simp [results, Tryz.results11, go_sem, k0, k1]) rfl ⟨_, rfl, HI.out.base (by omega), HB.out⟩

theorem ref_Shift_far (x z n : Int) (A : Option Addr) (c : Nat) (hx : Fit x) (w : World) (h_x : Raw w A c (natL x.natAbs)) (hx0 : x ≠ 0) (hn : n < -65536) (hz : z = x / ((2 ^ (65536 : Int).toNat : Nat) : Int)) :
    Calls Tryz.prog 11 #[.agg #[.bool (decide (x < 0)), .slice A (natL x.natAbs).length c], .int .i64 n] w (RetInt2 w.heap.size w z 0) := by
  have F_x := Hd hx
  have HX := Hd hx0
  have HZ := Hd hz
  have hlx : lz x ≤ 2048 := hx
  obtain ⟨sg, hsg⟩ : ∃ k : Int, k = x.sign := ⟨_, rfl⟩
  have HSG := Hd hsg
  have SG := Hd (show (sg == 0) = false from beq_false_of_ne (by rw [hsg]; exact fun e => hx0 (Int.sign_eq_zero_iff_zero.1 e)))
  clear hsg
  have C1 := Hd (fun (V : World) (a : Raw V A c (natL x.natAbs)) => rhalved x z (65536) A c V a (by omega) (by omega) (by omega) hz)
  clear hx hx0 hz hlx
  have b0 := (((Below.refl w.heap.size w).alloc (Nat.le_refl _) (.cells #[.bool (decide (x < 0)), .slice A (natL x.natAbs).length c] 24)).alloc (by simp) (.cells #[.bool false, .slice none 0 0] 24))
  have p0 := (Pair.new w 24 (.bool (decide (x < 0))) (.slice A (natL x.natAbs).length c)).alloc (.cells #[.bool false, .slice none 0 0] 24)
  have p1 := Pair.new (w.alloc (.cells #[.bool (decide (x < 0)), .slice A (natL x.natAbs).length c] 24)) 24 (.bool false) (.slice none 0 0)
  simp only [World.size_alloc] at p1
  have V_x := Hd (NV.of h_x b0 p0)
  have P_r0 := Hd p1
  have RW_x := Hd h_x
  have HBW := Hd b0
  clear b0 p0 p1 h_x
  go_enter Tryz.func11, Tryz.ntmps11
  obtain ⟨W, E⟩ : ∃ W, W = ((w.alloc (.cells #[.bool (decide (x < 0)), .slice A (natL x.natAbs).length c] 24)).alloc (.cells #[.bool false, .slice none 0 0] 24)) := ⟨_, rfl⟩
  go_upto_region 1 with fail
  rw [← E] at V_x P_r0 HBW ⊢
  clear E
  obtain ⟨l_x, a_x, b_x, -, -⟩ := V_x.out.pair.facts
  go_wp2_with fail
  refine (rcheck_fit x A c W V_x.out.raw F_x.out).mono ?_
  rintro e x1 ⟨rfl, hb⟩
  clear l_x a_x b_x
  have V_x := Hd (V_x.out.below hb)
  have P_r0 := Hd (P_r0.out.below hb)
  have HBW := Hd (belowTo HBW.out hb)
  clear hb
  have hs0 : (sg == 0) = false := SG.out
  obtain ⟨l_x, a_x, b_x, -, -⟩ := V_x.out.pair.facts
  go_wp2_with fail
  refine (rsign x sg A c x1 V_x.out.raw HSG.out).mono ?_
  rintro e x2 ⟨rfl, hb⟩
  clear l_x a_x b_x
  have V_x := Hd (V_x.out.below hb)
  have P_r0 := Hd (P_r0.out.below hb)
  have HBW := Hd (belowTo HBW.out hb)
  clear hb
  obtain ⟨l_x, a_x, b_x, -, -⟩ := V_x.out.pair.facts
  go_wp2_with fail
  refine (C1.out x2 V_x.out.raw).mono ?_
  rintro e w9 ⟨v, rfl, hI, hb⟩
  clear l_x a_x b_x
  have hsz := P_r0.out.blk.lt
  obtain ⟨b9, A9, k9, c9, rfl⟩ := hI.shape
  have pr := P_r0.out.below hb
  obtain ⟨q1, q2, q3, q4, q5⟩ := pr.facts
  have HI := Hd (hI.pair (g := w.heap.size + 1) (a := .bool b9) (b := .slice A9 k9 c9) (by omega))
  have HB := Hd (below2 (belowTo HBW.out hb) (show w.heap.size ≤ w.heap.size + 1 by omega) (.bool b9) (.slice A9 k9 c9))
  have HQ := Hd (pr.store (.bool b9) (.slice A9 k9 c9))
  clear hI hb pr
  go_wp2_with fail
  obtain ⟨_, k0, k1, _, _⟩ := HQ.out.facts
  exact bodyPost_ret (by simp [results, Tryz.results11, go_sem, k0, k1]) rfl ⟨_, rfl, HI.out.base (by omega), HB.out⟩

theorem ref_Shift_above (x z n : Int) (A : Option Addr) (c : Nat) (hx : Fit x) (w : World) (h_x : Raw w A c (natL x.natAbs)) (hx0 : x ≠ 0) (hn : 65536 < n) (hz : z = 0) :
    Calls Tryz.prog 11 #[.agg #[.bool (decide (x < 0)), .slice A (natL x.natAbs).length c], .int .i64 n] w (RetInt2 w.heap.size w z 4) := by
  have F_x := Hd hx
  have HX := Hd hx0
  have HZ := Hd hz
  have hlx : lz x ≤ 2048 := hx
  obtain ⟨sg, hsg⟩ : ∃ k : Int, k = x.sign := ⟨_, rfl⟩
  have HSG := Hd hsg
  have SG := Hd (show (sg == 0) = false from beq_false_of_ne (by rw [hsg]; exact fun e => hx0 (Int.sign_eq_zero_iff_zero.1 e)))
  clear hsg
  clear hx hx0 hz hlx
  have b0 := (((Below.refl w.heap.size w).alloc (Nat.le_refl _) (.cells #[.bool (decide (x < 0)), .slice A (natL x.natAbs).length c] 24)).alloc (by simp) (.cells #[.bool false, .slice none 0 0] 24))
  have p0 := (Pair.new w 24 (.bool (decide (x < 0))) (.slice A (natL x.natAbs).length c)).alloc (.cells #[.bool false, .slice none 0 0] 24)
  have p1 := Pair.new (w.alloc (.cells #[.bool (decide (x < 0)), .slice A (natL x.natAbs).length c] 24)) 24 (.bool false) (.slice none 0 0)
  simp only [World.size_alloc] at p1
  have V_x := Hd (NV.of h_x b0 p0)
  have P_r0 := Hd p1
  have RW_x := Hd h_x
  have HBW := Hd b0
  clear b0 p0 p1 h_x
  go_enter Tryz.func11, Tryz.ntmps11
  obtain ⟨W, E⟩ : ∃ W, W = ((w.alloc (.cells #[.bool (decide (x < 0)), .slice A (natL x.natAbs).length c] 24)).alloc (.cells #[.bool false, .slice none 0 0] 24)) := ⟨_, rfl⟩
  go_upto_region 1 with fail
  rw [← E] at V_x P_r0 HBW ⊢
  clear E
  obtain ⟨l_x, a_x, b_x, -, -⟩ := V_x.out.pair.facts
  go_wp2_with fail
  refine (rcheck_fit x A c W V_x.out.raw F_x.out).mono ?_
  rintro e x1 ⟨rfl, hb⟩
  clear l_x a_x b_x
  have V_x := Hd (V_x.out.below hb)
  have P_r0 := Hd (P_r0.out.below hb)
  have HBW := Hd (belowTo HBW.out hb)
  clear hb
  have hs0 : (sg == 0) = false := SG.out
  obtain ⟨l_x, a_x, b_x, -, -⟩ := V_x.out.pair.facts
  go_wp2_with fail
  refine (rsign x sg A c x1 V_x.out.raw HSG.out).mono ?_
  rintro e x2 ⟨rfl, hb⟩
  clear l_x a_x b_x
  have V_x := Hd (V_x.out.below hb)
  have P_r0 := Hd (P_r0.out.below hb)
  have HBW := Hd (belowTo HBW.out hb)
  clear hb
  obtain ⟨l_x, a_x, b_x, -, -⟩ := V_x.out.pair.facts
  obtain ⟨l_r0, a_r0, b_r0, f_r0, g_r0⟩ := P_r0.out.facts
  have HQ := Hd (P_r0.out.store (.bool false) (.slice none 0 0))
  have HB := Hd (below2 HBW.out (show w.heap.size ≤ w.heap.size + 1 by omega) (.bool false) (.slice none 0 0))
  have hq0 := HQ.out.facts
  go_wp2_with fail
  obtain ⟨_, k0, k1, _, _⟩ := HQ.out.facts
  exact bodyPost_ret (by simp [results, Tryz.results11, go_sem, k0, k1]) rfl ⟨.agg #[.bool false, .slice none 0 0], rfl, by rw [HZ.out]; exact IntOwn.nought _ _, HB.out⟩

theorem ref_Shift_up (x z n : Int) (A : Option Addr) (c : Nat) (hx : Fit x) (w : World) (h_x : Raw w A c (natL x.natAbs)) (hx0 : x ≠ 0) (hn : 0 ≤ n) (hl : n ≤ 65536) (hz : z = x * ((2 ^ n.toNat : Nat) : Int)) :
    Calls Tryz.prog 11 #[.agg #[.bool (decide (x < 0)), .slice A (natL x.natAbs).length c], .int .i64 n] w (RetInt2 w.heap.size w (toldV z) (toldE z)) := by
  have F_x := Hd hx
  have HX := Hd hx0
  have HZ := Hd hz
  have hlx : lz x ≤ 2048 := hx
  obtain ⟨sg, hsg⟩ : ∃ k : Int, k = x.sign := ⟨_, rfl⟩
  have HSG := Hd hsg
  have SG := Hd (show (sg == 0) = false from beq_false_of_ne (by rw [hsg]; exact fun e => hx0 (Int.sign_eq_zero_iff_zero.1 e)))
  clear hsg
  have C2 := Hd (fun (V : World) (a : Raw V A c (natL x.natAbs)) => rdouble x z n A c V a (by omega) hx0 hn (by omega) hz)
  clear hx hx0 hz hlx
  have b0 := (((Below.refl w.heap.size w).alloc (Nat.le_refl _) (.cells #[.bool (decide (x < 0)), .slice A (natL x.natAbs).length c] 24)).alloc (by simp) (.cells #[.bool false, .slice none 0 0] 24))
  have p0 := (Pair.new w 24 (.bool (decide (x < 0))) (.slice A (natL x.natAbs).length c)).alloc (.cells #[.bool false, .slice none 0 0] 24)
  have p1 := Pair.new (w.alloc (.cells #[.bool (decide (x < 0)), .slice A (natL x.natAbs).length c] 24)) 24 (.bool false) (.slice none 0 0)
  simp only [World.size_alloc] at p1
  have V_x := Hd (NV.of h_x b0 p0)
  have P_r0 := Hd p1
  have RW_x := Hd h_x
  have HBW := Hd b0
  clear b0 p0 p1 h_x
  go_enter Tryz.func11, Tryz.ntmps11
  obtain ⟨W, E⟩ : ∃ W, W = ((w.alloc (.cells #[.bool (decide (x < 0)), .slice A (natL x.natAbs).length c] 24)).alloc (.cells #[.bool false, .slice none 0 0] 24)) := ⟨_, rfl⟩
  go_upto_region 1 with fail
  rw [← E] at V_x P_r0 HBW ⊢
  clear E
  obtain ⟨l_x, a_x, b_x, -, -⟩ := V_x.out.pair.facts
  go_wp2_with fail
  refine (rcheck_fit x A c W V_x.out.raw F_x.out).mono ?_
  rintro e x1 ⟨rfl, hb⟩
  clear l_x a_x b_x
  have V_x := Hd (V_x.out.below hb)
  have P_r0 := Hd (P_r0.out.below hb)
  have HBW := Hd (belowTo HBW.out hb)
  clear hb
  have hs0 : (sg == 0) = false := SG.out
  obtain ⟨l_x, a_x, b_x, -, -⟩ := V_x.out.pair.facts
  go_wp2_with fail
  refine (rsign x sg A c x1 V_x.out.raw HSG.out).mono ?_
  rintro e x2 ⟨rfl, hb⟩
  clear l_x a_x b_x
  have V_x := Hd (V_x.out.below hb)
  have P_r0 := Hd (P_r0.out.below hb)
  have HBW := Hd (belowTo HBW.out hb)
  clear hb
  have hsz0 := P_r0.out.blk.lt
  obtain ⟨l_x, a_x, b_x, -, -⟩ := V_x.out.pair.facts
  go_wp2_with fail
  refine (C2.out x2 V_x.out.raw).mono ?_
  rintro e wd ⟨v2, rfl, hI2, hb⟩
  clear l_x a_x b_x
  have V_x := Hd (V_x.out.below hb)
  have P_r0 := Hd (P_r0.out.below hb)
  have HBW := Hd (belowTo HBW.out hb)
  have O_2 := Hd hI2
  clear hb hI2
  go_wp2_with fail
  refine (ref_told _ v2 z wd O_2.out).mono ?_
  rintro e w9 ⟨v, rfl, hI, hb⟩
  have hsz := P_r0.out.blk.lt
  obtain ⟨b9, A9, k9, c9, rfl⟩ := hI.shape
  have pr := P_r0.out.below hb
  obtain ⟨q1, q2, q3, q4, q5⟩ := pr.facts
  have HI := Hd (hI.pair (g := w.heap.size + 1) (a := .bool b9) (b := .slice A9 k9 c9) (by omega))
  have HB := Hd (below2 (belowTo HBW.out hb) (show w.heap.size ≤ w.heap.size + 1 by omega) (.bool b9) (.slice A9 k9 c9))
  have HQ := Hd (pr.store (.bool b9) (.slice A9 k9 c9))
  clear hI hb pr
  go_wp2_with fail
  obtain ⟨_, k0, k1, _, _⟩ := HQ.out.facts
  exact bodyPost_ret (by simp [results, Tryz.results11, go_sem, k0, k1]) rfl ⟨_, rfl, HI.out.base (by omega), HB.out⟩

theorem ref_Shift_z (x n : Int) (A : Option Addr) (c : Nat) (hx : Fit x) (w : World) (h : Raw w A c (natL x.natAbs)) :
    Calls Tryz.prog 11 #[.agg #[.bool (decide (x < 0)), .slice A (natL x.natAbs).length c], .int .i64 n] w (RetInt2 w.heap.size w (shiftV x n) (shiftE x n)) := by
  unfold shiftV shiftE
  by_cases hx0 : x = 0
  · rw [if_pos hx0, if_neg (by simp [hx0])]
    exact ref_Shift_nought x 0 n A c hx w h hx0 rfl
  · rw [if_neg hx0]
    have hp := bz_pos hx0
    rcases (by omega : n < -65536 ∨ (n < 0 ∧ -65536 ≤ n) ∨ (0 ≤ n ∧ n ≤ 65536) ∨ 65536 < n) with hn | ⟨hn, hn2⟩ | ⟨hn, hn2⟩ | hn
    · rw [if_pos (by omega), if_neg (by omega)]
      refine ref_Shift_far x _ n A c hx w h hx0 hn ?_
      rw [show min (-n) 65536 = 65536 by omega]
    · rw [if_pos (by omega), if_neg (by omega)]
      refine ref_Shift_down x _ n A c hx w h hx0 hn hn2 ?_
      rw [show min (-n) 65536 = -n by omega]
    · rw [if_neg (show ¬ n < 0 by omega)]
      have h1 := ref_Shift_up x _ n A c hx w h hx0 hn hn2 rfl
      have hd := bz_double hx0 n.toNat
      by_cases hl : 65536 < (bz x : Int) + n
      · rw [if_pos hl, if_pos ⟨hx0, hn, hl⟩]
        have hf : ¬ Fit (x * ((2 ^ n.toNat : Nat) : Int)) := fun e => by have := hd.1 e; omega
        rw [toldV_long (by unfold Fit at hf; omega), toldE_long (by unfold Fit at hf; omega)] at h1
        exact h1
      · rw [if_neg hl, if_neg (fun e => hl e.2.2)]
        have hf : Fit (x * ((2 ^ n.toNat : Nat) : Int)) := hd.2 (by omega)
        rw [toldV_fits hf, toldE_fits hf] at h1
        exact h1
    · rw [if_neg (show ¬ n < 0 by omega), if_pos (by omega), if_pos ⟨hx0, by omega, by omega⟩]
      exact ref_Shift_above x 0 n A c hx w h hx0 hn rfl
/- Root of package whole. (Written by wip/exact/genwroot.py.) -/

def RetRoot3 (base : Nat) (w : World) (r : Int) (sq : Bool) (k : Int) (e : Ending) (w' : World) : Prop := ∃ v, e = .returned (.tuple #[v, .bool sq, .int .i64 k]) ∧ IntOwn w' base v r ∧ Below w.heap.size w w'
theorem exact_Root_z (x r : Int) (sq : Bool) (A : Option Addr) (c : Nat) (w : World) (h : Raw w A c (natL x.natAbs)) (hx : lz x ≤ 60000) (h0 : 0 ≤ x) (hr : IsRootZ x r) (hs : sq = decide (r * r = x)) :
    Calls Tryz.prog 30 #[.agg #[.bool (decide (x < 0)), .slice A (natL x.natAbs).length c]] w (RetRoot w.heap.size w r sq) := by
  by_cases hx0 : x = 0
  · have e : r = 0 := rootZ_one h0 hr (by subst hx0; exact ⟨by omega, by omega, by omega⟩)
    have e2 : sq = true := by rw [hs, e, hx0]; rfl
    rw [e, e2]
    exact exact_Root_nought x A c w h hx0
  · by_cases hq : r * r = x
    · have e2 : sq = true := by rw [hs]; exact decide_eq_true hq
      rw [e2]; exact exact_Root_same x r A c w h hx (by omega) hr hq
    · have e2 : sq = false := by rw [hs]; exact decide_eq_false hq
      rw [e2]; exact exact_Root_less x r A c w h hx (by omega) hr hq

theorem whole_Root_ok (x r : Int) (sq : Bool) (A : Option Addr) (c : Nat) (hx : Fit x) (w : World) (h_x : Raw w A c (natL x.natAbs)) (h0 : 0 ≤ x) (hr : IsRootZ x r) (hs : sq = decide (r * r = x)) :
    Calls Tryz.prog 8 #[.agg #[.bool (decide (x < 0)), .slice A (natL x.natAbs).length c]] w (RetRoot3 w.heap.size w r sq 0) := by
  have hng : decide (x < 0) = false := decide_eq_false (by omega)
  have C1 := Hd (fun (V : World) (a : Raw V A c (natL x.natAbs)) => exact_Root_z x r sq A c V a (Nat.le_trans hx (by decide)) h0 hr hs)
  have C0 := Hd (fun (V : World) (a : Raw V A c (natL x.natAbs)) => echeck_fit x A c V a hx)
  rw [hng] at C1 C0
  have HNG := Hd hng
  clear hx h0 hr hs hng
  have b0 := (((Below.refl w.heap.size w).alloc (Nat.le_refl _) (.cells #[.bool (decide (x < 0)), .slice A (natL x.natAbs).length c] 24)).alloc (by simp) (.cells #[.bool false, .slice none 0 0] 24))
  have p0 := (Pair.new w 24 (.bool (decide (x < 0))) (.slice A (natL x.natAbs).length c)).alloc (.cells #[.bool false, .slice none 0 0] 24)
  have p1 := Pair.new (w.alloc (.cells #[.bool (decide (x < 0)), .slice A (natL x.natAbs).length c] 24)) 24 (.bool false) (.slice none 0 0)
  simp only [World.size_alloc] at p1
  have V_x := Hd (NV.of h_x b0 p0)
  have P_r0 := Hd p1
  have RW_x := Hd h_x
  have HBW := Hd b0
  clear b0 p0 p1 h_x
  go_enter Tryz.func8, Tryz.ntmps8
  obtain ⟨W, E⟩ : ∃ W, W = ((w.alloc (.cells #[.bool (decide (x < 0)), .slice A (natL x.natAbs).length c] 24)).alloc (.cells #[.bool false, .slice none 0 0] 24)) := ⟨_, rfl⟩
  go_upto_region 1 with fail
  rw [← E] at V_x P_r0 HBW ⊢
  clear E
  have hng := HNG.out
  obtain ⟨l_x, a_x, b_x, -, -⟩ := V_x.out.pair.facts
  go_wp2_with fail
  refine (C0.out W V_x.out.raw).mono ?_
  rintro e x1 ⟨rfl, hb⟩
  clear l_x a_x b_x
  have V_x := Hd (V_x.out.below hb)
  have P_r0 := Hd (P_r0.out.below hb)
  have HBW := Hd (belowTo HBW.out hb)
  clear hb
  obtain ⟨l_x, a_x, b_x, -, -⟩ := V_x.out.pair.facts
  go_wp2_with fail
  refine (C1.out x1 V_x.out.raw).mono ?_
  rintro e w9 ⟨v, rfl, hI, hb⟩
  clear l_x a_x b_x
  have hsz := P_r0.out.blk.lt
  obtain ⟨b9, A9, k9, c9, rfl⟩ := hI.shape
  have pr := P_r0.out.below hb
  obtain ⟨q1, q2, q3, q4, q5⟩ := pr.facts
  have HI := Hd (hI.pair (g := w.heap.size + 1) (a := .bool b9) (b := .slice A9 k9 c9) (by omega))
  have HB := Hd (below2 (belowTo HBW.out hb) (show w.heap.size ≤ w.heap.size + 1 by omega) (.bool b9) (.slice A9 k9 c9))
  have HQ := Hd (pr.store (.bool b9) (.slice A9 k9 c9))
  have hbs : w.heap.size ≤ x1.heap.size := by omega
  clear hI hb pr hsz
  go_upto_region 4 with fail
  obtain ⟨Y, E⟩ : ∃ Y, Y = (w9.setCell ⟨w.heap.size + 1, 0, none⟩ (.bool b9)).setCell ⟨w.heap.size + 1, 1, none⟩ (.slice A9 k9 c9) := ⟨_, rfl⟩
  rw [← E] at HI HB HQ ⊢
  clear E q1 q2 q3 q4 q5
  obtain ⟨q1, q2, q3, q4, q5⟩ := HQ.out.facts
  have hset := set_same2 HQ.out
  go_wp2_with fail
  exact bodyPost_ret (by simp [results, Tryz.results8, go_sem, q2, q3]) rfl ⟨.agg #[.bool b9, .slice A9 k9 c9], rfl, HI.out.base hbs, HB.out⟩
/- RootOf of the references. (Written by wip/exact/genwroot.py.) -/
theorem ref_Root_z (x r : Int) (sq : Bool) (A : Option Addr) (c : Nat) (w : World) (h : Raw w A c (natL x.natAbs)) (hx : lz x ≤ 60000) (h0 : 0 ≤ x) (hr : IsRootZ x r) (hs : sq = decide (r * r = x)) :
    Calls Tryz.prog 35 #[.agg #[.bool (decide (x < 0)), .slice A (natL x.natAbs).length c]] w (RetRoot w.heap.size w r sq) := by
  by_cases hx0 : x = 0
  · have e : r = 0 := rootZ_one h0 hr (by subst hx0; exact ⟨by omega, by omega, by omega⟩)
    have e2 : sq = true := by rw [hs, e, hx0]; rfl
    rw [e, e2]
    exact ref_Root_nought x A c w h hx0
  · by_cases hq : r * r = x
    · have e2 : sq = true := by rw [hs]; exact decide_eq_true hq
      rw [e2]; exact ref_Root_same x r A c w h hx (by omega) hr hq
    · have e2 : sq = false := by rw [hs]; exact decide_eq_false hq
      rw [e2]; exact ref_Root_less x r A c w h hx (by omega) hr hq

theorem ref_RootOf_ok (x r : Int) (sq : Bool) (A : Option Addr) (c : Nat) (hx : Fit x) (w : World) (h_x : Raw w A c (natL x.natAbs)) (h0 : 0 ≤ x) (hr : IsRootZ x r) (hs : sq = decide (r * r = x)) :
    Calls Tryz.prog 10 #[.agg #[.bool (decide (x < 0)), .slice A (natL x.natAbs).length c]] w (RetRoot3 w.heap.size w r sq 0) := by
  have hng : decide (x < 0) = false := decide_eq_false (by omega)
  have C1 := Hd (fun (V : World) (a : Raw V A c (natL x.natAbs)) => ref_Root_z x r sq A c V a (Nat.le_trans hx (by decide)) h0 hr hs)
  have C0 := Hd (fun (V : World) (a : Raw V A c (natL x.natAbs)) => rcheck_fit x A c V a hx)
  rw [hng] at C1 C0
  have HNG := Hd hng
  clear hx h0 hr hs hng
  have b0 := (((Below.refl w.heap.size w).alloc (Nat.le_refl _) (.cells #[.bool (decide (x < 0)), .slice A (natL x.natAbs).length c] 24)).alloc (by simp) (.cells #[.bool false, .slice none 0 0] 24))
  have p0 := (Pair.new w 24 (.bool (decide (x < 0))) (.slice A (natL x.natAbs).length c)).alloc (.cells #[.bool false, .slice none 0 0] 24)
  have p1 := Pair.new (w.alloc (.cells #[.bool (decide (x < 0)), .slice A (natL x.natAbs).length c] 24)) 24 (.bool false) (.slice none 0 0)
  simp only [World.size_alloc] at p1
  have V_x := Hd (NV.of h_x b0 p0)
  have P_r0 := Hd p1
  have RW_x := Hd h_x
  have HBW := Hd b0
  clear b0 p0 p1 h_x
  go_enter Tryz.func10, Tryz.ntmps10
  obtain ⟨W, E⟩ : ∃ W, W = ((w.alloc (.cells #[.bool (decide (x < 0)), .slice A (natL x.natAbs).length c] 24)).alloc (.cells #[.bool false, .slice none 0 0] 24)) := ⟨_, rfl⟩
  go_upto_region 1 with fail
  rw [← E] at V_x P_r0 HBW ⊢
  clear E
  have hng := HNG.out
  obtain ⟨l_x, a_x, b_x, -, -⟩ := V_x.out.pair.facts
  go_wp2_with fail
  refine (C0.out W V_x.out.raw).mono ?_
  rintro e x1 ⟨rfl, hb⟩
  clear l_x a_x b_x
  have V_x := Hd (V_x.out.below hb)
  have P_r0 := Hd (P_r0.out.below hb)
  have HBW := Hd (belowTo HBW.out hb)
  clear hb
  obtain ⟨l_x, a_x, b_x, -, -⟩ := V_x.out.pair.facts
  go_wp2_with fail
  refine (C1.out x1 V_x.out.raw).mono ?_
  rintro e w9 ⟨v, rfl, hI, hb⟩
  clear l_x a_x b_x
  obtain ⟨A9, c9, rfl, r9⟩ := hI.raw
  have hbs : w.heap.size ≤ x1.heap.size := HBW.out.size
  have V_x := Hd (V_x.out.below hb)
  have P_r0 := Hd (P_r0.out.below hb)
  have HBW := Hd (belowTo HBW.out hb)
  have R_r := Hd r9
  have O_r := Hd (hI.base hbs)
  clear hb hI r9 hbs
  go_upto_region 4 with fail
  have ha := ((Below.refl w9.heap.size w9).alloc (Nat.le_refl _) (.cells #[.bool (decide (r < 0)), .slice A9 (natL r.natAbs).length c9] 24))
  have p_r := (Pair.new w9 24 (.bool (decide (r < 0))) (.slice A9 (natL r.natAbs).length c9))
  obtain ⟨y2, E⟩ : ∃ W, W = (w9.alloc (.cells #[.bool (decide (r < 0)), .slice A9 (natL r.natAbs).length c9] 24)) := ⟨_, rfl⟩
  rw [← E] at ha p_r ⊢
  have V_r := Hd (NV.of R_r.out ha p_r)
  have V_x := Hd (V_x.out.below ha)
  have P_r0 := Hd (P_r0.out.below ha)
  have O_r := Hd (O_r.out.below ha)
  have HBW := Hd (belowTo HBW.out ha)
  obtain ⟨g2, hg⟩ : ∃ g, g = w9.heap.size := ⟨_, rfl⟩
  rw [← hg] at V_r ⊢
  clear E ha hg p_r
  obtain ⟨l_r, a_r, b_r, -, -⟩ := V_r.out.pair.facts
  obtain ⟨l_r0, a_r0, b_r0, f_r0, g_r0⟩ := P_r0.out.facts
  have HI := Hd (O_r.out.pairT P_r0.out (.bool (decide (r < 0))) (.slice A9 (natL r.natAbs).length c9))
  have HB := Hd (below2 HBW.out (show w.heap.size ≤ w.heap.size + 1 by omega) (.bool (decide (r < 0))) (.slice A9 (natL r.natAbs).length c9))
  have HQ := Hd (P_r0.out.store (.bool (decide (r < 0))) (.slice A9 (natL r.natAbs).length c9))
  go_wp2_with fail
  obtain ⟨_, k0, k1, _, _⟩ := HQ.out.facts
  exact bodyPost_ret (by simp [results, Tryz.results10, go_sem, k0, k1]) rfl ⟨.agg #[.bool (decide (r < 0)), .slice A9 (natL r.natAbs).length c9], rfl, HI.out, HB.out⟩
/- Root and Shift of package whole and of the references, of whatever limbs and sign: alike. (Written by wip/whole/genroots0.py.) -/

theorem whole_Root_bad (n1 : Bool) (A : Option Addr) (c : Nat) (xs : List Nat) (w : World) (h_x : Raw w A c xs) (ho : okI n1 xs = false) :
    Calls Tryz.prog 8 #[.agg #[.bool n1, .slice A xs.length c]] w (RetRoot3 w.heap.size w 0 false 1) := by
  have C0 := Hd (fun (V : World) (a : Raw V A c xs) => show Calls Tryz.prog 29 #[.agg #[.bool n1, .slice A xs.length c]] V fun e w' => e = .returned (.int .i64 1) ∧ Below V.heap.size V w' from by
    have := exact_Check_any n1 A c xs V a
    unfold errI at this
    rw [ho] at this
    exact this)
  clear ho
  have b0 := (((Below.refl w.heap.size w).alloc (Nat.le_refl _) (.cells #[.bool n1, .slice A xs.length c] 24)).alloc (by simp) (.cells #[.bool false, .slice none 0 0] 24))
  have p0 := (Pair.new w 24 (.bool n1) (.slice A xs.length c)).alloc (.cells #[.bool false, .slice none 0 0] 24)
  have p1 := Pair.new (w.alloc (.cells #[.bool n1, .slice A xs.length c] 24)) 24 (.bool false) (.slice none 0 0)
  simp only [World.size_alloc] at p1
  have V_x := Hd (NR.of h_x b0 p0)
  have P_r0 := Hd p1
  have RW_x := Hd h_x
  have HBW := Hd b0
  clear b0 p0 p1 h_x
  go_enter Tryz.func8, Tryz.ntmps8
  obtain ⟨W, E⟩ : ∃ W, W = ((w.alloc (.cells #[.bool n1, .slice A xs.length c] 24)).alloc (.cells #[.bool false, .slice none 0 0] 24)) := ⟨_, rfl⟩
  go_upto_region 1 with fail
  rw [← E] at V_x P_r0 HBW ⊢
  clear E
  obtain ⟨l_x, a_x, b_x, -, -⟩ := V_x.out.pair.facts
  go_wp2_with fail
  refine (C0.out W V_x.out.raw).mono ?_
  rintro e x1 ⟨rfl, hb⟩
  clear l_x a_x b_x
  have V_x := Hd (V_x.out.below hb)
  have P_r0 := Hd (P_r0.out.below hb)
  have HBW := Hd (belowTo HBW.out hb)
  clear hb
  obtain ⟨l_r0, a_r0, b_r0, f_r0, g_r0⟩ := P_r0.out.facts
  have HQ := Hd (P_r0.out.store (.bool false) (.slice none 0 0))
  have HB := Hd (below2 HBW.out (show w.heap.size ≤ w.heap.size + 1 by omega) (.bool false) (.slice none 0 0))
  have hq0 := HQ.out.facts
  go_wp2_with fail
  obtain ⟨_, k0, k1, _, _⟩ := HQ.out.facts
  exact bodyPost_ret (by simp [results, Tryz.results8, go_sem, k0, k1]) rfl ⟨.agg #[.bool false, .slice none 0 0], rfl, IntOwn.nought _ _, HB.out⟩

theorem whole_Root_neg (x : Int) (A : Option Addr) (c : Nat) (w : World) (h_x : Raw w A c (natL x.natAbs)) (hx : Fit x) (hn : x < 0) :
    Calls Tryz.prog 8 #[.agg #[.bool (decide (x < 0)), .slice A (natL x.natAbs).length c]] w (RetRoot3 w.heap.size w 0 false 1) := by
  have HNG := Hd (show decide (x < 0) = true from decide_eq_true hn)
  have C0 := fun (V : World) (a : Raw V A c (natL x.natAbs)) => echeck_fit x A c V a hx
  rw [HNG.out] at C0
  have H0 := Hd C0
  clear hx hn C0
  have b0 := (((Below.refl w.heap.size w).alloc (Nat.le_refl _) (.cells #[.bool (decide (x < 0)), .slice A (natL x.natAbs).length c] 24)).alloc (by simp) (.cells #[.bool false, .slice none 0 0] 24))
  have p0 := (Pair.new w 24 (.bool (decide (x < 0))) (.slice A (natL x.natAbs).length c)).alloc (.cells #[.bool false, .slice none 0 0] 24)
  have p1 := Pair.new (w.alloc (.cells #[.bool (decide (x < 0)), .slice A (natL x.natAbs).length c] 24)) 24 (.bool false) (.slice none 0 0)
  simp only [World.size_alloc] at p1
  have V_x := Hd (NV.of h_x b0 p0)
  have P_r0 := Hd p1
  have RW_x := Hd h_x
  have HBW := Hd b0
  clear b0 p0 p1 h_x
  go_enter Tryz.func8, Tryz.ntmps8
  obtain ⟨W, E⟩ : ∃ W, W = ((w.alloc (.cells #[.bool (decide (x < 0)), .slice A (natL x.natAbs).length c] 24)).alloc (.cells #[.bool false, .slice none 0 0] 24)) := ⟨_, rfl⟩
  go_upto_region 1 with fail
  rw [← E] at V_x P_r0 HBW ⊢
  clear E
  have hng := HNG.out
  obtain ⟨l_x, a_x, b_x, -, -⟩ := V_x.out.pair.facts
  go_wp2_with fail
  refine (H0.out W V_x.out.raw).mono ?_
  rintro e x1 ⟨rfl, hb⟩
  clear l_x a_x b_x
  have V_x := Hd (V_x.out.below hb)
  have P_r0 := Hd (P_r0.out.below hb)
  have HBW := Hd (belowTo HBW.out hb)
  clear hb
  obtain ⟨l_x, a_x, b_x, -, -⟩ := V_x.out.pair.facts
  obtain ⟨l_r0, a_r0, b_r0, f_r0, g_r0⟩ := P_r0.out.facts
  have HQ := Hd (P_r0.out.store (.bool false) (.slice none 0 0))
  have HB := Hd (below2 HBW.out (show w.heap.size ≤ w.heap.size + 1 by omega) (.bool false) (.slice none 0 0))
  have hq0 := HQ.out.facts
  go_wp2_with fail
  obtain ⟨_, k0, k1, _, _⟩ := HQ.out.facts
  exact bodyPost_ret (by simp [results, Tryz.results8, go_sem, k0, k1]) rfl ⟨.agg #[.bool false, .slice none 0 0], rfl, IntOwn.nought _ _, HB.out⟩

theorem ref_RootOf_bad (n1 : Bool) (A : Option Addr) (c : Nat) (xs : List Nat) (w : World) (h_x : Raw w A c xs) (ho : okI n1 xs = false) :
    Calls Tryz.prog 10 #[.agg #[.bool n1, .slice A xs.length c]] w (RetRoot3 w.heap.size w 0 false 1) := by
  have C0 := Hd (fun (V : World) (a : Raw V A c xs) => show Calls Tryz.prog 34 #[.agg #[.bool n1, .slice A xs.length c]] V fun e w' => e = .returned (.int .i64 1) ∧ Below V.heap.size V w' from by
    have := ref_Check_any n1 A c xs V a
    unfold errI at this
    rw [ho] at this
    exact this)
  clear ho
  have b0 := (((Below.refl w.heap.size w).alloc (Nat.le_refl _) (.cells #[.bool n1, .slice A xs.length c] 24)).alloc (by simp) (.cells #[.bool false, .slice none 0 0] 24))
  have p0 := (Pair.new w 24 (.bool n1) (.slice A xs.length c)).alloc (.cells #[.bool false, .slice none 0 0] 24)
  have p1 := Pair.new (w.alloc (.cells #[.bool n1, .slice A xs.length c] 24)) 24 (.bool false) (.slice none 0 0)
  simp only [World.size_alloc] at p1
  have V_x := Hd (NR.of h_x b0 p0)
  have P_r0 := Hd p1
  have RW_x := Hd h_x
  have HBW := Hd b0
  clear b0 p0 p1 h_x
  go_enter Tryz.func10, Tryz.ntmps10
  obtain ⟨W, E⟩ : ∃ W, W = ((w.alloc (.cells #[.bool n1, .slice A xs.length c] 24)).alloc (.cells #[.bool false, .slice none 0 0] 24)) := ⟨_, rfl⟩
  go_upto_region 1 with fail
  rw [← E] at V_x P_r0 HBW ⊢
  clear E
  obtain ⟨l_x, a_x, b_x, -, -⟩ := V_x.out.pair.facts
  go_wp2_with fail
  refine (C0.out W V_x.out.raw).mono ?_
  rintro e x1 ⟨rfl, hb⟩
  clear l_x a_x b_x
  have V_x := Hd (V_x.out.below hb)
  have P_r0 := Hd (P_r0.out.below hb)
  have HBW := Hd (belowTo HBW.out hb)
  clear hb
  obtain ⟨l_r0, a_r0, b_r0, f_r0, g_r0⟩ := P_r0.out.facts
  have HQ := Hd (P_r0.out.store (.bool false) (.slice none 0 0))
  have HB := Hd (below2 HBW.out (show w.heap.size ≤ w.heap.size + 1 by omega) (.bool false) (.slice none 0 0))
  have hq0 := HQ.out.facts
  go_wp2_with fail
  obtain ⟨_, k0, k1, _, _⟩ := HQ.out.facts
  exact bodyPost_ret (by simp [results, Tryz.results10, go_sem, k0, k1]) rfl ⟨.agg #[.bool false, .slice none 0 0], rfl, IntOwn.nought _ _, HB.out⟩

theorem ref_RootOf_neg (x : Int) (A : Option Addr) (c : Nat) (w : World) (h_x : Raw w A c (natL x.natAbs)) (hx : Fit x) (hn : x < 0) :
    Calls Tryz.prog 10 #[.agg #[.bool (decide (x < 0)), .slice A (natL x.natAbs).length c]] w (RetRoot3 w.heap.size w 0 false 1) := by
  have HNG := Hd (show decide (x < 0) = true from decide_eq_true hn)
  have C0 := fun (V : World) (a : Raw V A c (natL x.natAbs)) => rcheck_fit x A c V a hx
  rw [HNG.out] at C0
  have H0 := Hd C0
  clear hx hn C0
  have b0 := (((Below.refl w.heap.size w).alloc (Nat.le_refl _) (.cells #[.bool (decide (x < 0)), .slice A (natL x.natAbs).length c] 24)).alloc (by simp) (.cells #[.bool false, .slice none 0 0] 24))
  have p0 := (Pair.new w 24 (.bool (decide (x < 0))) (.slice A (natL x.natAbs).length c)).alloc (.cells #[.bool false, .slice none 0 0] 24)
  have p1 := Pair.new (w.alloc (.cells #[.bool (decide (x < 0)), .slice A (natL x.natAbs).length c] 24)) 24 (.bool false) (.slice none 0 0)
  simp only [World.size_alloc] at p1
  have V_x := Hd (NV.of h_x b0 p0)
  have P_r0 := Hd p1
  have RW_x := Hd h_x
  have HBW := Hd b0
  clear b0 p0 p1 h_x
  go_enter Tryz.func10, Tryz.ntmps10
  obtain ⟨W, E⟩ : ∃ W, W = ((w.alloc (.cells #[.bool (decide (x < 0)), .slice A (natL x.natAbs).length c] 24)).alloc (.cells #[.bool false, .slice none 0 0] 24)) := ⟨_, rfl⟩
  go_upto_region 1 with fail
  rw [← E] at V_x P_r0 HBW ⊢
  clear E
  have hng := HNG.out
  obtain ⟨l_x, a_x, b_x, -, -⟩ := V_x.out.pair.facts
  go_wp2_with fail
  refine (H0.out W V_x.out.raw).mono ?_
  rintro e x1 ⟨rfl, hb⟩
  clear l_x a_x b_x
  have V_x := Hd (V_x.out.below hb)
  have P_r0 := Hd (P_r0.out.below hb)
  have HBW := Hd (belowTo HBW.out hb)
  clear hb
  obtain ⟨l_x, a_x, b_x, -, -⟩ := V_x.out.pair.facts
  obtain ⟨l_r0, a_r0, b_r0, f_r0, g_r0⟩ := P_r0.out.facts
  have HQ := Hd (P_r0.out.store (.bool false) (.slice none 0 0))
  have HB := Hd (below2 HBW.out (show w.heap.size ≤ w.heap.size + 1 by omega) (.bool false) (.slice none 0 0))
  have hq0 := HQ.out.facts
  go_wp2_with fail
  obtain ⟨_, k0, k1, _, _⟩ := HQ.out.facts
  exact bodyPost_ret (by simp [results, Tryz.results10, go_sem, k0, k1]) rfl ⟨.agg #[.bool false, .slice none 0 0], rfl, IntOwn.nought _ _, HB.out⟩

theorem whole_Shift_bad (n1 : Bool) (A : Option Addr) (c : Nat) (xs : List Nat) (n : Int) (w : World) (h_x : Raw w A c xs) (ho : okI n1 xs = false) :
    Calls Tryz.prog 9 #[.agg #[.bool n1, .slice A xs.length c], .int .i64 n] w (RetInt2 w.heap.size w 0 1) := by
  have C0 := Hd (fun (V : World) (a : Raw V A c xs) => show Calls Tryz.prog 29 #[.agg #[.bool n1, .slice A xs.length c]] V fun e w' => e = .returned (.int .i64 1) ∧ Below V.heap.size V w' from by
    have := exact_Check_any n1 A c xs V a
    unfold errI at this
    rw [ho] at this
    exact this)
  clear ho
  have b0 := (((Below.refl w.heap.size w).alloc (Nat.le_refl _) (.cells #[.bool n1, .slice A xs.length c] 24)).alloc (by simp) (.cells #[.bool false, .slice none 0 0] 24))
  have p0 := (Pair.new w 24 (.bool n1) (.slice A xs.length c)).alloc (.cells #[.bool false, .slice none 0 0] 24)
  have p1 := Pair.new (w.alloc (.cells #[.bool n1, .slice A xs.length c] 24)) 24 (.bool false) (.slice none 0 0)
  simp only [World.size_alloc] at p1
  have V_x := Hd (NR.of h_x b0 p0)
  have P_r0 := Hd p1
  have RW_x := Hd h_x
  have HBW := Hd b0
  clear b0 p0 p1 h_x
  go_enter Tryz.func9, Tryz.ntmps9
  obtain ⟨W, E⟩ : ∃ W, W = ((w.alloc (.cells #[.bool n1, .slice A xs.length c] 24)).alloc (.cells #[.bool false, .slice none 0 0] 24)) := ⟨_, rfl⟩
  go_upto_region 1 with fail
  rw [← E] at V_x P_r0 HBW ⊢
  clear E
  obtain ⟨l_x, a_x, b_x, -, -⟩ := V_x.out.pair.facts
  go_wp2_with fail
  refine (C0.out W V_x.out.raw).mono ?_
  rintro e x1 ⟨rfl, hb⟩
  clear l_x a_x b_x
  have V_x := Hd (V_x.out.below hb)
  have P_r0 := Hd (P_r0.out.below hb)
  have HBW := Hd (belowTo HBW.out hb)
  clear hb
  obtain ⟨l_r0, a_r0, b_r0, f_r0, g_r0⟩ := P_r0.out.facts
  have HQ := Hd (P_r0.out.store (.bool false) (.slice none 0 0))
  have HB := Hd (below2 HBW.out (show w.heap.size ≤ w.heap.size + 1 by omega) (.bool false) (.slice none 0 0))
  have hq0 := HQ.out.facts
  go_wp2_with fail
  obtain ⟨_, k0, k1, _, _⟩ := HQ.out.facts
  exact bodyPost_ret (by simp [results, Tryz.results9, go_sem, k0, k1]) rfl ⟨.agg #[.bool false, .slice none 0 0], rfl, IntOwn.nought _ _, HB.out⟩

theorem ref_Shift_bad (n1 : Bool) (A : Option Addr) (c : Nat) (xs : List Nat) (n : Int) (w : World) (h_x : Raw w A c xs) (ho : okI n1 xs = false) :
    Calls Tryz.prog 11 #[.agg #[.bool n1, .slice A xs.length c], .int .i64 n] w (RetInt2 w.heap.size w 0 1) := by
  have C0 := Hd (fun (V : World) (a : Raw V A c xs) => show Calls Tryz.prog 34 #[.agg #[.bool n1, .slice A xs.length c]] V fun e w' => e = .returned (.int .i64 1) ∧ Below V.heap.size V w' from by
    have := ref_Check_any n1 A c xs V a
    unfold errI at this
    rw [ho] at this
    exact this)
  clear ho
  have b0 := (((Below.refl w.heap.size w).alloc (Nat.le_refl _) (.cells #[.bool n1, .slice A xs.length c] 24)).alloc (by simp) (.cells #[.bool false, .slice none 0 0] 24))
  have p0 := (Pair.new w 24 (.bool n1) (.slice A xs.length c)).alloc (.cells #[.bool false, .slice none 0 0] 24)
  have p1 := Pair.new (w.alloc (.cells #[.bool n1, .slice A xs.length c] 24)) 24 (.bool false) (.slice none 0 0)
  simp only [World.size_alloc] at p1
  have V_x := Hd (NR.of h_x b0 p0)
  have P_r0 := Hd p1
  have RW_x := Hd h_x
  have HBW := Hd b0
  clear b0 p0 p1 h_x
  go_enter Tryz.func11, Tryz.ntmps11
  obtain ⟨W, E⟩ : ∃ W, W = ((w.alloc (.cells #[.bool n1, .slice A xs.length c] 24)).alloc (.cells #[.bool false, .slice none 0 0] 24)) := ⟨_, rfl⟩
  go_upto_region 1 with fail
  rw [← E] at V_x P_r0 HBW ⊢
  clear E
  obtain ⟨l_x, a_x, b_x, -, -⟩ := V_x.out.pair.facts
  go_wp2_with fail
  refine (C0.out W V_x.out.raw).mono ?_
  rintro e x1 ⟨rfl, hb⟩
  clear l_x a_x b_x
  have V_x := Hd (V_x.out.below hb)
  have P_r0 := Hd (P_r0.out.below hb)
  have HBW := Hd (belowTo HBW.out hb)
  clear hb
  obtain ⟨l_r0, a_r0, b_r0, f_r0, g_r0⟩ := P_r0.out.facts
  have HQ := Hd (P_r0.out.store (.bool false) (.slice none 0 0))
  have HB := Hd (below2 HBW.out (show w.heap.size ≤ w.heap.size + 1 by omega) (.bool false) (.slice none 0 0))
  have hq0 := HQ.out.facts
  go_wp2_with fail
  obtain ⟨_, k0, k1, _, _⟩ := HQ.out.facts
  exact bodyPost_ret (by simp [results, Tryz.results11, go_sem, k0, k1]) rfl ⟨.agg #[.bool false, .slice none 0 0], rfl, IntOwn.nought _ _, HB.out⟩

theorem roots_alike (n1 : Bool) (xs : List Nat) (hl : Limbs xs) : ∃ (r : Int) (sq : Bool) (k : Int), lz r ≤ 2048 ∧
    (∀ (A : Option Addr) (c : Nat) (w : World), Raw w A c xs → Calls Tryz.prog 8 #[.agg #[.bool n1, .slice A xs.length c]] w (RetRoot3 w.heap.size w r sq k)) ∧
    (∀ (A : Option Addr) (c : Nat) (w : World), Raw w A c xs → Calls Tryz.prog 10 #[.agg #[.bool n1, .slice A xs.length c]] w (RetRoot3 w.heap.size w r sq k)) := by
  by_cases o1 : okI n1 xs = true
  · obtain ⟨e1, e2, e3⟩ := ok_num hl o1
    generalize ival n1 xs = x at *
    subst e1 e2
    rcases (by omega : x < 0 ∨ 0 ≤ x) with hn | hn
    · exact ⟨0, false, 1, by decide, fun A c w h => whole_Root_neg x A c w h e3 hn, fun A c w h => ref_RootOf_neg x A c w h e3 hn⟩
    · obtain ⟨r, hr⟩ := rootZ_ex hn
      exact ⟨r, decide (r * r = x), 0, Nat.le_trans (lz_mono (by have := rootZ_le hr; have := hr.1; omega)) e3, fun A c w h => whole_Root_ok x r _ A c e3 w h hn hr rfl, fun A c w h => ref_RootOf_ok x r _ A c e3 w h hn hr rfl⟩
  · have o2 : okI n1 xs = false := by simpa using o1
    exact ⟨0, false, 1, by decide, fun A c w h => whole_Root_bad n1 A c xs w h o2, fun A c w h => ref_RootOf_bad n1 A c xs w h o2⟩
theorem shift_lz {x : Int} (hx : Fit x) (n : Int) : lz (shiftV x n) ≤ 2048 := by
  unfold shiftV
  split
  · decide
  · rename_i h0
    split
    · refine Nat.le_trans (lz_mono ?_) hx
      exact ediv_abs _ _
    · split
      · decide
      · rename_i h1 h2
        exact (bz_double h0 n.toNat).2 (by omega)
theorem shifts_alike (n1 : Bool) (xs : List Nat) (n : Int) (h1 : -9223372036854775808 ≤ n) (h2 : n ≤ 9223372036854775807) (hl : Limbs xs) : ∃ (z k : Int), lz z ≤ 2048 ∧
    (∀ (A : Option Addr) (c : Nat) (w : World), Raw w A c xs → Calls Tryz.prog 9 #[.agg #[.bool n1, .slice A xs.length c], .int .i64 n] w (RetInt2 w.heap.size w z k)) ∧
    (∀ (A : Option Addr) (c : Nat) (w : World), Raw w A c xs → Calls Tryz.prog 11 #[.agg #[.bool n1, .slice A xs.length c], .int .i64 n] w (RetInt2 w.heap.size w z k)) := by
  by_cases o1 : okI n1 xs = true
  · obtain ⟨e1, e2, e3⟩ := ok_num hl o1
    generalize ival n1 xs = x at *
    subst e1 e2
    exact ⟨shiftV x n, shiftE x n, shift_lz e3 n, fun A c w h => whole_Shift_z x n A c e3 h1 h2 w h, fun A c w h => ref_Shift_z x n A c e3 w h⟩
  · have o2 : okI n1 xs = false := by simpa using o1
    exact ⟨0, 1, by decide, fun A c w h => whole_Shift_bad n1 A c xs n w h o2, fun A c w h => ref_Shift_bad n1 A c xs n w h o2⟩
end Go.Proofs.YtkncbenhfcpgkaaGreatDoor
