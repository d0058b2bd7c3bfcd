/- Several texts in one: Lensq1, BitsLzq1, Shiftq1. -/
import Derived.Test.YtkncbenhfcpgkaaDoorBu22
import Derived.Test.YtkncbenhfcpgkaaDoorBu19
import Derived.Test.YtkncbenhfcpgkaaDoorBu17
import Derived.Test.YtkncbenhfcpgkaaDoorBu18
import Derived.Test.YtkncbenhfcpgkaaDoorBu29
import Derived.Test.YtkncbenhfcpgkaaDoorBu09
import Derived.Test.YtkncbenhfcpgkaaDoorBu13
import Derived.Test.YtkncbenhfcpgkaaDoorBu04
import Derived.Test.YtkncbenhfcpgkaaDoorBu03
import Derived.Test.YtkncbenhfcpgkaaDoorBu02
import Derived.Test.YtkncbenhfcpgkaaDoorBu01
import Derived.Test.YtkncbenhfcpgkaaDoorBu11
import Derived.Test.YtkncbenhfcpgkaaDoorBu12
import Derived.Test.YtkncbenhfcpgkaaDoorBu06
import Derived.Test.YtkncbenhfcpgkaaDoorBu05
import Derived.Test.YtkncbenhfcpgkaaDoorBu10
import Derived.Test.YtkncbenhfcpgkaaDoorBu08
import Derived.Test.YtkncbenhfcpgkaaDoorBu16
import Derived.Test.YtkncbenhfcpgkaaDoorBu14
import Derived.Test.YtkncbenhfcpgkaaDoorBu15
import Derived.Test.YtkncbenhfcpgkaaDoorBu07
import Derived.IntWalk
import Derived.Test.YtkncbenhfcpgkaaDoorBu26
import Derived.Test.YtkncbenhfcpgkaaDoorBu25
import Derived.Test.YtkncbenhfcpgkaaDoorBuHd
import Derived.Test.YtkncbenhfcpgkaaDoorBu23
import Derived.Test.YtkncbenhfcpgkaaDoorBu24
set_option maxRecDepth 100000
set_option maxHeartbeats 8000000
/- Lengths of numbers' limbs in tests. -/
namespace Go.Proofs.YtkncbenhfcpgkaaDoor

theorem tdiv_fit {x y : Int} (h : Fit x) : Fit (x.tdiv y) := h.mono (by rw [Int.natAbs_tdiv]; exact Nat.div_le_self _ _)
theorem tmod_fit {x y : Int} (h : Fit x) : Fit (x.tmod y) := h.mono (by rw [Int.natAbs_tmod]; exact Nat.mod_le _ _)
/- How many bits, how many limbs. -/

theorem lz_double {x : Int} (hx : x ≠ 0) (n L : Nat) : lz (x * ((2 ^ n : Nat) : Int)) ≤ L ↔ bz x + n ≤ 32 * L := by
  have hp : 0 < x.natAbs := by omega
  obtain ⟨h1, h2, h3⟩ := bits_val hp
  have h4 : lz (x * ((2 ^ n : Nat) : Int)) ≤ L ↔ x.natAbs * 2 ^ n < 2 ^ (32 * L) := by
    rw [lz_le, Int.natAbs_mul, Int.natAbs_natCast, show (4294967296 : Nat) = 2 ^ 32 by decide, ← Nat.pow_mul]
  have hb : bz x = bitsI (natL x.natAbs) := rfl
  rw [h4, hb]
  generalize bitsI (natL x.natAbs) = b at *
  generalize 32 * L = m
  constructor
  · intro h
    have h5 : 2 ^ (b - 1) * 2 ^ n < 2 ^ m := Nat.lt_of_le_of_lt (Nat.mul_le_mul_right _ h2) h
    rw [← Nat.pow_add] at h5
    have := (Nat.pow_lt_pow_iff_right (by omega)).1 h5
    omega
  · intro h
    have h5 : x.natAbs * 2 ^ n < 2 ^ b * 2 ^ n := Nat.mul_lt_mul_of_pos_right h3 (Nat.two_pow_pos n)
    rw [← Nat.pow_add] at h5
    exact Nat.lt_of_lt_of_le h5 (Nat.pow_le_pow_right (by omega) h)
/- Shift of package whole. (Written by wip/exact/genshift.py.) -/
open Go.RowKit

theorem bz_le {x : Int} (hx : Fit x) : bz x ≤ 65536 := by
  by_cases h : x = 0
  · subst h; decide
  · exact (bits_two (L := 2048) hx h).2
theorem bz_double {x : Int} (hx : x ≠ 0) (n : Nat) : Fit (x * ((2 ^ n : Nat) : Int)) ↔ bz x + n ≤ 65536 := lz_double hx n 2048
theorem whole_Shift_nought (x z n : Int) (A : Option Addr) (c : Nat) (hx : Fit x) (w : World) (h_x : Raw w A c (natL x.natAbs)) (hx0 : x = 0) (hz : z = 0) :
    Calls Tryd.prog 13 #[.agg #[.bool (decide (x < 0)), .slice A (natL x.natAbs).length c], .int .i64 n] w (RetInt2 w.heap.size w z 0) := by
  have F_x := Hd hx
  have HX := Hd hx0
  have HZ := Hd hz
  clear hx hx0 hz
  have b0 := (((Below.refl w.heap.size w).alloc (Nat.le_refl _) (.cells #[.bool (decide (x < 0)), .slice A (natL x.natAbs).length c] 24)).alloc (by simp) (.cells #[.bool false, .slice none 0 0] 24))
  have p0 := (Pair.new w 24 (.bool (decide (x < 0))) (.slice A (natL x.natAbs).length c)).alloc (.cells #[.bool false, .slice none 0 0] 24)
  have p1 := Pair.new (w.alloc (.cells #[.bool (decide (x < 0)), .slice A (natL x.natAbs).length c] 24)) 24 (.bool false) (.slice none 0 0)
  simp only [World.size_alloc] at p1
  have V_x := Hd (NV.of h_x b0 p0)
  have P_r0 := Hd p1
  have RW_x := Hd h_x
  have HBW := Hd b0
  clear b0 p0 p1 h_x
  go_enter Tryd.func13, Tryd.ntmps13
  obtain ⟨W, E⟩ : ∃ W, W = ((w.alloc (.cells #[.bool (decide (x < 0)), .slice A (natL x.natAbs).length c] 24)).alloc (.cells #[.bool false, .slice none 0 0] 24)) := ⟨_, rfl⟩
  go_upto_region 1 with fail
  rw [← E] at V_x P_r0 HBW ⊢
  clear E
  obtain ⟨l_x, a_x, b_x, -, -⟩ := V_x.out.pair.facts
  go_wp2_with fail
  refine (echeck_fit x A c W V_x.out.raw F_x.out).mono ?_
  rintro e x1 ⟨rfl, hb⟩
  clear l_x a_x b_x
  have V_x := Hd (V_x.out.below hb)
  have P_r0 := Hd (P_r0.out.below hb)
  have HBW := Hd (belowTo HBW.out hb)
  clear hb
  have h1 := nought_len HX.out
  obtain ⟨l_x, a_x, b_x, -, -⟩ := V_x.out.pair.facts
  obtain ⟨l_r0, a_r0, b_r0, f_r0, g_r0⟩ := P_r0.out.facts
  have HQ := Hd (P_r0.out.store (.bool false) (.slice none 0 0))
  have HB := Hd (below2 HBW.out (show w.heap.size ≤ w.heap.size + 1 by omega) (.bool false) (.slice none 0 0))
  have hq0 := HQ.out.facts
  go_wp2_with fail
  obtain ⟨_, k0, k1, _, _⟩ := HQ.out.facts
  exact bodyPost_ret (by simp [results, Tryd.results13, go_sem, k0, k1]) rfl ⟨.agg #[.bool false, .slice none 0 0], rfl, by rw [HZ.out]; exact IntOwn.nought _ _, HB.out⟩

theorem whole_Shift_down (x z n : Int) (A : Option Addr) (c : Nat) (hx : Fit x) (w : World) (h_x : Raw w A c (natL x.natAbs)) (hx0 : x ≠ 0) (hn : n < 0) (hz : z = x / ((2 ^ (-max n (-65536) : Int).toNat : Nat) : Int)) :
    Calls Tryd.prog 13 #[.agg #[.bool (decide (x < 0)), .slice A (natL x.natAbs).length c], .int .i64 n] w (RetInt2 w.heap.size w z 0) := by
  have F_x := Hd hx
  have HX := Hd hx0
  have HZ := Hd hz
  have hlx : lz x ≤ 2048 := hx
  have C1 := Hd (fun (V : World) (a : Raw V A c (natL x.natAbs)) => ehalved x z (-max n (-65536)) A c V a (by omega) (by omega) (by omega) hz)
  clear hx hx0 hz hlx
  have b0 := (((Below.refl w.heap.size w).alloc (Nat.le_refl _) (.cells #[.bool (decide (x < 0)), .slice A (natL x.natAbs).length c] 24)).alloc (by simp) (.cells #[.bool false, .slice none 0 0] 24))
  have p0 := (Pair.new w 24 (.bool (decide (x < 0))) (.slice A (natL x.natAbs).length c)).alloc (.cells #[.bool false, .slice none 0 0] 24)
  have p1 := Pair.new (w.alloc (.cells #[.bool (decide (x < 0)), .slice A (natL x.natAbs).length c] 24)) 24 (.bool false) (.slice none 0 0)
  simp only [World.size_alloc] at p1
  have V_x := Hd (NV.of h_x b0 p0)
  have P_r0 := Hd p1
  have RW_x := Hd h_x
  have HBW := Hd b0
  clear b0 p0 p1 h_x
  go_enter Tryd.func13, Tryd.ntmps13
  obtain ⟨W, E⟩ : ∃ W, W = ((w.alloc (.cells #[.bool (decide (x < 0)), .slice A (natL x.natAbs).length c] 24)).alloc (.cells #[.bool false, .slice none 0 0] 24)) := ⟨_, rfl⟩
  go_upto_region 1 with fail
  rw [← E] at V_x P_r0 HBW ⊢
  clear E
  obtain ⟨l_x, a_x, b_x, -, -⟩ := V_x.out.pair.facts
  go_wp2_with fail
  refine (echeck_fit x A c W V_x.out.raw F_x.out).mono ?_
  rintro e x1 ⟨rfl, hb⟩
  clear l_x a_x b_x
  have V_x := Hd (V_x.out.below hb)
  have P_r0 := Hd (P_r0.out.below hb)
  have HBW := Hd (belowTo HBW.out hb)
  clear hb
  have h1 := more_len HX.out
  obtain ⟨l_x, a_x, b_x, -, -⟩ := V_x.out.pair.facts
  go_wp2_with fail
  refine (C1.out x1 V_x.out.raw).mono ?_
  rintro e w9 ⟨v, rfl, hI, hb⟩
  clear l_x a_x b_x
  have hsz := P_r0.out.blk.lt
  obtain ⟨b9, A9, k9, c9, rfl⟩ := hI.shape
  have pr := P_r0.out.below hb
  obtain ⟨q1, q2, q3, q4, q5⟩ := pr.facts
  have HI := Hd (hI.pair (g := w.heap.size + 1) (a := .bool b9) (b := .slice A9 k9 c9) (by omega))
  have HB := Hd (below2 (belowTo HBW.out hb) (show w.heap.size ≤ w.heap.size + 1 by omega) (.bool b9) (.slice A9 k9 c9))
  have HQ := Hd (pr.store (.bool b9) (.slice A9 k9 c9))
  clear hI hb pr
  go_wp2_with fail
  obtain ⟨_, k0, k1, _, _⟩ := HQ.out.facts
  exact bodyPost_ret (by simp [results, Tryd.results13, go_sem, k0, k1]) rfl ⟨_, rfl, HI.out.base (by omega), HB.out⟩

theorem whole_Shift_long (x z n : Int) (A : Option Addr) (c : Nat) (hx : Fit x) (w : World) (h_x : Raw w A c (natL x.natAbs)) (hx0 : x ≠ 0) (hn : 0 ≤ n) (hn2 : n ≤ 9223372036854775807) (hl : 65536 < (bz x : Int) + n) (hz : z = 0) :
    Calls Tryd.prog 13 #[.agg #[.bool (decide (x < 0)), .slice A (natL x.natAbs).length c], .int .i64 n] w (RetInt2 w.heap.size w z 4) := by
  have F_x := Hd hx
  have HX := Hd hx0
  have HZ := Hd hz
  have hlx : lz x ≤ 2048 := hx
  have hbz := bz_le hx
  have C1 := Hd (fun (V : World) (a : Raw V A c (natL x.natAbs)) => ebits x (bz x) A c V a (by omega) rfl)
  generalize bz x = b at *
  clear hx hx0 hz hlx
  have b0 := (((Below.refl w.heap.size w).alloc (Nat.le_refl _) (.cells #[.bool (decide (x < 0)), .slice A (natL x.natAbs).length c] 24)).alloc (by simp) (.cells #[.bool false, .slice none 0 0] 24))
  have p0 := (Pair.new w 24 (.bool (decide (x < 0))) (.slice A (natL x.natAbs).length c)).alloc (.cells #[.bool false, .slice none 0 0] 24)
  have p1 := Pair.new (w.alloc (.cells #[.bool (decide (x < 0)), .slice A (natL x.natAbs).length c] 24)) 24 (.bool false) (.slice none 0 0)
  simp only [World.size_alloc] at p1
  have V_x := Hd (NV.of h_x b0 p0)
  have P_r0 := Hd p1
  have RW_x := Hd h_x
  have HBW := Hd b0
  clear b0 p0 p1 h_x
  go_enter Tryd.func13, Tryd.ntmps13
  obtain ⟨W, E⟩ : ∃ W, W = ((w.alloc (.cells #[.bool (decide (x < 0)), .slice A (natL x.natAbs).length c] 24)).alloc (.cells #[.bool false, .slice none 0 0] 24)) := ⟨_, rfl⟩
  go_upto_region 1 with fail
  rw [← E] at V_x P_r0 HBW ⊢
  clear E
  obtain ⟨l_x, a_x, b_x, -, -⟩ := V_x.out.pair.facts
  go_wp2_with fail
  refine (echeck_fit x A c W V_x.out.raw F_x.out).mono ?_
  rintro e x1 ⟨rfl, hb⟩
  clear l_x a_x b_x
  have V_x := Hd (V_x.out.below hb)
  have P_r0 := Hd (P_r0.out.below hb)
  have HBW := Hd (belowTo HBW.out hb)
  clear hb
  have h1 := more_len HX.out
  obtain ⟨l_x, a_x, b_x, -, -⟩ := V_x.out.pair.facts
  go_wp2_with fail
  refine (C1.out x1 V_x.out.raw).mono ?_
  rintro e x2 ⟨rfl, hb⟩
  clear l_x a_x b_x
  have V_x := Hd (V_x.out.below hb)
  have P_r0 := Hd (P_r0.out.below hb)
  have HBW := Hd (belowTo HBW.out hb)
  clear hb
  obtain ⟨l_x, a_x, b_x, -, -⟩ := V_x.out.pair.facts
  obtain ⟨l_r0, a_r0, b_r0, f_r0, g_r0⟩ := P_r0.out.facts
  have HQ := Hd (P_r0.out.store (.bool false) (.slice none 0 0))
  have HB := Hd (below2 HBW.out (show w.heap.size ≤ w.heap.size + 1 by omega) (.bool false) (.slice none 0 0))
  have hq0 := HQ.out.facts
  go_wp2_with fail
  obtain ⟨_, k0, k1, _, _⟩ := HQ.out.facts
  exact bodyPost_ret (by simp [results, Tryd.results13, go_sem, k0, k1]) rfl ⟨.agg #[.bool false, .slice none 0 0], rfl, by rw [HZ.out]; exact IntOwn.nought _ _, HB.out⟩

theorem whole_Shift_up (x z n : Int) (A : Option Addr) (c : Nat) (hx : Fit x) (w : World) (h_x : Raw w A c (natL x.natAbs)) (hx0 : x ≠ 0) (hn : 0 ≤ n) (hl : (bz x : Int) + n ≤ 65536) (hz : z = x * ((2 ^ n.toNat : Nat) : Int)) :
    Calls Tryd.prog 13 #[.agg #[.bool (decide (x < 0)), .slice A (natL x.natAbs).length c], .int .i64 n] w (RetInt2 w.heap.size w z 0) := by
  have F_x := Hd hx
  have HX := Hd hx0
  have HZ := Hd hz
  have hlx : lz x ≤ 2048 := hx
  have hbz := bz_le hx
  have C1 := Hd (fun (V : World) (a : Raw V A c (natL x.natAbs)) => ebits x (bz x) A c V a (by omega) rfl)
  have C2 := Hd (fun (V : World) (a : Raw V A c (natL x.natAbs)) => edouble x z n A c V a (by omega) hx0 hn (by omega) hz)
  generalize bz x = b at *
  clear hx hx0 hz hlx
  have b0 := (((Below.refl w.heap.size w).alloc (Nat.le_refl _) (.cells #[.bool (decide (x < 0)), .slice A (natL x.natAbs).length c] 24)).alloc (by simp) (.cells #[.bool false, .slice none 0 0] 24))
  have p0 := (Pair.new w 24 (.bool (decide (x < 0))) (.slice A (natL x.natAbs).length c)).alloc (.cells #[.bool false, .slice none 0 0] 24)
  have p1 := Pair.new (w.alloc (.cells #[.bool (decide (x < 0)), .slice A (natL x.natAbs).length c] 24)) 24 (.bool false) (.slice none 0 0)
  simp only [World.size_alloc] at p1
  have V_x := Hd (NV.of h_x b0 p0)
  have P_r0 := Hd p1
  have RW_x := Hd h_x
  have HBW := Hd b0
  clear b0 p0 p1 h_x
  go_enter Tryd.func13, Tryd.ntmps13
  obtain ⟨W, E⟩ : ∃ W, W = ((w.alloc (.cells #[.bool (decide (x < 0)), .slice A (natL x.natAbs).length c] 24)).alloc (.cells #[.bool false, .slice none 0 0] 24)) := ⟨_, rfl⟩
  go_upto_region 1 with fail
  rw [← E] at V_x P_r0 HBW ⊢
  clear E
  obtain ⟨l_x, a_x, b_x, -, -⟩ := V_x.out.pair.facts
  go_wp2_with fail
  refine (echeck_fit x A c W V_x.out.raw F_x.out).mono ?_
  rintro e x1 ⟨rfl, hb⟩
  clear l_x a_x b_x
  have V_x := Hd (V_x.out.below hb)
  have P_r0 := Hd (P_r0.out.below hb)
  have HBW := Hd (belowTo HBW.out hb)
  clear hb
  have h1 := more_len HX.out
  obtain ⟨l_x, a_x, b_x, -, -⟩ := V_x.out.pair.facts
  go_wp2_with fail
  refine (C1.out x1 V_x.out.raw).mono ?_
  rintro e x2 ⟨rfl, hb⟩
  clear l_x a_x b_x
  have V_x := Hd (V_x.out.below hb)
  have P_r0 := Hd (P_r0.out.below hb)
  have HBW := Hd (belowTo HBW.out hb)
  clear hb
  obtain ⟨l_x, a_x, b_x, -, -⟩ := V_x.out.pair.facts
  go_wp2_with fail
  refine (C2.out x2 V_x.out.raw).mono ?_
  rintro e w9 ⟨v, rfl, hI, hb⟩
  clear l_x a_x b_x
  have hsz := P_r0.out.blk.lt
  obtain ⟨b9, A9, k9, c9, rfl⟩ := hI.shape
  have pr := P_r0.out.below hb
  obtain ⟨q1, q2, q3, q4, q5⟩ := pr.facts
  have HI := Hd (hI.pair (g := w.heap.size + 1) (a := .bool b9) (b := .slice A9 k9 c9) (by omega))
  have HB := Hd (below2 (belowTo HBW.out hb) (show w.heap.size ≤ w.heap.size + 1 by omega) (.bool b9) (.slice A9 k9 c9))
  have HQ := Hd (pr.store (.bool b9) (.slice A9 k9 c9))
  clear hI hb pr
  go_wp2_with fail
  obtain ⟨_, k0, k1, _, _⟩ := HQ.out.facts
  exact bodyPost_ret (by simp [results, Tryd.results13, go_sem, k0, k1]) rfl ⟨_, rfl, HI.out.base (by omega), HB.out⟩

theorem whole_Shift_z (x n : Int) (A : Option Addr) (c : Nat) (hx : Fit x) (h1 : -9223372036854775808 ≤ n) (h2 : n ≤ 9223372036854775807) (w : World) (h : Raw w A c (natL x.natAbs)) :
    Calls Tryd.prog 13 #[.agg #[.bool (decide (x < 0)), .slice A (natL x.natAbs).length c], .int .i64 n] w (RetInt2 w.heap.size w (shiftV x n) (shiftE x n)) := by
  unfold shiftV shiftE
  by_cases hx0 : x = 0
  · rw [if_pos hx0, if_neg (by simp [hx0])]
    exact whole_Shift_nought x 0 n A c hx w h hx0 rfl
  · rw [if_neg hx0]
    rcases (by omega : n < 0 ∨ 0 ≤ n) with hn | hn
    · rw [if_pos hn, if_neg (by omega)]
      refine whole_Shift_down x _ n A c hx w h hx0 hn ?_
      rw [show min (-n) 65536 = -max n (-65536) by omega]
    · rw [if_neg (show ¬ n < 0 by omega)]
      by_cases hl : 65536 < (bz x : Int) + n
      · rw [if_pos hl, if_pos ⟨hx0, hn, hl⟩]
        exact whole_Shift_long x 0 n A c hx w h hx0 hn h2 hl rfl
      · rw [if_neg hl, if_neg (fun e => hl e.2.2)]
        exact whole_Shift_up x _ n A c hx w h hx0 hn (by omega) rfl
end Go.Proofs.YtkncbenhfcpgkaaDoor
