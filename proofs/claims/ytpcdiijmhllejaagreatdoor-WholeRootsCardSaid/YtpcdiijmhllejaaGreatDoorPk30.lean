/- Several texts in one: Shift, ShiftR, WRoot. -/
import Derived.Test.YtpcdiijmhllejaaGreatDoorPk25
import Derived.Test.YtpcdiijmhllejaaGreatDoorPk28
import Derived.Test.YtpcdiijmhllejaaGreatDoorPk26
import Derived.Test.YtpcdiijmhllejaaGreatDoorPk23
import Derived.Test.YtpcdiijmhllejaaGreatDoorPk29
/- Shift of package whole. (Written by wip/exact/genshift.py.) -/
namespace Go.Proofs.YtpcdiijmhllejaaGreatDoor
open Go.RowKit

/-- A number shifted, and whether it is too long. -/
def shiftV (x n : Int) : Int := if x = 0 then 0 else if n < 0 then x / ((2 ^ (min (-n) 65536).toNat : Nat) : Int) else if 65536 < (bz x : Int) + n then 0 else x * ((2 ^ n.toNat : Nat) : Int)
def shiftE (x n : Int) : Int := if x ≠ 0 ∧ 0 ≤ n ∧ 65536 < (bz x : Int) + n then 4 else 0
theorem bz_le {x : Int} (hx : Fit x) : bz x ≤ 65536 := by
  by_cases h : x = 0
  · subst h; decide
  · exact (bits_two (L := 2048) hx h).2
theorem bz_double {x : Int} (hx : x ≠ 0) (n : Nat) : Fit (x * ((2 ^ n : Nat) : Int)) ↔ bz x + n ≤ 65536 := lz_double hx n 2048
theorem echeck_fit (x : Int) (A : Option Addr) (c : Nat) (w : World) (h : Raw w A c (natL x.natAbs)) (hx : Fit x) :
    Calls Tryz.prog 92 #[.agg #[.bool (decide (x < 0)), .slice A (natL x.natAbs).length c]] w fun e w' => e = .returned (.int .i64 0) ∧ Below w.heap.size w w' := by
  have := exact_Check_any (decide (x < 0)) A c _ w h
  unfold errI at this
  rwa [hx.ok, if_pos rfl] at this

set_option maxRecDepth 100000 in
set_option maxHeartbeats 2000000 in
theorem whole_Shift_nought (x z n : Int) (A : Option Addr) (c : Nat) (hx : Fit x) (w : World) (h_x : Raw w A c (natL x.natAbs)) (hx0 : x = 0) (hz : z = 0) :
    Calls Tryz.prog 25 #[.agg #[.bool (decide (x < 0)), .slice A (natL x.natAbs).length c], .int .i64 n] w (RetInt2 w.heap.size w z 0) := by
  have F_x := Lib.hid hx
  have HX := Lib.hid hx0
  have HZ := Lib.hid hz
  clear hx hx0 hz
  have b0 := (((Below.refl w.heap.size w).alloc (Nat.le_refl _) (.cells #[.bool (decide (x < 0)), .slice A (natL x.natAbs).length c] 24)).alloc (by simp) (.cells #[.bool false, .slice none 0 0] 24))
  have p0 := (Pair.new w 24 (.bool (decide (x < 0))) (.slice A (natL x.natAbs).length c)).alloc (.cells #[.bool false, .slice none 0 0] 24)
  have p1 := Pair.new (w.alloc (.cells #[.bool (decide (x < 0)), .slice A (natL x.natAbs).length c] 24)) 24 (.bool false) (.slice none 0 0)
  simp only [World.size_alloc] at p1
  have V_x := Lib.hid (NV.of h_x b0 p0)
  have P_r0 := Lib.hid p1
  have RW_x := Lib.hid h_x
  have HBW := Lib.hid b0
  clear b0 p0 p1 h_x
  go_enter Tryz.func25, Tryz.ntmps25
  obtain ⟨W, E⟩ : ∃ W, W = ((w.alloc (.cells #[.bool (decide (x < 0)), .slice A (natL x.natAbs).length c] 24)).alloc (.cells #[.bool false, .slice none 0 0] 24)) := ⟨_, rfl⟩
  go_upto_region 1 with fail
  rw [← E] at V_x P_r0 HBW ⊢
  clear E
  obtain ⟨l_x, a_x, b_x, -, -⟩ := V_x.out.pair.facts
  go_wp2_with fail
  refine (echeck_fit x A c W V_x.out.raw F_x.out).mono ?_
  rintro e x1 ⟨rfl, hb⟩
  clear l_x a_x b_x
  have V_x := Lib.hid (V_x.out.below hb)
  have P_r0 := Lib.hid (P_r0.out.below hb)
  have HBW := Lib.hid (belowTo HBW.out hb)
  clear hb
  have h1 := nought_len HX.out
  obtain ⟨l_x, a_x, b_x, -, -⟩ := V_x.out.pair.facts
  obtain ⟨l_r0, a_r0, b_r0, f_r0, g_r0⟩ := P_r0.out.facts
  have HQ := Lib.hid (P_r0.out.store (.bool false) (.slice none 0 0))
  have HB := Lib.hid (below2 HBW.out (show w.heap.size ≤ w.heap.size + 1 by omega) (.bool false) (.slice none 0 0))
  have hq0 := HQ.out.facts
  go_wp2_with fail
  obtain ⟨_, k0, k1, _, _⟩ := HQ.out.facts
  exact bodyPost_ret (by simp [results, Tryz.results25, go_sem, k0, k1]) rfl ⟨.agg #[.bool false, .slice none 0 0], rfl, by rw [HZ.out]; exact IntOwn.nought _ _, HB.out⟩

set_option maxRecDepth 100000 in
set_option maxHeartbeats 2000000 in
theorem whole_Shift_down (x z n : Int) (A : Option Addr) (c : Nat) (hx : Fit x) (w : World) (h_x : Raw w A c (natL x.natAbs)) (hx0 : x ≠ 0) (hn : n < 0) (hz : z = x / ((2 ^ (-max n (-65536) : Int).toNat : Nat) : Int)) :
    Calls Tryz.prog 25 #[.agg #[.bool (decide (x < 0)), .slice A (natL x.natAbs).length c], .int .i64 n] w (RetInt2 w.heap.size w z 0) := by
  have F_x := Lib.hid hx
  have HX := Lib.hid hx0
  have HZ := Lib.hid hz
  have hlx : lz x ≤ 2048 := hx
  have C1 := Lib.hid (fun (V : World) (a : Raw V A c (natL x.natAbs)) => ehalved x z (-max n (-65536)) A c V a (by omega) (by omega) (by omega) hz)
  clear hx hx0 hz hlx
  have b0 := (((Below.refl w.heap.size w).alloc (Nat.le_refl _) (.cells #[.bool (decide (x < 0)), .slice A (natL x.natAbs).length c] 24)).alloc (by simp) (.cells #[.bool false, .slice none 0 0] 24))
  have p0 := (Pair.new w 24 (.bool (decide (x < 0))) (.slice A (natL x.natAbs).length c)).alloc (.cells #[.bool false, .slice none 0 0] 24)
  have p1 := Pair.new (w.alloc (.cells #[.bool (decide (x < 0)), .slice A (natL x.natAbs).length c] 24)) 24 (.bool false) (.slice none 0 0)
  simp only [World.size_alloc] at p1
  have V_x := Lib.hid (NV.of h_x b0 p0)
  have P_r0 := Lib.hid p1
  have RW_x := Lib.hid h_x
  have HBW := Lib.hid b0
  clear b0 p0 p1 h_x
  go_enter Tryz.func25, Tryz.ntmps25
  obtain ⟨W, E⟩ : ∃ W, W = ((w.alloc (.cells #[.bool (decide (x < 0)), .slice A (natL x.natAbs).length c] 24)).alloc (.cells #[.bool false, .slice none 0 0] 24)) := ⟨_, rfl⟩
  go_upto_region 1 with fail
  rw [← E] at V_x P_r0 HBW ⊢
  clear E
  obtain ⟨l_x, a_x, b_x, -, -⟩ := V_x.out.pair.facts
  go_wp2_with fail
  refine (echeck_fit x A c W V_x.out.raw F_x.out).mono ?_
  rintro e x1 ⟨rfl, hb⟩
  clear l_x a_x b_x
  have V_x := Lib.hid (V_x.out.below hb)
  have P_r0 := Lib.hid (P_r0.out.below hb)
  have HBW := Lib.hid (belowTo HBW.out hb)
  clear hb
  have h1 := more_len HX.out
  obtain ⟨l_x, a_x, b_x, -, -⟩ := V_x.out.pair.facts
  go_wp2_with fail
  refine (C1.out x1 V_x.out.raw).mono ?_
  rintro e w9 ⟨v, rfl, hI, hb⟩
  clear l_x a_x b_x
  have hsz := P_r0.out.blk.lt
  obtain ⟨b9, A9, k9, c9, rfl⟩ := hI.shape
  have pr := P_r0.out.below hb
  obtain ⟨q1, q2, q3, q4, q5⟩ := pr.facts
  have HI := Lib.hid (hI.pair (g := w.heap.size + 1) (a := .bool b9) (b := .slice A9 k9 c9) (by omega))
  have HB := Lib.hid (below2 (belowTo HBW.out hb) (show w.heap.size ≤ w.heap.size + 1 by omega) (.bool b9) (.slice A9 k9 c9))
  have HQ := Lib.hid (pr.store (.bool b9) (.slice A9 k9 c9))
  clear hI hb pr
  go_wp2_with fail
  obtain ⟨_, k0, k1, _, _⟩ := HQ.out.facts
  exact bodyPost_ret (by simp [results, Tryz.results25, go_sem, k0, k1]) rfl ⟨_, rfl, HI.out.base (by omega), HB.out⟩

set_option maxRecDepth 100000 in
set_option maxHeartbeats 2000000 in
theorem whole_Shift_long (x z n : Int) (A : Option Addr) (c : Nat) (hx : Fit x) (w : World) (h_x : Raw w A c (natL x.natAbs)) (hx0 : x ≠ 0) (hn : 0 ≤ n) (hn2 : n ≤ 9223372036854775807) (hl : 65536 < (bz x : Int) + n) (hz : z = 0) :
    Calls Tryz.prog 25 #[.agg #[.bool (decide (x < 0)), .slice A (natL x.natAbs).length c], .int .i64 n] w (RetInt2 w.heap.size w z 4) := by
  have F_x := Lib.hid hx
  have HX := Lib.hid hx0
  have HZ := Lib.hid hz
  have hlx : lz x ≤ 2048 := hx
  have hbz := bz_le hx
  have C1 := Lib.hid (fun (V : World) (a : Raw V A c (natL x.natAbs)) => ebits x (bz x) A c V a (by omega) rfl)
  generalize bz x = b at *
  clear hx hx0 hz hlx
  have b0 := (((Below.refl w.heap.size w).alloc (Nat.le_refl _) (.cells #[.bool (decide (x < 0)), .slice A (natL x.natAbs).length c] 24)).alloc (by simp) (.cells #[.bool false, .slice none 0 0] 24))
  have p0 := (Pair.new w 24 (.bool (decide (x < 0))) (.slice A (natL x.natAbs).length c)).alloc (.cells #[.bool false, .slice none 0 0] 24)
  have p1 := Pair.new (w.alloc (.cells #[.bool (decide (x < 0)), .slice A (natL x.natAbs).length c] 24)) 24 (.bool false) (.slice none 0 0)
  simp only [World.size_alloc] at p1
  have V_x := Lib.hid (NV.of h_x b0 p0)
  have P_r0 := Lib.hid p1
  have RW_x := Lib.hid h_x
  have HBW := Lib.hid b0
  clear b0 p0 p1 h_x
  go_enter Tryz.func25, Tryz.ntmps25
  obtain ⟨W, E⟩ : ∃ W, W = ((w.alloc (.cells #[.bool (decide (x < 0)), .slice A (natL x.natAbs).length c] 24)).alloc (.cells #[.bool false, .slice none 0 0] 24)) := ⟨_, rfl⟩
  go_upto_region 1 with fail
  rw [← E] at V_x P_r0 HBW ⊢
  clear E
  obtain ⟨l_x, a_x, b_x, -, -⟩ := V_x.out.pair.facts
  go_wp2_with fail
  refine (echeck_fit x A c W V_x.out.raw F_x.out).mono ?_
  rintro e x1 ⟨rfl, hb⟩
  clear l_x a_x b_x
  have V_x := Lib.hid (V_x.out.below hb)
  have P_r0 := Lib.hid (P_r0.out.below hb)
  have HBW := Lib.hid (belowTo HBW.out hb)
  clear hb
  have h1 := more_len HX.out
  obtain ⟨l_x, a_x, b_x, -, -⟩ := V_x.out.pair.facts
  go_wp2_with fail
  refine (C1.out x1 V_x.out.raw).mono ?_
  rintro e x2 ⟨rfl, hb⟩
  clear l_x a_x b_x
  have V_x := Lib.hid (V_x.out.below hb)
  have P_r0 := Lib.hid (P_r0.out.below hb)
  have HBW := Lib.hid (belowTo HBW.out hb)
  clear hb
  obtain ⟨l_x, a_x, b_x, -, -⟩ := V_x.out.pair.facts
  obtain ⟨l_r0, a_r0, b_r0, f_r0, g_r0⟩ := P_r0.out.facts
  have HQ := Lib.hid (P_r0.out.store (.bool false) (.slice none 0 0))
  have HB := Lib.hid (below2 HBW.out (show w.heap.size ≤ w.heap.size + 1 by omega) (.bool false) (.slice none 0 0))
  have hq0 := HQ.out.facts
  go_wp2_with fail
  obtain ⟨_, k0, k1, _, _⟩ := HQ.out.facts
  exact bodyPost_ret (by simp [results, Tryz.results25, go_sem, k0, k1]) rfl ⟨.agg #[.bool false, .slice none 0 0], rfl, by rw [HZ.out]; exact IntOwn.nought _ _, HB.out⟩

set_option maxRecDepth 100000 in
set_option maxHeartbeats 2000000 in
theorem whole_Shift_up (x z n : Int) (A : Option Addr) (c : Nat) (hx : Fit x) (w : World) (h_x : Raw w A c (natL x.natAbs)) (hx0 : x ≠ 0) (hn : 0 ≤ n) (hl : (bz x : Int) + n ≤ 65536) (hz : z = x * ((2 ^ n.toNat : Nat) : Int)) :
    Calls Tryz.prog 25 #[.agg #[.bool (decide (x < 0)), .slice A (natL x.natAbs).length c], .int .i64 n] w (RetInt2 w.heap.size w z 0) := by
  have F_x := Lib.hid hx
  have HX := Lib.hid hx0
  have HZ := Lib.hid hz
  have hlx : lz x ≤ 2048 := hx
  have hbz := bz_le hx
  have C1 := Lib.hid (fun (V : World) (a : Raw V A c (natL x.natAbs)) => ebits x (bz x) A c V a (by omega) rfl)
  have C2 := Lib.hid (fun (V : World) (a : Raw V A c (natL x.natAbs)) => edouble x z n A c V a (by omega) hx0 hn (by omega) hz)
  generalize bz x = b at *
  clear hx hx0 hz hlx
  have b0 := (((Below.refl w.heap.size w).alloc (Nat.le_refl _) (.cells #[.bool (decide (x < 0)), .slice A (natL x.natAbs).length c] 24)).alloc (by simp) (.cells #[.bool false, .slice none 0 0] 24))
  have p0 := (Pair.new w 24 (.bool (decide (x < 0))) (.slice A (natL x.natAbs).length c)).alloc (.cells #[.bool false, .slice none 0 0] 24)
  have p1 := Pair.new (w.alloc (.cells #[.bool (decide (x < 0)), .slice A (natL x.natAbs).length c] 24)) 24 (.bool false) (.slice none 0 0)
  simp only [World.size_alloc] at p1
  have V_x := Lib.hid (NV.of h_x b0 p0)
  have P_r0 := Lib.hid p1
  have RW_x := Lib.hid h_x
  have HBW := Lib.hid b0
  clear b0 p0 p1 h_x
  go_enter Tryz.func25, Tryz.ntmps25
  obtain ⟨W, E⟩ : ∃ W, W = ((w.alloc (.cells #[.bool (decide (x < 0)), .slice A (natL x.natAbs).length c] 24)).alloc (.cells #[.bool false, .slice none 0 0] 24)) := ⟨_, rfl⟩
  go_upto_region 1 with fail
  rw [← E] at V_x P_r0 HBW ⊢
  clear E
  obtain ⟨l_x, a_x, b_x, -, -⟩ := V_x.out.pair.facts
  go_wp2_with fail
  refine (echeck_fit x A c W V_x.out.raw F_x.out).mono ?_
  rintro e x1 ⟨rfl, hb⟩
  clear l_x a_x b_x
  have V_x := Lib.hid (V_x.out.below hb)
  have P_r0 := Lib.hid (P_r0.out.below hb)
  have HBW := Lib.hid (belowTo HBW.out hb)
  clear hb
  have h1 := more_len HX.out
  obtain ⟨l_x, a_x, b_x, -, -⟩ := V_x.out.pair.facts
  go_wp2_with fail
  refine (C1.out x1 V_x.out.raw).mono ?_
  rintro e x2 ⟨rfl, hb⟩
  clear l_x a_x b_x
  have V_x := Lib.hid (V_x.out.below hb)
  have P_r0 := Lib.hid (P_r0.out.below hb)
  have HBW := Lib.hid (belowTo HBW.out hb)
  clear hb
  obtain ⟨l_x, a_x, b_x, -, -⟩ := V_x.out.pair.facts
  go_wp2_with fail
  refine (C2.out x2 V_x.out.raw).mono ?_
  rintro e w9 ⟨v, rfl, hI, hb⟩
  clear l_x a_x b_x
  have hsz := P_r0.out.blk.lt
  obtain ⟨b9, A9, k9, c9, rfl⟩ := hI.shape
  have pr := P_r0.out.below hb
  obtain ⟨q1, q2, q3, q4, q5⟩ := pr.facts
  have HI := Lib.hid (hI.pair (g := w.heap.size + 1) (a := .bool b9) (b := .slice A9 k9 c9) (by omega))
  have HB := Lib.hid (below2 (belowTo HBW.out hb) (show w.heap.size ≤ w.heap.size + 1 by omega) (.bool b9) (.slice A9 k9 c9))
  have HQ := Lib.hid (pr.store (.bool b9) (.slice A9 k9 c9))
  clear hI hb pr
  go_wp2_with fail
  obtain ⟨_, k0, k1, _, _⟩ := HQ.out.facts
  exact bodyPost_ret (by simp [results, Tryz.results25, go_sem, k0, k1]) rfl ⟨_, rfl, HI.out.base (by omega), HB.out⟩

theorem whole_Shift_z (x n : Int) (A : Option Addr) (c : Nat) (hx : Fit x) (h1 : -9223372036854775808 ≤ n) (h2 : n ≤ 9223372036854775807) (w : World) (h : Raw w A c (natL x.natAbs)) :
    Calls Tryz.prog 25 #[.agg #[.bool (decide (x < 0)), .slice A (natL x.natAbs).length c], .int .i64 n] w (RetInt2 w.heap.size w (shiftV x n) (shiftE x n)) := by
  unfold shiftV shiftE
  by_cases hx0 : x = 0
  · rw [if_pos hx0, if_neg (by simp [hx0])]
    exact whole_Shift_nought x 0 n A c hx w h hx0 rfl
  · rw [if_neg hx0]
    rcases (by omega : n < 0 ∨ 0 ≤ n) with hn | hn
    · rw [if_pos hn, if_neg (by omega)]
      refine whole_Shift_down x _ n A c hx w h hx0 hn ?_
      rw [show min (-n) 65536 = -max n (-65536) by omega]
    · rw [if_neg (show ¬ n < 0 by omega)]
      by_cases hl : 65536 < (bz x : Int) + n
      · rw [if_pos hl, if_pos ⟨hx0, hn, hl⟩]
        exact whole_Shift_long x 0 n A c hx w h hx0 hn h2 hl rfl
      · rw [if_neg hl, if_neg (fun e => hl e.2.2)]
        exact whole_Shift_up x _ n A c hx w h hx0 hn (by omega) rfl
end Go.Proofs.YtpcdiijmhllejaaGreatDoor

/- Shift of the references. (Written by wip/exact/genshift.py.) -/
namespace Go.Proofs.YtpcdiijmhllejaaGreatDoor
open Go.RowKit
theorem rcheck_fit (x : Int) (A : Option Addr) (c : Nat) (w : World) (h : Raw w A c (natL x.natAbs)) (hx : Fit x) :
    Calls Tryz.prog 97 #[.agg #[.bool (decide (x < 0)), .slice A (natL x.natAbs).length c]] w fun e w' => e = .returned (.int .i64 0) ∧ Below w.heap.size w w' := by
  have := ref_Check_any (decide (x < 0)) A c _ w h
  unfold errI at this
  rwa [hx.ok, if_pos rfl] at this

set_option maxRecDepth 100000 in
set_option maxHeartbeats 2000000 in
theorem ref_Shift_nought (x z n : Int) (A : Option Addr) (c : Nat) (hx : Fit x) (w : World) (h_x : Raw w A c (natL x.natAbs)) (hx0 : x = 0) (hz : z = 0) :
    Calls Tryz.prog 27 #[.agg #[.bool (decide (x < 0)), .slice A (natL x.natAbs).length c], .int .i64 n] w (RetInt2 w.heap.size w z 0) := by
  have F_x := Lib.hid hx
  have HX := Lib.hid hx0
  have HZ := Lib.hid hz
  clear hx hx0 hz
  have b0 := (((Below.refl w.heap.size w).alloc (Nat.le_refl _) (.cells #[.bool (decide (x < 0)), .slice A (natL x.natAbs).length c] 24)).alloc (by simp) (.cells #[.bool false, .slice none 0 0] 24))
  have p0 := (Pair.new w 24 (.bool (decide (x < 0))) (.slice A (natL x.natAbs).length c)).alloc (.cells #[.bool false, .slice none 0 0] 24)
  have p1 := Pair.new (w.alloc (.cells #[.bool (decide (x < 0)), .slice A (natL x.natAbs).length c] 24)) 24 (.bool false) (.slice none 0 0)
  simp only [World.size_alloc] at p1
  have V_x := Lib.hid (NV.of h_x b0 p0)
  have P_r0 := Lib.hid p1
  have RW_x := Lib.hid h_x
  have HBW := Lib.hid b0
  clear b0 p0 p1 h_x
  go_enter Tryz.func27, Tryz.ntmps27
  obtain ⟨W, E⟩ : ∃ W, W = ((w.alloc (.cells #[.bool (decide (x < 0)), .slice A (natL x.natAbs).length c] 24)).alloc (.cells #[.bool false, .slice none 0 0] 24)) := ⟨_, rfl⟩
  go_upto_region 1 with fail
  rw [← E] at V_x P_r0 HBW ⊢
  clear E
  obtain ⟨l_x, a_x, b_x, -, -⟩ := V_x.out.pair.facts
  go_wp2_with fail
  refine (rcheck_fit x A c W V_x.out.raw F_x.out).mono ?_
  rintro e x1 ⟨rfl, hb⟩
  clear l_x a_x b_x
  have V_x := Lib.hid (V_x.out.below hb)
  have P_r0 := Lib.hid (P_r0.out.below hb)
  have HBW := Lib.hid (belowTo HBW.out hb)
  clear hb
  obtain ⟨l_x, a_x, b_x, -, -⟩ := V_x.out.pair.facts
  go_wp2_with fail
  refine (rsign x 0 A c x1 V_x.out.raw (by rw [HX.out]; rfl)).mono ?_
  rintro e x2 ⟨rfl, hb⟩
  clear l_x a_x b_x
  have V_x := Lib.hid (V_x.out.below hb)
  have P_r0 := Lib.hid (P_r0.out.below hb)
  have HBW := Lib.hid (belowTo HBW.out hb)
  clear hb
  obtain ⟨l_x, a_x, b_x, -, -⟩ := V_x.out.pair.facts
  obtain ⟨l_r0, a_r0, b_r0, f_r0, g_r0⟩ := P_r0.out.facts
  have HQ := Lib.hid (P_r0.out.store (.bool false) (.slice none 0 0))
  have HB := Lib.hid (below2 HBW.out (show w.heap.size ≤ w.heap.size + 1 by omega) (.bool false) (.slice none 0 0))
  have hq0 := HQ.out.facts
  go_wp2_with fail
  obtain ⟨_, k0, k1, _, _⟩ := HQ.out.facts
  exact bodyPost_ret (by simp [results, Tryz.results27, go_sem, k0, k1]) rfl ⟨.agg #[.bool false, .slice none 0 0], rfl, by rw [HZ.out]; exact IntOwn.nought _ _, HB.out⟩

set_option maxRecDepth 100000 in
set_option maxHeartbeats 2000000 in
theorem ref_Shift_down (x z n : Int) (A : Option Addr) (c : Nat) (hx : Fit x) (w : World) (h_x : Raw w A c (natL x.natAbs)) (hx0 : x ≠ 0) (hn : n < 0) (hn2 : -65536 ≤ n) (hz : z = x / ((2 ^ (-n : Int).toNat : Nat) : Int)) :
    Calls Tryz.prog 27 #[.agg #[.bool (decide (x < 0)), .slice A (natL x.natAbs).length c], .int .i64 n] w (RetInt2 w.heap.size w z 0) := by
  have F_x := Lib.hid hx
  have HX := Lib.hid hx0
  have HZ := Lib.hid hz
  have hlx : lz x ≤ 2048 := hx
  obtain ⟨sg, hsg⟩ : ∃ k : Int, k = x.sign := ⟨_, rfl⟩
  have HSG := Lib.hid hsg
  have SG := Lib.hid (show (sg == 0) = false from beq_false_of_ne (by rw [hsg]; exact fun e => hx0 (Int.sign_eq_zero_iff_zero.1 e)))
  clear hsg
  have C1 := Lib.hid (fun (V : World) (a : Raw V A c (natL x.natAbs)) => rhalved x z (-n) A c V a (by omega) (by omega) (by omega) hz)
  clear hx hx0 hz hlx
  have b0 := (((Below.refl w.heap.size w).alloc (Nat.le_refl _) (.cells #[.bool (decide (x < 0)), .slice A (natL x.natAbs).length c] 24)).alloc (by simp) (.cells #[.bool false, .slice none 0 0] 24))
  have p0 := (Pair.new w 24 (.bool (decide (x < 0))) (.slice A (natL x.natAbs).length c)).alloc (.cells #[.bool false, .slice none 0 0] 24)
  have p1 := Pair.new (w.alloc (.cells #[.bool (decide (x < 0)), .slice A (natL x.natAbs).length c] 24)) 24 (.bool false) (.slice none 0 0)
  simp only [World.size_alloc] at p1
  have V_x := Lib.hid (NV.of h_x b0 p0)
  have P_r0 := Lib.hid p1
  have RW_x := Lib.hid h_x
  have HBW := Lib.hid b0
  clear b0 p0 p1 h_x
  go_enter Tryz.func27, Tryz.ntmps27
  obtain ⟨W, E⟩ : ∃ W, W = ((w.alloc (.cells #[.bool (decide (x < 0)), .slice A (natL x.natAbs).length c] 24)).alloc (.cells #[.bool false, .slice none 0 0] 24)) := ⟨_, rfl⟩
  go_upto_region 1 with fail
  rw [← E] at V_x P_r0 HBW ⊢
  clear E
  obtain ⟨l_x, a_x, b_x, -, -⟩ := V_x.out.pair.facts
  go_wp2_with fail
  refine (rcheck_fit x A c W V_x.out.raw F_x.out).mono ?_
  rintro e x1 ⟨rfl, hb⟩
  clear l_x a_x b_x
  have V_x := Lib.hid (V_x.out.below hb)
  have P_r0 := Lib.hid (P_r0.out.below hb)
  have HBW := Lib.hid (belowTo HBW.out hb)
  clear hb
  have hs0 : (sg == 0) = false := SG.out
  obtain ⟨l_x, a_x, b_x, -, -⟩ := V_x.out.pair.facts
  go_wp2_with fail
  refine (rsign x sg A c x1 V_x.out.raw HSG.out).mono ?_
  rintro e x2 ⟨rfl, hb⟩
  clear l_x a_x b_x
  have V_x := Lib.hid (V_x.out.below hb)
  have P_r0 := Lib.hid (P_r0.out.below hb)
  have HBW := Lib.hid (belowTo HBW.out hb)
  clear hb
  obtain ⟨l_x, a_x, b_x, -, -⟩ := V_x.out.pair.facts
  go_wp2_with fail
  refine (C1.out x2 V_x.out.raw).mono ?_
  rintro e w9 ⟨v, rfl, hI, hb⟩
  clear l_x a_x b_x
  have hsz := P_r0.out.blk.lt
  obtain ⟨b9, A9, k9, c9, rfl⟩ := hI.shape
  have pr := P_r0.out.below hb
  obtain ⟨q1, q2, q3, q4, q5⟩ := pr.facts
  have HI := Lib.hid (hI.pair (g := w.heap.size + 1) (a := .bool b9) (b := .slice A9 k9 c9) (by omega))
  have HB := Lib.hid (below2 (belowTo HBW.out hb) (show w.heap.size ≤ w.heap.size + 1 by omega) (.bool b9) (.slice A9 k9 c9))
  have HQ := Lib.hid (pr.store (.bool b9) (.slice A9 k9 c9))
  clear hI hb pr
  go_wp2_with fail
  obtain ⟨_, k0, k1, _, _⟩ := HQ.out.facts
  exact bodyPost_ret (by simp [results, Tryz.results27, go_sem, k0, k1]) rfl ⟨_, rfl, HI.out.base (by omega), HB.out⟩

set_option maxRecDepth 100000 in
set_option maxHeartbeats 2000000 in
theorem ref_Shift_far (x z n : Int) (A : Option Addr) (c : Nat) (hx : Fit x) (w : World) (h_x : Raw w A c (natL x.natAbs)) (hx0 : x ≠ 0) (hn : n < -65536) (hz : z = x / ((2 ^ (65536 : Int).toNat : Nat) : Int)) :
    Calls Tryz.prog 27 #[.agg #[.bool (decide (x < 0)), .slice A (natL x.natAbs).length c], .int .i64 n] w (RetInt2 w.heap.size w z 0) := by
  have F_x := Lib.hid hx
  have HX := Lib.hid hx0
  have HZ := Lib.hid hz
  have hlx : lz x ≤ 2048 := hx
  obtain ⟨sg, hsg⟩ : ∃ k : Int, k = x.sign := ⟨_, rfl⟩
  have HSG := Lib.hid hsg
  have SG := Lib.hid (show (sg == 0) = false from beq_false_of_ne (by rw [hsg]; exact fun e => hx0 (Int.sign_eq_zero_iff_zero.1 e)))
  clear hsg
  have C1 := Lib.hid (fun (V : World) (a : Raw V A c (natL x.natAbs)) => rhalved x z (65536) A c V a (by omega) (by omega) (by omega) hz)
  clear hx hx0 hz hlx
  have b0 := (((Below.refl w.heap.size w).alloc (Nat.le_refl _) (.cells #[.bool (decide (x < 0)), .slice A (natL x.natAbs).length c] 24)).alloc (by simp) (.cells #[.bool false, .slice none 0 0] 24))
  have p0 := (Pair.new w 24 (.bool (decide (x < 0))) (.slice A (natL x.natAbs).length c)).alloc (.cells #[.bool false, .slice none 0 0] 24)
  have p1 := Pair.new (w.alloc (.cells #[.bool (decide (x < 0)), .slice A (natL x.natAbs).length c] 24)) 24 (.bool false) (.slice none 0 0)
  simp only [World.size_alloc] at p1
  have V_x := Lib.hid (NV.of h_x b0 p0)
  have P_r0 := Lib.hid p1
  have RW_x := Lib.hid h_x
  have HBW := Lib.hid b0
  clear b0 p0 p1 h_x
  go_enter Tryz.func27, Tryz.ntmps27
  obtain ⟨W, E⟩ : ∃ W, W = ((w.alloc (.cells #[.bool (decide (x < 0)), .slice A (natL x.natAbs).length c] 24)).alloc (.cells #[.bool false, .slice none 0 0] 24)) := ⟨_, rfl⟩
  go_upto_region 1 with fail
  rw [← E] at V_x P_r0 HBW ⊢
  clear E
  obtain ⟨l_x, a_x, b_x, -, -⟩ := V_x.out.pair.facts
  go_wp2_with fail
  refine (rcheck_fit x A c W V_x.out.raw F_x.out).mono ?_
  rintro e x1 ⟨rfl, hb⟩
  clear l_x a_x b_x
  have V_x := Lib.hid (V_x.out.below hb)
  have P_r0 := Lib.hid (P_r0.out.below hb)
  have HBW := Lib.hid (belowTo HBW.out hb)
  clear hb
  have hs0 : (sg == 0) = false := SG.out
  obtain ⟨l_x, a_x, b_x, -, -⟩ := V_x.out.pair.facts
  go_wp2_with fail
  refine (rsign x sg A c x1 V_x.out.raw HSG.out).mono ?_
  rintro e x2 ⟨rfl, hb⟩
  clear l_x a_x b_x
  have V_x := Lib.hid (V_x.out.below hb)
  have P_r0 := Lib.hid (P_r0.out.below hb)
  have HBW := Lib.hid (belowTo HBW.out hb)
  clear hb
  obtain ⟨l_x, a_x, b_x, -, -⟩ := V_x.out.pair.facts
  go_wp2_with fail
  refine (C1.out x2 V_x.out.raw).mono ?_
  rintro e w9 ⟨v, rfl, hI, hb⟩
  clear l_x a_x b_x
  have hsz := P_r0.out.blk.lt
  obtain ⟨b9, A9, k9, c9, rfl⟩ := hI.shape
  have pr := P_r0.out.below hb
  obtain ⟨q1, q2, q3, q4, q5⟩ := pr.facts
  have HI := Lib.hid (hI.pair (g := w.heap.size + 1) (a := .bool b9) (b := .slice A9 k9 c9) (by omega))
  have HB := Lib.hid (below2 (belowTo HBW.out hb) (show w.heap.size ≤ w.heap.size + 1 by omega) (.bool b9) (.slice A9 k9 c9))
  have HQ := Lib.hid (pr.store (.bool b9) (.slice A9 k9 c9))
  clear hI hb pr
  go_wp2_with fail
  obtain ⟨_, k0, k1, _, _⟩ := HQ.out.facts
  exact bodyPost_ret (by simp [results, Tryz.results27, go_sem, k0, k1]) rfl ⟨_, rfl, HI.out.base (by omega), HB.out⟩

set_option maxRecDepth 100000 in
set_option maxHeartbeats 2000000 in
theorem ref_Shift_above (x z n : Int) (A : Option Addr) (c : Nat) (hx : Fit x) (w : World) (h_x : Raw w A c (natL x.natAbs)) (hx0 : x ≠ 0) (hn : 65536 < n) (hz : z = 0) :
    Calls Tryz.prog 27 #[.agg #[.bool (decide (x < 0)), .slice A (natL x.natAbs).length c], .int .i64 n] w (RetInt2 w.heap.size w z 4) := by
  have F_x := Lib.hid hx
  have HX := Lib.hid hx0
  have HZ := Lib.hid hz
  have hlx : lz x ≤ 2048 := hx
  obtain ⟨sg, hsg⟩ : ∃ k : Int, k = x.sign := ⟨_, rfl⟩
  have HSG := Lib.hid hsg
  have SG := Lib.hid (show (sg == 0) = false from beq_false_of_ne (by rw [hsg]; exact fun e => hx0 (Int.sign_eq_zero_iff_zero.1 e)))
  clear hsg
  clear hx hx0 hz hlx
  have b0 := (((Below.refl w.heap.size w).alloc (Nat.le_refl _) (.cells #[.bool (decide (x < 0)), .slice A (natL x.natAbs).length c] 24)).alloc (by simp) (.cells #[.bool false, .slice none 0 0] 24))
  have p0 := (Pair.new w 24 (.bool (decide (x < 0))) (.slice A (natL x.natAbs).length c)).alloc (.cells #[.bool false, .slice none 0 0] 24)
  have p1 := Pair.new (w.alloc (.cells #[.bool (decide (x < 0)), .slice A (natL x.natAbs).length c] 24)) 24 (.bool false) (.slice none 0 0)
  simp only [World.size_alloc] at p1
  have V_x := Lib.hid (NV.of h_x b0 p0)
  have P_r0 := Lib.hid p1
  have RW_x := Lib.hid h_x
  have HBW := Lib.hid b0
  clear b0 p0 p1 h_x
  go_enter Tryz.func27, Tryz.ntmps27
  obtain ⟨W, E⟩ : ∃ W, W = ((w.alloc (.cells #[.bool (decide (x < 0)), .slice A (natL x.natAbs).length c] 24)).alloc (.cells #[.bool false, .slice none 0 0] 24)) := ⟨_, rfl⟩
  go_upto_region 1 with fail
  rw [← E] at V_x P_r0 HBW ⊢
  clear E
  obtain ⟨l_x, a_x, b_x, -, -⟩ := V_x.out.pair.facts
  go_wp2_with fail
  refine (rcheck_fit x A c W V_x.out.raw F_x.out).mono ?_
  rintro e x1 ⟨rfl, hb⟩
  clear l_x a_x b_x
  have V_x := Lib.hid (V_x.out.below hb)
  have P_r0 := Lib.hid (P_r0.out.below hb)
  have HBW := Lib.hid (belowTo HBW.out hb)
  clear hb
  have hs0 : (sg == 0) = false := SG.out
  obtain ⟨l_x, a_x, b_x, -, -⟩ := V_x.out.pair.facts
  go_wp2_with fail
  refine (rsign x sg A c x1 V_x.out.raw HSG.out).mono ?_
  rintro e x2 ⟨rfl, hb⟩
  clear l_x a_x b_x
  have V_x := Lib.hid (V_x.out.below hb)
  have P_r0 := Lib.hid (P_r0.out.below hb)
  have HBW := Lib.hid (belowTo HBW.out hb)
  clear hb
  obtain ⟨l_x, a_x, b_x, -, -⟩ := V_x.out.pair.facts
  obtain ⟨l_r0, a_r0, b_r0, f_r0, g_r0⟩ := P_r0.out.facts
  have HQ := Lib.hid (P_r0.out.store (.bool false) (.slice none 0 0))
  have HB := Lib.hid (below2 HBW.out (show w.heap.size ≤ w.heap.size + 1 by omega) (.bool false) (.slice none 0 0))
  have hq0 := HQ.out.facts
  go_wp2_with fail
  obtain ⟨_, k0, k1, _, _⟩ := HQ.out.facts
  exact bodyPost_ret (by simp [results, Tryz.results27, go_sem, k0, k1]) rfl ⟨.agg #[.bool false, .slice none 0 0], rfl, by rw [HZ.out]; exact IntOwn.nought _ _, HB.out⟩

set_option maxRecDepth 100000 in
set_option maxHeartbeats 2000000 in
theorem ref_Shift_up (x z n : Int) (A : Option Addr) (c : Nat) (hx : Fit x) (w : World) (h_x : Raw w A c (natL x.natAbs)) (hx0 : x ≠ 0) (hn : 0 ≤ n) (hl : n ≤ 65536) (hz : z = x * ((2 ^ n.toNat : Nat) : Int)) :
    Calls Tryz.prog 27 #[.agg #[.bool (decide (x < 0)), .slice A (natL x.natAbs).length c], .int .i64 n] w (RetInt2 w.heap.size w (toldV z) (toldE z)) := by
  have F_x := Lib.hid hx
  have HX := Lib.hid hx0
  have HZ := Lib.hid hz
  have hlx : lz x ≤ 2048 := hx
  obtain ⟨sg, hsg⟩ : ∃ k : Int, k = x.sign := ⟨_, rfl⟩
  have HSG := Lib.hid hsg
  have SG := Lib.hid (show (sg == 0) = false from beq_false_of_ne (by rw [hsg]; exact fun e => hx0 (Int.sign_eq_zero_iff_zero.1 e)))
  clear hsg
  have C2 := Lib.hid (fun (V : World) (a : Raw V A c (natL x.natAbs)) => rdouble x z n A c V a (by omega) hx0 hn (by omega) hz)
  clear hx hx0 hz hlx
  have b0 := (((Below.refl w.heap.size w).alloc (Nat.le_refl _) (.cells #[.bool (decide (x < 0)), .slice A (natL x.natAbs).length c] 24)).alloc (by simp) (.cells #[.bool false, .slice none 0 0] 24))
  have p0 := (Pair.new w 24 (.bool (decide (x < 0))) (.slice A (natL x.natAbs).length c)).alloc (.cells #[.bool false, .slice none 0 0] 24)
  have p1 := Pair.new (w.alloc (.cells #[.bool (decide (x < 0)), .slice A (natL x.natAbs).length c] 24)) 24 (.bool false) (.slice none 0 0)
  simp only [World.size_alloc] at p1
  have V_x := Lib.hid (NV.of h_x b0 p0)
  have P_r0 := Lib.hid p1
  have RW_x := Lib.hid h_x
  have HBW := Lib.hid b0
  clear b0 p0 p1 h_x
  go_enter Tryz.func27, Tryz.ntmps27
  obtain ⟨W, E⟩ : ∃ W, W = ((w.alloc (.cells #[.bool (decide (x < 0)), .slice A (natL x.natAbs).length c] 24)).alloc (.cells #[.bool false, .slice none 0 0] 24)) := ⟨_, rfl⟩
  go_upto_region 1 with fail
  rw [← E] at V_x P_r0 HBW ⊢
  clear E
  obtain ⟨l_x, a_x, b_x, -, -⟩ := V_x.out.pair.facts
  go_wp2_with fail
  refine (rcheck_fit x A c W V_x.out.raw F_x.out).mono ?_
  rintro e x1 ⟨rfl, hb⟩
  clear l_x a_x b_x
  have V_x := Lib.hid (V_x.out.below hb)
  have P_r0 := Lib.hid (P_r0.out.below hb)
  have HBW := Lib.hid (belowTo HBW.out hb)
  clear hb
  have hs0 : (sg == 0) = false := SG.out
  obtain ⟨l_x, a_x, b_x, -, -⟩ := V_x.out.pair.facts
  go_wp2_with fail
  refine (rsign x sg A c x1 V_x.out.raw HSG.out).mono ?_
  rintro e x2 ⟨rfl, hb⟩
  clear l_x a_x b_x
  have V_x := Lib.hid (V_x.out.below hb)
  have P_r0 := Lib.hid (P_r0.out.below hb)
  have HBW := Lib.hid (belowTo HBW.out hb)
  clear hb
  have hsz0 := P_r0.out.blk.lt
  obtain ⟨l_x, a_x, b_x, -, -⟩ := V_x.out.pair.facts
  go_wp2_with fail
  refine (C2.out x2 V_x.out.raw).mono ?_
  rintro e wd ⟨v2, rfl, hI2, hb⟩
  clear l_x a_x b_x
  have V_x := Lib.hid (V_x.out.below hb)
  have P_r0 := Lib.hid (P_r0.out.below hb)
  have HBW := Lib.hid (belowTo HBW.out hb)
  have O_2 := Lib.hid hI2
  clear hb hI2
  go_wp2_with fail
  refine (ref_told _ v2 z wd O_2.out).mono ?_
  rintro e w9 ⟨v, rfl, hI, hb⟩
  have hsz := P_r0.out.blk.lt
  obtain ⟨b9, A9, k9, c9, rfl⟩ := hI.shape
  have pr := P_r0.out.below hb
  obtain ⟨q1, q2, q3, q4, q5⟩ := pr.facts
  have HI := Lib.hid (hI.pair (g := w.heap.size + 1) (a := .bool b9) (b := .slice A9 k9 c9) (by omega))
  have HB := Lib.hid (below2 (belowTo HBW.out hb) (show w.heap.size ≤ w.heap.size + 1 by omega) (.bool b9) (.slice A9 k9 c9))
  have HQ := Lib.hid (pr.store (.bool b9) (.slice A9 k9 c9))
  clear hI hb pr
  go_wp2_with fail
  obtain ⟨_, k0, k1, _, _⟩ := HQ.out.facts
  exact bodyPost_ret (by simp [results, Tryz.results27, go_sem, k0, k1]) rfl ⟨_, rfl, HI.out.base (by omega), HB.out⟩

theorem ref_Shift_z (x n : Int) (A : Option Addr) (c : Nat) (hx : Fit x) (w : World) (h : Raw w A c (natL x.natAbs)) :
    Calls Tryz.prog 27 #[.agg #[.bool (decide (x < 0)), .slice A (natL x.natAbs).length c], .int .i64 n] w (RetInt2 w.heap.size w (shiftV x n) (shiftE x n)) := by
  unfold shiftV shiftE
  by_cases hx0 : x = 0
  · rw [if_pos hx0, if_neg (by simp [hx0])]
    exact ref_Shift_nought x 0 n A c hx w h hx0 rfl
  · rw [if_neg hx0]
    have hp := bz_pos hx0
    rcases (by omega : n < -65536 ∨ (n < 0 ∧ -65536 ≤ n) ∨ (0 ≤ n ∧ n ≤ 65536) ∨ 65536 < n) with hn | ⟨hn, hn2⟩ | ⟨hn, hn2⟩ | hn
    · rw [if_pos (by omega), if_neg (by omega)]
      refine ref_Shift_far x _ n A c hx w h hx0 hn ?_
      rw [show min (-n) 65536 = 65536 by omega]
    · rw [if_pos (by omega), if_neg (by omega)]
      refine ref_Shift_down x _ n A c hx w h hx0 hn hn2 ?_
      rw [show min (-n) 65536 = -n by omega]
    · rw [if_neg (show ¬ n < 0 by omega)]
      have h1 := ref_Shift_up x _ n A c hx w h hx0 hn hn2 rfl
      have hd := bz_double hx0 n.toNat
      by_cases hl : 65536 < (bz x : Int) + n
      · rw [if_pos hl, if_pos ⟨hx0, hn, hl⟩]
        have hf : ¬ Fit (x * ((2 ^ n.toNat : Nat) : Int)) := fun e => by have := hd.1 e; omega
        rw [toldV_long (by unfold Fit at hf; omega), toldE_long (by unfold Fit at hf; omega)] at h1
        exact h1
      · rw [if_neg hl, if_neg (fun e => hl e.2.2)]
        have hf : Fit (x * ((2 ^ n.toNat : Nat) : Int)) := hd.2 (by omega)
        rw [toldV_fits hf, toldE_fits hf] at h1
        exact h1
    · rw [if_neg (show ¬ n < 0 by omega), if_pos (by omega), if_pos ⟨hx0, by omega, by omega⟩]
      exact ref_Shift_above x 0 n A c hx w h hx0 hn rfl
end Go.Proofs.YtpcdiijmhllejaaGreatDoor

/- Root of package whole. (Written by wip/exact/genwroot.py.) -/
namespace Go.Proofs.YtpcdiijmhllejaaGreatDoor
open Go.RowKit

/-- A root handed back, whether its square is the number, and an error. -/
def RetRoot3 (base : Nat) (w : World) (r : Int) (sq : Bool) (k : Int) (e : Ending) (w' : World) : Prop := ∃ v, e = .returned (.tuple #[v, .bool sq, .int .i64 k]) ∧ IntOwn w' base v r ∧ Below w.heap.size w w'
theorem exact_Root_z (x r : Int) (sq : Bool) (A : Option Addr) (c : Nat) (w : World) (h : Raw w A c (natL x.natAbs)) (hx : lz x ≤ 60000) (h0 : 0 ≤ x) (hr : IsRootZ x r) (hs : sq = decide (r * r = x)) :
    Calls Tryz.prog 93 #[.agg #[.bool (decide (x < 0)), .slice A (natL x.natAbs).length c]] w (RetRoot w.heap.size w r sq) := by
  by_cases hx0 : x = 0
  · have e : r = 0 := rootZ_one h0 hr (by subst hx0; exact ⟨by omega, by omega, by omega⟩)
    have e2 : sq = true := by rw [hs, e, hx0]; rfl
    rw [e, e2]
    exact exact_Root_nought x A c w h hx0
  · by_cases hq : r * r = x
    · have e2 : sq = true := by rw [hs]; exact decide_eq_true hq
      rw [e2]; exact exact_Root_same x r A c w h hx (by omega) hr hq
    · have e2 : sq = false := by rw [hs]; exact decide_eq_false hq
      rw [e2]; exact exact_Root_less x r A c w h hx (by omega) hr hq

set_option maxRecDepth 100000 in
set_option maxHeartbeats 2000000 in
theorem whole_Root_ok (x r : Int) (sq : Bool) (A : Option Addr) (c : Nat) (hx : Fit x) (w : World) (h_x : Raw w A c (natL x.natAbs)) (h0 : 0 ≤ x) (hr : IsRootZ x r) (hs : sq = decide (r * r = x)) :
    Calls Tryz.prog 24 #[.agg #[.bool (decide (x < 0)), .slice A (natL x.natAbs).length c]] w (RetRoot3 w.heap.size w r sq 0) := by
  have hng : decide (x < 0) = false := decide_eq_false (by omega)
  have C1 := Lib.hid (fun (V : World) (a : Raw V A c (natL x.natAbs)) => exact_Root_z x r sq A c V a (Nat.le_trans hx (by decide)) h0 hr hs)
  have C0 := Lib.hid (fun (V : World) (a : Raw V A c (natL x.natAbs)) => echeck_fit x A c V a hx)
  rw [hng] at C1 C0
  have HNG := Lib.hid hng
  clear hx h0 hr hs hng
  have b0 := (((Below.refl w.heap.size w).alloc (Nat.le_refl _) (.cells #[.bool (decide (x < 0)), .slice A (natL x.natAbs).length c] 24)).alloc (by simp) (.cells #[.bool false, .slice none 0 0] 24))
  have p0 := (Pair.new w 24 (.bool (decide (x < 0))) (.slice A (natL x.natAbs).length c)).alloc (.cells #[.bool false, .slice none 0 0] 24)
  have p1 := Pair.new (w.alloc (.cells #[.bool (decide (x < 0)), .slice A (natL x.natAbs).length c] 24)) 24 (.bool false) (.slice none 0 0)
  simp only [World.size_alloc] at p1
  have V_x := Lib.hid (NV.of h_x b0 p0)
  have P_r0 := Lib.hid p1
  have RW_x := Lib.hid h_x
  have HBW := Lib.hid b0
  clear b0 p0 p1 h_x
  go_enter Tryz.func24, Tryz.ntmps24
  obtain ⟨W, E⟩ : ∃ W, W = ((w.alloc (.cells #[.bool (decide (x < 0)), .slice A (natL x.natAbs).length c] 24)).alloc (.cells #[.bool false, .slice none 0 0] 24)) := ⟨_, rfl⟩
  go_upto_region 1 with fail
  rw [← E] at V_x P_r0 HBW ⊢
  clear E
  have hng := HNG.out
  obtain ⟨l_x, a_x, b_x, -, -⟩ := V_x.out.pair.facts
  go_wp2_with fail
  refine (C0.out W V_x.out.raw).mono ?_
  rintro e x1 ⟨rfl, hb⟩
  clear l_x a_x b_x
  have V_x := Lib.hid (V_x.out.below hb)
  have P_r0 := Lib.hid (P_r0.out.below hb)
  have HBW := Lib.hid (belowTo HBW.out hb)
  clear hb
  obtain ⟨l_x, a_x, b_x, -, -⟩ := V_x.out.pair.facts
  go_wp2_with fail
  refine (C1.out x1 V_x.out.raw).mono ?_
  rintro e w9 ⟨v, rfl, hI, hb⟩
  clear l_x a_x b_x
  have hsz := P_r0.out.blk.lt
  obtain ⟨b9, A9, k9, c9, rfl⟩ := hI.shape
  have pr := P_r0.out.below hb
  obtain ⟨q1, q2, q3, q4, q5⟩ := pr.facts
  have HI := Lib.hid (hI.pair (g := w.heap.size + 1) (a := .bool b9) (b := .slice A9 k9 c9) (by omega))
  have HB := Lib.hid (below2 (belowTo HBW.out hb) (show w.heap.size ≤ w.heap.size + 1 by omega) (.bool b9) (.slice A9 k9 c9))
  have HQ := Lib.hid (pr.store (.bool b9) (.slice A9 k9 c9))
  have hbs : w.heap.size ≤ x1.heap.size := by omega
  clear hI hb pr hsz
  go_upto_region 4 with fail
  obtain ⟨Y, E⟩ : ∃ Y, Y = (w9.setCell ⟨w.heap.size + 1, 0, none⟩ (.bool b9)).setCell ⟨w.heap.size + 1, 1, none⟩ (.slice A9 k9 c9) := ⟨_, rfl⟩
  rw [← E] at HI HB HQ ⊢
  clear E q1 q2 q3 q4 q5
  obtain ⟨q1, q2, q3, q4, q5⟩ := HQ.out.facts
  have hset := set_same2 HQ.out
  go_wp2_with fail
  exact bodyPost_ret (by simp [results, Tryz.results24, go_sem, q2, q3]) rfl ⟨.agg #[.bool b9, .slice A9 k9 c9], rfl, HI.out.base hbs, HB.out⟩
end Go.Proofs.YtpcdiijmhllejaaGreatDoor
