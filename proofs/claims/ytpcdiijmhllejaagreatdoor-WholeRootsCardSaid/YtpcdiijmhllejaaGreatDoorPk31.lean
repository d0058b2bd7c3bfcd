/- Several texts in one: WRootR, RootEx, Roots0. -/
import Derived.Test.YtpcdiijmhllejaaGreatDoorPk29
import Derived.Test.YtpcdiijmhllejaaGreatDoorPk30
/- RootOf of the references. (Written by wip/exact/genwroot.py.) -/
namespace Go.Proofs.YtpcdiijmhllejaaGreatDoor
open Go.RowKit
theorem ref_Root_z (x r : Int) (sq : Bool) (A : Option Addr) (c : Nat) (w : World) (h : Raw w A c (natL x.natAbs)) (hx : lz x ≤ 60000) (h0 : 0 ≤ x) (hr : IsRootZ x r) (hs : sq = decide (r * r = x)) :
    Calls Tryz.prog 98 #[.agg #[.bool (decide (x < 0)), .slice A (natL x.natAbs).length c]] w (RetRoot w.heap.size w r sq) := by
  by_cases hx0 : x = 0
  · have e : r = 0 := rootZ_one h0 hr (by subst hx0; exact ⟨by omega, by omega, by omega⟩)
    have e2 : sq = true := by rw [hs, e, hx0]; rfl
    rw [e, e2]
    exact ref_Root_nought x A c w h hx0
  · by_cases hq : r * r = x
    · have e2 : sq = true := by rw [hs]; exact decide_eq_true hq
      rw [e2]; exact ref_Root_same x r A c w h hx (by omega) hr hq
    · have e2 : sq = false := by rw [hs]; exact decide_eq_false hq
      rw [e2]; exact ref_Root_less x r A c w h hx (by omega) hr hq

set_option maxRecDepth 100000 in
set_option maxHeartbeats 2000000 in
theorem ref_RootOf_ok (x r : Int) (sq : Bool) (A : Option Addr) (c : Nat) (hx : Fit x) (w : World) (h_x : Raw w A c (natL x.natAbs)) (h0 : 0 ≤ x) (hr : IsRootZ x r) (hs : sq = decide (r * r = x)) :
    Calls Tryz.prog 26 #[.agg #[.bool (decide (x < 0)), .slice A (natL x.natAbs).length c]] w (RetRoot3 w.heap.size w r sq 0) := by
  have hng : decide (x < 0) = false := decide_eq_false (by omega)
  have C1 := Lib.hid (fun (V : World) (a : Raw V A c (natL x.natAbs)) => ref_Root_z x r sq A c V a (Nat.le_trans hx (by decide)) h0 hr hs)
  have C0 := Lib.hid (fun (V : World) (a : Raw V A c (natL x.natAbs)) => rcheck_fit x A c V a hx)
  rw [hng] at C1 C0
  have HNG := Lib.hid hng
  clear hx h0 hr hs hng
  have b0 := (((Below.refl w.heap.size w).alloc (Nat.le_refl _) (.cells #[.bool (decide (x < 0)), .slice A (natL x.natAbs).length c] 24)).alloc (by simp) (.cells #[.bool false, .slice none 0 0] 24))
  have p0 := (Pair.new w 24 (.bool (decide (x < 0))) (.slice A (natL x.natAbs).length c)).alloc (.cells #[.bool false, .slice none 0 0] 24)
  have p1 := Pair.new (w.alloc (.cells #[.bool (decide (x < 0)), .slice A (natL x.natAbs).length c] 24)) 24 (.bool false) (.slice none 0 0)
  simp only [World.size_alloc] at p1
  have V_x := Lib.hid (NV.of h_x b0 p0)
  have P_r0 := Lib.hid p1
  have RW_x := Lib.hid h_x
  have HBW := Lib.hid b0
  clear b0 p0 p1 h_x
  go_enter Tryz.func26, Tryz.ntmps26
  obtain ⟨W, E⟩ : ∃ W, W = ((w.alloc (.cells #[.bool (decide (x < 0)), .slice A (natL x.natAbs).length c] 24)).alloc (.cells #[.bool false, .slice none 0 0] 24)) := ⟨_, rfl⟩
  go_upto_region 1 with fail
  rw [← E] at V_x P_r0 HBW ⊢
  clear E
  have hng := HNG.out
  obtain ⟨l_x, a_x, b_x, -, -⟩ := V_x.out.pair.facts
  go_wp2_with fail
  refine (C0.out W V_x.out.raw).mono ?_
  rintro e x1 ⟨rfl, hb⟩
  clear l_x a_x b_x
  have V_x := Lib.hid (V_x.out.below hb)
  have P_r0 := Lib.hid (P_r0.out.below hb)
  have HBW := Lib.hid (belowTo HBW.out hb)
  clear hb
  obtain ⟨l_x, a_x, b_x, -, -⟩ := V_x.out.pair.facts
  go_wp2_with fail
  refine (C1.out x1 V_x.out.raw).mono ?_
  rintro e w9 ⟨v, rfl, hI, hb⟩
  clear l_x a_x b_x
  obtain ⟨A9, c9, rfl, r9⟩ := hI.raw
  have hbs : w.heap.size ≤ x1.heap.size := HBW.out.size
  have V_x := Lib.hid (V_x.out.below hb)
  have P_r0 := Lib.hid (P_r0.out.below hb)
  have HBW := Lib.hid (belowTo HBW.out hb)
  have R_r := Lib.hid r9
  have O_r := Lib.hid (hI.base hbs)
  clear hb hI r9 hbs
  go_upto_region 4 with fail
  have ha := ((Below.refl w9.heap.size w9).alloc (Nat.le_refl _) (.cells #[.bool (decide (r < 0)), .slice A9 (natL r.natAbs).length c9] 24))
  have p_r := (Pair.new w9 24 (.bool (decide (r < 0))) (.slice A9 (natL r.natAbs).length c9))
  obtain ⟨y2, E⟩ : ∃ W, W = (w9.alloc (.cells #[.bool (decide (r < 0)), .slice A9 (natL r.natAbs).length c9] 24)) := ⟨_, rfl⟩
  rw [← E] at ha p_r ⊢
  have V_r := Lib.hid (NV.of R_r.out ha p_r)
  have V_x := Lib.hid (V_x.out.below ha)
  have P_r0 := Lib.hid (P_r0.out.below ha)
  have O_r := Lib.hid (O_r.out.below ha)
  have HBW := Lib.hid (belowTo HBW.out ha)
  obtain ⟨g2, hg⟩ : ∃ g, g = w9.heap.size := ⟨_, rfl⟩
  rw [← hg] at V_r ⊢
  clear E ha hg p_r
  obtain ⟨l_r, a_r, b_r, -, -⟩ := V_r.out.pair.facts
  obtain ⟨l_r0, a_r0, b_r0, f_r0, g_r0⟩ := P_r0.out.facts
  have HI := Lib.hid (O_r.out.pairT P_r0.out (.bool (decide (r < 0))) (.slice A9 (natL r.natAbs).length c9))
  have HB := Lib.hid (below2 HBW.out (show w.heap.size ≤ w.heap.size + 1 by omega) (.bool (decide (r < 0))) (.slice A9 (natL r.natAbs).length c9))
  have HQ := Lib.hid (P_r0.out.store (.bool (decide (r < 0))) (.slice A9 (natL r.natAbs).length c9))
  go_wp2_with fail
  obtain ⟨_, k0, k1, _, _⟩ := HQ.out.facts
  exact bodyPost_ret (by simp [results, Tryz.results26, go_sem, k0, k1]) rfl ⟨.agg #[.bool (decide (r < 0)), .slice A9 (natL r.natAbs).length c9], rfl, HI.out, HB.out⟩
end Go.Proofs.YtpcdiijmhllejaaGreatDoor

/- There is a root. Plain. -/
namespace Go.Proofs.YtpcdiijmhllejaaGreatDoor

theorem root_ex : ∀ x : Nat, ∃ r, IsRoot x r
  | 0 => ⟨0, by unfold IsRoot; omega⟩
  | n + 1 => by
    obtain ⟨r, h1, h2⟩ := root_ex n
    by_cases h : (r + 1) * (r + 1) ≤ n + 1
    · refine ⟨r + 1, h, ?_⟩
      have h3 : (r + 1) * (r + 1) < (r + 1 + 1) * (r + 1 + 1) := Nat.mul_lt_mul_of_lt_of_le (by omega) (by omega) (by omega)
      omega
    · exact ⟨r, by omega, by omega⟩
theorem rootZ_ex {x : Int} (h : 0 ≤ x) : ∃ r, IsRootZ x r := by
  obtain ⟨r, hr⟩ := root_ex x.toNat
  exact ⟨(r : Int), (isRootZ h).2 ⟨by omega, by simpa using hr⟩⟩
theorem rootZ_le {x r : Int} (h : IsRootZ x r) : r ≤ x := by
  obtain ⟨h0, h1, -⟩ := h
  rcases (by omega : r = 0 ∨ 1 ≤ r) with h2 | h2
  · subst h2; simpa using h1
  · have := Int.mul_le_mul_of_nonneg_left h2 h0
    omega
theorem ediv_abs (a : Int) (b : Nat) : (a / (b : Int)).natAbs ≤ a.natAbs := by
  rcases Nat.eq_zero_or_pos b with h0 | h0
  · subst h0; simp
  · rcases (by omega : 0 ≤ a ∨ a < 0) with h | h
    · obtain ⟨n, rfl⟩ := Int.eq_ofNat_of_zero_le h
      rw [← Int.natCast_ediv, Int.natAbs_natCast, Int.natAbs_natCast]
      exact Nat.div_le_self _ _
    · have h1 : a ≤ a / (b : Int) := by
        have h2 : (1 : Int) ≤ b := by omega
        have h3 := (Int.le_ediv_iff_mul_le (a := a) (b := a) (c := (b : Int)) (by omega)).2 (by
          obtain ⟨m, hm⟩ : ∃ m : Nat, a = -(m : Int) := ⟨a.natAbs, by omega⟩
          have h4 : m * 1 ≤ m * b := Nat.mul_le_mul_left m (by omega)
          rw [hm, Int.neg_mul]
          have h5 : ((m * b : Nat) : Int) = (m : Int) * (b : Int) := by simp
          omega)
        exact h3
      have h4 : a / (b : Int) < 0 := Int.ediv_neg_of_neg_of_pos h (by omega)
      omega
end Go.Proofs.YtpcdiijmhllejaaGreatDoor

/- Root and Shift of package whole and of the references, of whatever limbs and sign: alike. (Written by wip/whole/genroots0.py.) -/
namespace Go.Proofs.YtpcdiijmhllejaaGreatDoor
open Go.RowKit

set_option maxRecDepth 100000 in
set_option maxHeartbeats 2000000 in
theorem whole_Root_bad (n1 : Bool) (A : Option Addr) (c : Nat) (xs : List Nat) (w : World) (h_x : Raw w A c xs) (ho : okI n1 xs = false) :
    Calls Tryz.prog 24 #[.agg #[.bool n1, .slice A xs.length c]] w (RetRoot3 w.heap.size w 0 false 1) := by
  have C0 := Lib.hid (fun (V : World) (a : Raw V A c xs) => show Calls Tryz.prog 92 #[.agg #[.bool n1, .slice A xs.length c]] V fun e w' => e = .returned (.int .i64 1) ∧ Below V.heap.size V w' from by
    have := exact_Check_any n1 A c xs V a
    unfold errI at this
    rw [ho] at this
    exact this)
  clear ho
  have b0 := (((Below.refl w.heap.size w).alloc (Nat.le_refl _) (.cells #[.bool n1, .slice A xs.length c] 24)).alloc (by simp) (.cells #[.bool false, .slice none 0 0] 24))
  have p0 := (Pair.new w 24 (.bool n1) (.slice A xs.length c)).alloc (.cells #[.bool false, .slice none 0 0] 24)
  have p1 := Pair.new (w.alloc (.cells #[.bool n1, .slice A xs.length c] 24)) 24 (.bool false) (.slice none 0 0)
  simp only [World.size_alloc] at p1
  have V_x := Lib.hid (NR.of h_x b0 p0)
  have P_r0 := Lib.hid p1
  have RW_x := Lib.hid h_x
  have HBW := Lib.hid b0
  clear b0 p0 p1 h_x
  go_enter Tryz.func24, Tryz.ntmps24
  obtain ⟨W, E⟩ : ∃ W, W = ((w.alloc (.cells #[.bool n1, .slice A xs.length c] 24)).alloc (.cells #[.bool false, .slice none 0 0] 24)) := ⟨_, rfl⟩
  go_upto_region 1 with fail
  rw [← E] at V_x P_r0 HBW ⊢
  clear E
  obtain ⟨l_x, a_x, b_x, -, -⟩ := V_x.out.pair.facts
  go_wp2_with fail
  refine (C0.out W V_x.out.raw).mono ?_
  rintro e x1 ⟨rfl, hb⟩
  clear l_x a_x b_x
  have V_x := Lib.hid (V_x.out.below hb)
  have P_r0 := Lib.hid (P_r0.out.below hb)
  have HBW := Lib.hid (belowTo HBW.out hb)
  clear hb
  obtain ⟨l_r0, a_r0, b_r0, f_r0, g_r0⟩ := P_r0.out.facts
  have HQ := Lib.hid (P_r0.out.store (.bool false) (.slice none 0 0))
  have HB := Lib.hid (below2 HBW.out (show w.heap.size ≤ w.heap.size + 1 by omega) (.bool false) (.slice none 0 0))
  have hq0 := HQ.out.facts
  go_wp2_with fail
  obtain ⟨_, k0, k1, _, _⟩ := HQ.out.facts
  exact bodyPost_ret (by simp [results, Tryz.results24, go_sem, k0, k1]) rfl ⟨.agg #[.bool false, .slice none 0 0], rfl, IntOwn.nought _ _, HB.out⟩

set_option maxRecDepth 100000 in
set_option maxHeartbeats 2000000 in
theorem whole_Root_neg (x : Int) (A : Option Addr) (c : Nat) (w : World) (h_x : Raw w A c (natL x.natAbs)) (hx : Fit x) (hn : x < 0) :
    Calls Tryz.prog 24 #[.agg #[.bool (decide (x < 0)), .slice A (natL x.natAbs).length c]] w (RetRoot3 w.heap.size w 0 false 1) := by
  have HNG := Lib.hid (show decide (x < 0) = true from decide_eq_true hn)
  have C0 := fun (V : World) (a : Raw V A c (natL x.natAbs)) => echeck_fit x A c V a hx
  rw [HNG.out] at C0
  have H0 := Lib.hid C0
  clear hx hn C0
  have b0 := (((Below.refl w.heap.size w).alloc (Nat.le_refl _) (.cells #[.bool (decide (x < 0)), .slice A (natL x.natAbs).length c] 24)).alloc (by simp) (.cells #[.bool false, .slice none 0 0] 24))
  have p0 := (Pair.new w 24 (.bool (decide (x < 0))) (.slice A (natL x.natAbs).length c)).alloc (.cells #[.bool false, .slice none 0 0] 24)
  have p1 := Pair.new (w.alloc (.cells #[.bool (decide (x < 0)), .slice A (natL x.natAbs).length c] 24)) 24 (.bool false) (.slice none 0 0)
  simp only [World.size_alloc] at p1
  have V_x := Lib.hid (NV.of h_x b0 p0)
  have P_r0 := Lib.hid p1
  have RW_x := Lib.hid h_x
  have HBW := Lib.hid b0
  clear b0 p0 p1 h_x
  go_enter Tryz.func24, Tryz.ntmps24
  obtain ⟨W, E⟩ : ∃ W, W = ((w.alloc (.cells #[.bool (decide (x < 0)), .slice A (natL x.natAbs).length c] 24)).alloc (.cells #[.bool false, .slice none 0 0] 24)) := ⟨_, rfl⟩
  go_upto_region 1 with fail
  rw [← E] at V_x P_r0 HBW ⊢
  clear E
  have hng := HNG.out
  obtain ⟨l_x, a_x, b_x, -, -⟩ := V_x.out.pair.facts
  go_wp2_with fail
  refine (H0.out W V_x.out.raw).mono ?_
  rintro e x1 ⟨rfl, hb⟩
  clear l_x a_x b_x
  have V_x := Lib.hid (V_x.out.below hb)
  have P_r0 := Lib.hid (P_r0.out.below hb)
  have HBW := Lib.hid (belowTo HBW.out hb)
  clear hb
  obtain ⟨l_x, a_x, b_x, -, -⟩ := V_x.out.pair.facts
  obtain ⟨l_r0, a_r0, b_r0, f_r0, g_r0⟩ := P_r0.out.facts
  have HQ := Lib.hid (P_r0.out.store (.bool false) (.slice none 0 0))
  have HB := Lib.hid (below2 HBW.out (show w.heap.size ≤ w.heap.size + 1 by omega) (.bool false) (.slice none 0 0))
  have hq0 := HQ.out.facts
  go_wp2_with fail
  obtain ⟨_, k0, k1, _, _⟩ := HQ.out.facts
  exact bodyPost_ret (by simp [results, Tryz.results24, go_sem, k0, k1]) rfl ⟨.agg #[.bool false, .slice none 0 0], rfl, IntOwn.nought _ _, HB.out⟩

set_option maxRecDepth 100000 in
set_option maxHeartbeats 2000000 in
theorem ref_RootOf_bad (n1 : Bool) (A : Option Addr) (c : Nat) (xs : List Nat) (w : World) (h_x : Raw w A c xs) (ho : okI n1 xs = false) :
    Calls Tryz.prog 26 #[.agg #[.bool n1, .slice A xs.length c]] w (RetRoot3 w.heap.size w 0 false 1) := by
  have C0 := Lib.hid (fun (V : World) (a : Raw V A c xs) => show Calls Tryz.prog 97 #[.agg #[.bool n1, .slice A xs.length c]] V fun e w' => e = .returned (.int .i64 1) ∧ Below V.heap.size V w' from by
    have := ref_Check_any n1 A c xs V a
    unfold errI at this
    rw [ho] at this
    exact this)
  clear ho
  have b0 := (((Below.refl w.heap.size w).alloc (Nat.le_refl _) (.cells #[.bool n1, .slice A xs.length c] 24)).alloc (by simp) (.cells #[.bool false, .slice none 0 0] 24))
  have p0 := (Pair.new w 24 (.bool n1) (.slice A xs.length c)).alloc (.cells #[.bool false, .slice none 0 0] 24)
  have p1 := Pair.new (w.alloc (.cells #[.bool n1, .slice A xs.length c] 24)) 24 (.bool false) (.slice none 0 0)
  simp only [World.size_alloc] at p1
  have V_x := Lib.hid (NR.of h_x b0 p0)
  have P_r0 := Lib.hid p1
  have RW_x := Lib.hid h_x
  have HBW := Lib.hid b0
  clear b0 p0 p1 h_x
  go_enter Tryz.func26, Tryz.ntmps26
  obtain ⟨W, E⟩ : ∃ W, W = ((w.alloc (.cells #[.bool n1, .slice A xs.length c] 24)).alloc (.cells #[.bool false, .slice none 0 0] 24)) := ⟨_, rfl⟩
  go_upto_region 1 with fail
  rw [← E] at V_x P_r0 HBW ⊢
  clear E
  obtain ⟨l_x, a_x, b_x, -, -⟩ := V_x.out.pair.facts
  go_wp2_with fail
  refine (C0.out W V_x.out.raw).mono ?_
  rintro e x1 ⟨rfl, hb⟩
  clear l_x a_x b_x
  have V_x := Lib.hid (V_x.out.below hb)
  have P_r0 := Lib.hid (P_r0.out.below hb)
  have HBW := Lib.hid (belowTo HBW.out hb)
  clear hb
  obtain ⟨l_r0, a_r0, b_r0, f_r0, g_r0⟩ := P_r0.out.facts
  have HQ := Lib.hid (P_r0.out.store (.bool false) (.slice none 0 0))
  have HB := Lib.hid (below2 HBW.out (show w.heap.size ≤ w.heap.size + 1 by omega) (.bool false) (.slice none 0 0))
  have hq0 := HQ.out.facts
  go_wp2_with fail
  obtain ⟨_, k0, k1, _, _⟩ := HQ.out.facts
  exact bodyPost_ret (by simp [results, Tryz.results26, go_sem, k0, k1]) rfl ⟨.agg #[.bool false, .slice none 0 0], rfl, IntOwn.nought _ _, HB.out⟩

set_option maxRecDepth 100000 in
set_option maxHeartbeats 2000000 in
theorem ref_RootOf_neg (x : Int) (A : Option Addr) (c : Nat) (w : World) (h_x : Raw w A c (natL x.natAbs)) (hx : Fit x) (hn : x < 0) :
    Calls Tryz.prog 26 #[.agg #[.bool (decide (x < 0)), .slice A (natL x.natAbs).length c]] w (RetRoot3 w.heap.size w 0 false 1) := by
  have HNG := Lib.hid (show decide (x < 0) = true from decide_eq_true hn)
  have C0 := fun (V : World) (a : Raw V A c (natL x.natAbs)) => rcheck_fit x A c V a hx
  rw [HNG.out] at C0
  have H0 := Lib.hid C0
  clear hx hn C0
  have b0 := (((Below.refl w.heap.size w).alloc (Nat.le_refl _) (.cells #[.bool (decide (x < 0)), .slice A (natL x.natAbs).length c] 24)).alloc (by simp) (.cells #[.bool false, .slice none 0 0] 24))
  have p0 := (Pair.new w 24 (.bool (decide (x < 0))) (.slice A (natL x.natAbs).length c)).alloc (.cells #[.bool false, .slice none 0 0] 24)
  have p1 := Pair.new (w.alloc (.cells #[.bool (decide (x < 0)), .slice A (natL x.natAbs).length c] 24)) 24 (.bool false) (.slice none 0 0)
  simp only [World.size_alloc] at p1
  have V_x := Lib.hid (NV.of h_x b0 p0)
  have P_r0 := Lib.hid p1
  have RW_x := Lib.hid h_x
  have HBW := Lib.hid b0
  clear b0 p0 p1 h_x
  go_enter Tryz.func26, Tryz.ntmps26
  obtain ⟨W, E⟩ : ∃ W, W = ((w.alloc (.cells #[.bool (decide (x < 0)), .slice A (natL x.natAbs).length c] 24)).alloc (.cells #[.bool false, .slice none 0 0] 24)) := ⟨_, rfl⟩
  go_upto_region 1 with fail
  rw [← E] at V_x P_r0 HBW ⊢
  clear E
  have hng := HNG.out
  obtain ⟨l_x, a_x, b_x, -, -⟩ := V_x.out.pair.facts
  go_wp2_with fail
  refine (H0.out W V_x.out.raw).mono ?_
  rintro e x1 ⟨rfl, hb⟩
  clear l_x a_x b_x
  have V_x := Lib.hid (V_x.out.below hb)
  have P_r0 := Lib.hid (P_r0.out.below hb)
  have HBW := Lib.hid (belowTo HBW.out hb)
  clear hb
  obtain ⟨l_x, a_x, b_x, -, -⟩ := V_x.out.pair.facts
  obtain ⟨l_r0, a_r0, b_r0, f_r0, g_r0⟩ := P_r0.out.facts
  have HQ := Lib.hid (P_r0.out.store (.bool false) (.slice none 0 0))
  have HB := Lib.hid (below2 HBW.out (show w.heap.size ≤ w.heap.size + 1 by omega) (.bool false) (.slice none 0 0))
  have hq0 := HQ.out.facts
  go_wp2_with fail
  obtain ⟨_, k0, k1, _, _⟩ := HQ.out.facts
  exact bodyPost_ret (by simp [results, Tryz.results26, go_sem, k0, k1]) rfl ⟨.agg #[.bool false, .slice none 0 0], rfl, IntOwn.nought _ _, HB.out⟩

set_option maxRecDepth 100000 in
set_option maxHeartbeats 2000000 in
theorem whole_Shift_bad (n1 : Bool) (A : Option Addr) (c : Nat) (xs : List Nat) (n : Int) (w : World) (h_x : Raw w A c xs) (ho : okI n1 xs = false) :
    Calls Tryz.prog 25 #[.agg #[.bool n1, .slice A xs.length c], .int .i64 n] w (RetInt2 w.heap.size w 0 1) := by
  have C0 := Lib.hid (fun (V : World) (a : Raw V A c xs) => show Calls Tryz.prog 92 #[.agg #[.bool n1, .slice A xs.length c]] V fun e w' => e = .returned (.int .i64 1) ∧ Below V.heap.size V w' from by
    have := exact_Check_any n1 A c xs V a
    unfold errI at this
    rw [ho] at this
    exact this)
  clear ho
  have b0 := (((Below.refl w.heap.size w).alloc (Nat.le_refl _) (.cells #[.bool n1, .slice A xs.length c] 24)).alloc (by simp) (.cells #[.bool false, .slice none 0 0] 24))
  have p0 := (Pair.new w 24 (.bool n1) (.slice A xs.length c)).alloc (.cells #[.bool false, .slice none 0 0] 24)
  have p1 := Pair.new (w.alloc (.cells #[.bool n1, .slice A xs.length c] 24)) 24 (.bool false) (.slice none 0 0)
  simp only [World.size_alloc] at p1
  have V_x := Lib.hid (NR.of h_x b0 p0)
  have P_r0 := Lib.hid p1
  have RW_x := Lib.hid h_x
  have HBW := Lib.hid b0
  clear b0 p0 p1 h_x
  go_enter Tryz.func25, Tryz.ntmps25
  obtain ⟨W, E⟩ : ∃ W, W = ((w.alloc (.cells #[.bool n1, .slice A xs.length c] 24)).alloc (.cells #[.bool false, .slice none 0 0] 24)) := ⟨_, rfl⟩
  go_upto_region 1 with fail
  rw [← E] at V_x P_r0 HBW ⊢
  clear E
  obtain ⟨l_x, a_x, b_x, -, -⟩ := V_x.out.pair.facts
  go_wp2_with fail
  refine (C0.out W V_x.out.raw).mono ?_
  rintro e x1 ⟨rfl, hb⟩
  clear l_x a_x b_x
  have V_x := Lib.hid (V_x.out.below hb)
  have P_r0 := Lib.hid (P_r0.out.below hb)
  have HBW := Lib.hid (belowTo HBW.out hb)
  clear hb
  obtain ⟨l_r0, a_r0, b_r0, f_r0, g_r0⟩ := P_r0.out.facts
  have HQ := Lib.hid (P_r0.out.store (.bool false) (.slice none 0 0))
  have HB := Lib.hid (below2 HBW.out (show w.heap.size ≤ w.heap.size + 1 by omega) (.bool false) (.slice none 0 0))
  have hq0 := HQ.out.facts
  go_wp2_with fail
  obtain ⟨_, k0, k1, _, _⟩ := HQ.out.facts
  exact bodyPost_ret (by simp [results, Tryz.results25, go_sem, k0, k1]) rfl ⟨.agg #[.bool false, .slice none 0 0], rfl, IntOwn.nought _ _, HB.out⟩

set_option maxRecDepth 100000 in
set_option maxHeartbeats 2000000 in
theorem ref_Shift_bad (n1 : Bool) (A : Option Addr) (c : Nat) (xs : List Nat) (n : Int) (w : World) (h_x : Raw w A c xs) (ho : okI n1 xs = false) :
    Calls Tryz.prog 27 #[.agg #[.bool n1, .slice A xs.length c], .int .i64 n] w (RetInt2 w.heap.size w 0 1) := by
  have C0 := Lib.hid (fun (V : World) (a : Raw V A c xs) => show Calls Tryz.prog 97 #[.agg #[.bool n1, .slice A xs.length c]] V fun e w' => e = .returned (.int .i64 1) ∧ Below V.heap.size V w' from by
    have := ref_Check_any n1 A c xs V a
    unfold errI at this
    rw [ho] at this
    exact this)
  clear ho
  have b0 := (((Below.refl w.heap.size w).alloc (Nat.le_refl _) (.cells #[.bool n1, .slice A xs.length c] 24)).alloc (by simp) (.cells #[.bool false, .slice none 0 0] 24))
  have p0 := (Pair.new w 24 (.bool n1) (.slice A xs.length c)).alloc (.cells #[.bool false, .slice none 0 0] 24)
  have p1 := Pair.new (w.alloc (.cells #[.bool n1, .slice A xs.length c] 24)) 24 (.bool false) (.slice none 0 0)
  simp only [World.size_alloc] at p1
  have V_x := Lib.hid (NR.of h_x b0 p0)
  have P_r0 := Lib.hid p1
  have RW_x := Lib.hid h_x
  have HBW := Lib.hid b0
  clear b0 p0 p1 h_x
  go_enter Tryz.func27, Tryz.ntmps27
  obtain ⟨W, E⟩ : ∃ W, W = ((w.alloc (.cells #[.bool n1, .slice A xs.length c] 24)).alloc (.cells #[.bool false, .slice none 0 0] 24)) := ⟨_, rfl⟩
  go_upto_region 1 with fail
  rw [← E] at V_x P_r0 HBW ⊢
  clear E
  obtain ⟨l_x, a_x, b_x, -, -⟩ := V_x.out.pair.facts
  go_wp2_with fail
  refine (C0.out W V_x.out.raw).mono ?_
  rintro e x1 ⟨rfl, hb⟩
  clear l_x a_x b_x
  have V_x := Lib.hid (V_x.out.below hb)
  have P_r0 := Lib.hid (P_r0.out.below hb)
  have HBW := Lib.hid (belowTo HBW.out hb)
  clear hb
  obtain ⟨l_r0, a_r0, b_r0, f_r0, g_r0⟩ := P_r0.out.facts
  have HQ := Lib.hid (P_r0.out.store (.bool false) (.slice none 0 0))
  have HB := Lib.hid (below2 HBW.out (show w.heap.size ≤ w.heap.size + 1 by omega) (.bool false) (.slice none 0 0))
  have hq0 := HQ.out.facts
  go_wp2_with fail
  obtain ⟨_, k0, k1, _, _⟩ := HQ.out.facts
  exact bodyPost_ret (by simp [results, Tryz.results27, go_sem, k0, k1]) rfl ⟨.agg #[.bool false, .slice none 0 0], rfl, IntOwn.nought _ _, HB.out⟩

/-- Root: both hand back the same. -/
theorem roots_alike (n1 : Bool) (xs : List Nat) (hl : Limbs xs) : ∃ (r : Int) (sq : Bool) (k : Int), lz r ≤ 2048 ∧
    (∀ (A : Option Addr) (c : Nat) (w : World), Raw w A c xs → Calls Tryz.prog 24 #[.agg #[.bool n1, .slice A xs.length c]] w (RetRoot3 w.heap.size w r sq k)) ∧
    (∀ (A : Option Addr) (c : Nat) (w : World), Raw w A c xs → Calls Tryz.prog 26 #[.agg #[.bool n1, .slice A xs.length c]] w (RetRoot3 w.heap.size w r sq k)) := by
  by_cases o1 : okI n1 xs = true
  · obtain ⟨e1, e2, e3⟩ := ok_num hl o1
    generalize ival n1 xs = x at *
    subst e1 e2
    rcases (by omega : x < 0 ∨ 0 ≤ x) with hn | hn
    · exact ⟨0, false, 1, by decide, fun A c w h => whole_Root_neg x A c w h e3 hn, fun A c w h => ref_RootOf_neg x A c w h e3 hn⟩
    · obtain ⟨r, hr⟩ := rootZ_ex hn
      exact ⟨r, decide (r * r = x), 0, Nat.le_trans (lz_mono (by have := rootZ_le hr; have := hr.1; omega)) e3, fun A c w h => whole_Root_ok x r _ A c e3 w h hn hr rfl, fun A c w h => ref_RootOf_ok x r _ A c e3 w h hn hr rfl⟩
  · have o2 : okI n1 xs = false := by simpa using o1
    exact ⟨0, false, 1, by decide, fun A c w h => whole_Root_bad n1 A c xs w h o2, fun A c w h => ref_RootOf_bad n1 A c xs w h o2⟩
theorem shift_lz {x : Int} (hx : Fit x) (n : Int) : lz (shiftV x n) ≤ 2048 := by
  unfold shiftV
  split
  · decide
  · rename_i h0
    split
    · refine Nat.le_trans (lz_mono ?_) hx
      exact ediv_abs _ _
    · split
      · decide
      · rename_i h1 h2
        exact (bz_double h0 n.toNat).2 (by omega)
/-- Shift: likewise. -/
theorem shifts_alike (n1 : Bool) (xs : List Nat) (n : Int) (h1 : -9223372036854775808 ≤ n) (h2 : n ≤ 9223372036854775807) (hl : Limbs xs) : ∃ (z k : Int), lz z ≤ 2048 ∧
    (∀ (A : Option Addr) (c : Nat) (w : World), Raw w A c xs → Calls Tryz.prog 25 #[.agg #[.bool n1, .slice A xs.length c], .int .i64 n] w (RetInt2 w.heap.size w z k)) ∧
    (∀ (A : Option Addr) (c : Nat) (w : World), Raw w A c xs → Calls Tryz.prog 27 #[.agg #[.bool n1, .slice A xs.length c], .int .i64 n] w (RetInt2 w.heap.size w z k)) := by
  by_cases o1 : okI n1 xs = true
  · obtain ⟨e1, e2, e3⟩ := ok_num hl o1
    generalize ival n1 xs = x at *
    subst e1 e2
    exact ⟨shiftV x n, shiftE x n, shift_lz e3 n, fun A c w h => whole_Shift_z x n A c e3 h1 h2 w h, fun A c w h => ref_Shift_z x n A c e3 w h⟩
  · have o2 : okI n1 xs = false := by simpa using o1
    exact ⟨0, 1, by decide, fun A c w h => whole_Shift_bad n1 A c xs n w h o2, fun A c w h => ref_Shift_bad n1 A c xs n w h o2⟩
end Go.Proofs.YtpcdiijmhllejaaGreatDoor
