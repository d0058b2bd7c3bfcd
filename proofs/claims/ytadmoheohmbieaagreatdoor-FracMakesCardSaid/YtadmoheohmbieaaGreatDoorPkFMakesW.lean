/- Several texts in one: FMakesW. -/
import Derived.Test.YtadmoheohmbieaaGreatDoorPk34
import Derived.Test.YtadmoheohmbieaaGreatDoorPk36
/- FracMakes: the walk. (Written by wip/frac/genfmakes.py.) -/
namespace Go.Proofs.YtadmoheohmbieaaGreatDoor
open Go.RowKit

set_option maxRecDepth 100000 in
set_option maxHeartbeats 4000000 in
theorem makes_true (n1 n2 : Bool) (A B : Option Addr) (c e0 : Nat) (xs ys : List Nat) (n d : Int) (hn : -9223372036854775808 ≤ n ∧ n ≤ 9223372036854775807) (hd : -9223372036854775808 ≤ d ∧ d ≤ 9223372036854775807) (w : World) (h : Raw w A c xs) (g : Raw w B e0 ys) (htab : powTab w) (hx : xs.length ≤ 1152921504606846975) (hy : ys.length ≤ 1152921504606846975) :
    Calls Tryz.prog 3 #[.agg #[.bool n1, .slice A xs.length c], .agg #[.bool n2, .slice B ys.length e0], .int .i64 n, .int .i64 d] w fun e w' => e = .returned (.bool true) ∧ Below w.heap.size w w' := by
  have px := (Pair.new w 24 (.bool n1) (.slice A xs.length c)).alloc (.cells #[.bool n2, .slice B ys.length e0] 24)
  have py := Pair.new (w.alloc (.cells #[.bool n1, .slice A xs.length c] 24)) 24 (.bool n2) (.slice B ys.length e0)
  have b0 := ((Below.refl w.heap.size w).alloc (Nat.le_refl _) (.cells #[.bool n1, .slice A xs.length c] 24)).alloc (by simp) (.cells #[.bool n2, .slice B ys.length e0] 24)
  have rx := h.below b0
  have ry := g.below b0
  have ht := htab.below2 b0
  simp only [World.size_alloc] at py
  have fn : Fit n := (okI_true.1 (ok64' n hn.1 hn.2)).1
  have fd : Fit d := (okI_true.1 (ok64' d hd.1 hd.2)).1
  have FN := Lib.hid fn
  have FD := Lib.hid fd
  have BN := Lib.hid hn
  have BD := Lib.hid hd
  have D1 := fun V => intSize_any n1 A c xs.length hx V
  have D2 := fun V => intSize_any n2 B e0 ys.length hy V
  have D3 := fun (V : World) (h : Raw V A c xs) (g : Raw V B e0 ys) => cost_low n1 n2 A B c e0 xs ys V h g
  rw [costLow_N] at D3
  have hc3 := costN_le xs.length ys.length
  obtain ⟨s1, hs1⟩ : ∃ k : Nat, k = 1 + xs.length := ⟨_, rfl⟩
  obtain ⟨s2, hs2⟩ : ∃ k : Nat, k = 1 + ys.length := ⟨_, rfl⟩
  obtain ⟨s3, hs3⟩ : ∃ k : Nat, k = costN xs.length ys.length := ⟨_, rfl⟩
  rw [← hs1] at D1
  rw [← hs2] at D2
  rw [← hs3] at D3 hc3
  obtain ⟨b, hb⟩ : ∃ b : Bool, b = decide (1048576 < [s1, s2, s3].sum) := ⟨_, rfl⟩
  have HLEN := Lib.hid (show b = false → xs.length ≤ 1048576 ∧ ys.length ≤ 1048576 from by
    intro e
    rw [e] at hb
    have := of_decide_eq_false hb.symm
    simp at this
    omega)
  have H4 := Lib.hid (fun (u : Value) (V : World) (h : SliceOf [s1, s2, s3] u V) => beyond_of [s1, s2, s3] b (by simp) (by simp; omega) hb u V h)
  have H1 := Lib.hid D1
  have H2 := Lib.hid D2
  have H3 := Lib.hid D3
  have PX := Lib.hid px
  have PY := Lib.hid py
  have RX := Lib.hid rx
  have RY := Lib.hid ry
  have HT := Lib.hid ht
  have HB := Lib.hid b0
  clear px py b0 rx ry ht h g htab hx hy fn fd hn hd D1 D2 D3 hc3 hs1 hs2 hs3 hb
  go_enter Tryz.func3, Tryz.ntmps3
  go_wp2_with fail
  obtain ⟨W, E⟩ : ∃ W, W = (w.alloc (.cells #[.bool n1, .slice A xs.length c] 24)).alloc (.cells #[.bool n2, .slice B ys.length e0] 24) := ⟨_, rfl⟩
  rw [← E] at PX PY RX RY HT HB ⊢
  clear E
  refine wp_region_free [.val (.agg #[.bool n1, .slice A xs.length c]) [], .val (.int .i64 s1) [], .val (.agg #[.bool n2, .slice B ys.length e0]) [], .val (.int .i64 s2) [], .val (.agg #[.bool n1, .slice A xs.length c]) [], .val (.agg #[.bool n2, .slice B ys.length e0]) [], .val (.int .i64 s3) [], .any false (SliceOf [s1, s2, s3]) [], .val (.bool b) [7]] W.heap.size W [] blkInt _ mixedOrders2 (Nat.le_refl _) (Below.refl _ _) (KeptV.refl _ _ _) rfl (by kernel_rfl) (by kernel_rfl) (by kernel_rfl) (by kernel_rfl) (by kernel_rfl) (by kernel_rfl) (by kernel_rfl) (by kernel_rfl) rfl (by simp [oldsF]) ?_ ?_ ?_ ?_
  · simp only [StableF, and_true]
    exact fun u V V' h k => h.kept k
  · simp only [OldsF]
  · simp (maxSteps := 4000000) [StepsF, DepF, freeAct, fill, pairs]
    repeat' (first | apply And.intro | (intro (u : Value)) | (intro (u : Nat)))
    all_goals first
    | (intro V hV hK
       have rx := RX.out.below hV
       have ry := RY.out.below hV
       obtain ⟨-, a_x, b_x, -, -⟩ := (PX.out.below hV).facts
       obtain ⟨-, a_y, b_y, -, -⟩ := (PY.out.below hV).facts
       clear hV hK
       go_simp
       first
       | exact Below.refl _ _
       | ((with_reducible refine (H1.out V).mono ?_); rintro e w' ⟨rfl, hb⟩; exact ⟨rfl, hb⟩)
       | ((with_reducible refine (H2.out V).mono ?_); rintro e w' ⟨rfl, hb⟩; exact ⟨rfl, hb⟩)
       | ((with_reducible refine (H3.out V rx ry).mono ?_); rintro e w' ⟨rfl, hb⟩; exact ⟨rfl, hb⟩)
       | exact ⟨SliceOf.new [s1, s2, s3] _ _ _ rfl, (Below.refl _ _).alloc (Nat.le_refl _) _⟩)
    | (intro V hV hK h1
       clear hV hK
       go_simp
       refine (H4.out _ V h1).mono ?_
       rintro e w' ⟨rfl, hb⟩
       exact ⟨rfl, hb⟩)
  · simp [EndF, FactsF, freeAct, fill, pairs]
    intro u1 V hV hK _ _ _ _
    have PX := Lib.hid (PX.out.below hV)
    have PY := Lib.hid (PY.out.below hV)
    have RX := Lib.hid (RX.out.below hV)
    have RY := Lib.hid (RY.out.below hV)
    have HT := Lib.hid (HT.out.below2 hV)
    have HB := Lib.hid (belowTo HB.out hV)
    clear hV hK H1 H2 H3 H4
    cases b
    case true =>
      go_wp2_with fail
      go_ret
      exact ⟨rfl, HB.out⟩
    have HL := Lib.hid (HLEN.out rfl)
    clear HLEN
    obtain ⟨l_x, x0, x1, -, -⟩ := PX.out.facts
    go_wp2_with fail
    refine (twin_any n1 A c xs V RX.out HL.out.1).mono ?_
    rintro e wx1 ⟨g1, rfl, t1, m1, hb⟩
    clear l_x x0 x1
    have T1 := Lib.hid t1
    clear t1 m1
    have HS_wx1 := Lib.hid (show V.heap.size ≤ wx1.heap.size from hb.size)
    have PX := Lib.hid (PX.out.below hb)
    have PY := Lib.hid (PY.out.below hb)
    have RX := Lib.hid (RX.out.below hb)
    have RY := Lib.hid (RY.out.below hb)
    have HT := Lib.hid (HT.out.below2 hb)
    have HB := Lib.hid (belowTo HB.out hb)
    have ha := (Below.refl wx1.heap.size wx1).alloc (Nat.le_refl _) (.cells #[.bool n1, .slice (some ⟨g1, 0, none⟩) xs.length (xs.length + 1)] 24)
    have hn := Pair.new wx1 24 (.bool n1) (.slice (some ⟨g1, 0, none⟩) xs.length (xs.length + 1))
    have hz : (wx1.alloc (.cells #[.bool n1, .slice (some ⟨g1, 0, none⟩) xs.length (xs.length + 1)] 24)).heap.size = wx1.heap.size + 1 := by simp
    go_upto_region 4 with fail
    obtain ⟨wy2, E⟩ : ∃ W, W = wx1.alloc (.cells #[.bool n1, .slice (some ⟨g1, 0, none⟩) xs.length (xs.length + 1)] 24) := ⟨_, rfl⟩
    obtain ⟨q2, hq⟩ : ∃ q, q = wx1.heap.size := ⟨_, rfl⟩
    rw [← E] at ha
    rw [← E, ← hq] at hn hz ⊢
    have HZ_wy2 := Lib.hid (And.intro hq hz)
    have P1 := Lib.hid hn
    have PX := Lib.hid (PX.out.below ha)
    have PY := Lib.hid (PY.out.below ha)
    have RX := Lib.hid (RX.out.below ha)
    have RY := Lib.hid (RY.out.below ha)
    have HT := Lib.hid (HT.out.below2 ha)
    have T1 := Lib.hid (T1.out.below ha)
    have HB := Lib.hid (belowTo HB.out ha)
    clear ha hn hz hq E
    obtain ⟨l_y, y0, y1, -, -⟩ := PY.out.facts
    go_wp2_with fail
    refine (twin_any n2 B e0 ys wy2 RY.out HL.out.2).mono ?_
    rintro e wx3 ⟨g2, rfl, t2, m2, hb⟩
    clear l_y y0 y1
    have T2 := Lib.hid t2
    clear t2 m2
    have HS_wx3 := Lib.hid (show wy2.heap.size ≤ wx3.heap.size from hb.size)
    have PX := Lib.hid (PX.out.below hb)
    have PY := Lib.hid (PY.out.below hb)
    have RX := Lib.hid (RX.out.below hb)
    have RY := Lib.hid (RY.out.below hb)
    have HT := Lib.hid (HT.out.below2 hb)
    have T1 := Lib.hid (T1.out.below hb)
    have P1 := Lib.hid (P1.out.below hb)
    have HB := Lib.hid (belowTo HB.out hb)
    have ha := (Below.refl wx3.heap.size wx3).alloc (Nat.le_refl _) (.cells #[.bool n2, .slice (some ⟨g2, 0, none⟩) ys.length (ys.length + 1)] 24)
    have hn := Pair.new wx3 24 (.bool n2) (.slice (some ⟨g2, 0, none⟩) ys.length (ys.length + 1))
    have hz : (wx3.alloc (.cells #[.bool n2, .slice (some ⟨g2, 0, none⟩) ys.length (ys.length + 1)] 24)).heap.size = wx3.heap.size + 1 := by simp
    go_upto_region 5 with fail
    obtain ⟨wy4, E⟩ : ∃ W, W = wx3.alloc (.cells #[.bool n2, .slice (some ⟨g2, 0, none⟩) ys.length (ys.length + 1)] 24) := ⟨_, rfl⟩
    obtain ⟨q4, hq⟩ : ∃ q, q = wx3.heap.size := ⟨_, rfl⟩
    rw [← E] at ha
    rw [← E, ← hq] at hn hz ⊢
    have HZ_wy4 := Lib.hid (And.intro hq hz)
    have P2 := Lib.hid hn
    have PX := Lib.hid (PX.out.below ha)
    have PY := Lib.hid (PY.out.below ha)
    have RX := Lib.hid (RX.out.below ha)
    have RY := Lib.hid (RY.out.below ha)
    have HT := Lib.hid (HT.out.below2 ha)
    have T1 := Lib.hid (T1.out.below ha)
    have P1 := Lib.hid (P1.out.below ha)
    have T2 := Lib.hid (T2.out.below ha)
    have HB := Lib.hid (belowTo HB.out ha)
    clear ha hn hz hq E
    have RA := Lib.hid (T1.out.raw RX.out.limbs (by have := HL.out; omega))
    have RB := Lib.hid (T2.out.raw RY.out.limbs (by have := HL.out; omega))
    have C3 := fun (V : World) (h : Raw V (some ⟨g1, 0, none⟩) (xs.length + 1) xs) (g : Raw V (some ⟨g2, 0, none⟩) (ys.length + 1) ys) => frac_Make n1 n2 (some ⟨g1, 0, none⟩) (some ⟨g2, 0, none⟩) (xs.length + 1) (ys.length + 1) xs ys V h g
    have C5 := fun (V : World) (h : Raw V A c xs) (g : Raw V B e0 ys) => ref02_Make n1 n2 A B c e0 xs ys V h g
    have hfit := mk_fit n1 n2 xs ys RX.out.limbs RY.out.limbs
    obtain ⟨N, hN⟩ : ∃ k : Int, k = mkN n1 n2 xs ys := ⟨_, rfl⟩
    obtain ⟨D, hD⟩ : ∃ k : Int, k = mkD n1 n2 xs ys := ⟨_, rfl⟩
    obtain ⟨K, hK⟩ : ∃ k : Int, k = mkE n1 n2 xs ys := ⟨_, rfl⟩
    rw [← hN, ← hD, ← hK] at C3 C5
    rw [← hN, ← hD] at hfit
    have HFIT := Lib.hid hfit
    have H3 := Lib.hid C3
    have H5 := Lib.hid C5
    clear hN hD hK hfit C3 C5
    have C6 := fun (V : World) => frac_Of n d BN.out.1 BN.out.2 BD.out.1 BD.out.2 V
    have C7 := fun (V : World) (A B : Option Addr) (c e0 : Nat) (h : Raw V A c (natL n.natAbs)) (g : Raw V B e0 (natL d.natAbs)) => ref02_Make (decide (n < 0)) (decide (d < 0)) A B c e0 _ _ V h g
    obtain ⟨m1, m2, m3⟩ := mk_z n d FN.out FD.out
    rw [m1, m2, m3] at C7
    have hfit := mk_fit (decide (n < 0)) (decide (d < 0)) (natL n.natAbs) (natL d.natAbs) (limbs_natL _) (limbs_natL _)
    rw [m1, m2] at hfit
    obtain ⟨N2, hN⟩ : ∃ k : Int, k = zN n d := ⟨_, rfl⟩
    obtain ⟨D2, hD⟩ : ∃ k : Int, k = zD n d := ⟨_, rfl⟩
    obtain ⟨K2, hK⟩ : ∃ k : Int, k = zE d := ⟨_, rfl⟩
    rw [← hN, ← hD, ← hK] at C6 C7
    rw [← hN, ← hD] at hfit
    have HFIT2 := Lib.hid hfit
    have H6 := Lib.hid C6
    have H7 := Lib.hid C7
    clear m1 m2 m3 hN hD hK hfit C6 C7 FN FD
    have C8 := fun (V : World) (h : Raw V (some ⟨g1, 0, none⟩) (xs.length + 1) xs) (g : Raw V (some ⟨g2, 0, none⟩) (ys.length + 1) ys) => frac_Check n1 n2 (some ⟨g1, 0, none⟩) (some ⟨g2, 0, none⟩) (xs.length + 1) (ys.length + 1) xs ys V h g
    have C9 := fun (V : World) (h : Raw V A c xs) (g : Raw V B e0 ys) => ref02_Check n1 n2 A B c e0 xs ys V h g
    obtain ⟨CH, hCH⟩ : ∃ k : Int, k = chkE n1 n2 xs ys := ⟨_, rfl⟩
    rw [← hCH] at C8 C9
    have H8 := Lib.hid C8
    have H9 := Lib.hid C9
    clear hCH C8 C9
    have B_P1 := P1
    have B_P2 := P2
    have B_PX := PX
    have B_PY := PY
    have B_T1 := T1
    have B_T2 := T2
    have B_RX := RX
    have B_RY := RY
    have B_HT := HT
    have B_HB := HB
    have HY := Lib.hid (Below.refl wy4.heap.size wy4)
    obtain ⟨l_x, x0, x1, -, -⟩ := P1.out.facts
    obtain ⟨l_y, y0, y1, -, -⟩ := P2.out.facts
    go_wp2_with fail
    refine (H3.out wy4 RA.out RB.out).mono ?_
    rintro e wx5 ⟨v, rfl, hI, hb⟩
    clear l_x x0 x1 l_y y0 y1
    obtain ⟨A3, c3, B3, e3, rfl, -⟩ := hI.form
    have O_VA := Lib.hid hI
    clear hI
    have HS_wx5 := Lib.hid (show wy4.heap.size ≤ wx5.heap.size from hb.size)
    have PX := Lib.hid (PX.out.below hb)
    have PY := Lib.hid (PY.out.below hb)
    have RX := Lib.hid (RX.out.below hb)
    have RY := Lib.hid (RY.out.below hb)
    have HT := Lib.hid (HT.out.below2 hb)
    have T1 := Lib.hid (T1.out.below hb)
    have P1 := Lib.hid (P1.out.below hb)
    have T2 := Lib.hid (T2.out.below hb)
    have P2 := Lib.hid (P2.out.below hb)
    have RA := Lib.hid (RA.out.below hb)
    have RB := Lib.hid (RB.out.below hb)
    have HB := Lib.hid (belowTo HB.out hb)
    have HY := Lib.hid (belowTo HY.out hb)
    have ha := (Below.refl wx5.heap.size wx5).alloc (Nat.le_refl _) (.cells #[.bool (decide (N < 0)), .slice A3 (natL N.natAbs).length c3, .bool (decide (D < 0)), .slice B3 (natL D.natAbs).length e3] 30)
    have hn := FVar.new O_VA.out
    have hz : (wx5.alloc (.cells #[.bool (decide (N < 0)), .slice A3 (natL N.natAbs).length c3, .bool (decide (D < 0)), .slice B3 (natL D.natAbs).length e3] 30)).heap.size = wx5.heap.size + 1 := by simp
    go_upto_region 6 with fail
    obtain ⟨wy6, E⟩ : ∃ W, W = wx5.alloc (.cells #[.bool (decide (N < 0)), .slice A3 (natL N.natAbs).length c3, .bool (decide (D < 0)), .slice B3 (natL D.natAbs).length e3] 30) := ⟨_, rfl⟩
    obtain ⟨q6, hq⟩ : ∃ q, q = wx5.heap.size := ⟨_, rfl⟩
    rw [← E] at ha
    rw [← E, ← hq] at hn hz ⊢
    have HZ_wy6 := Lib.hid (And.intro hq hz)
    have VA := Lib.hid hn
    have PX := Lib.hid (PX.out.below ha)
    have PY := Lib.hid (PY.out.below ha)
    have RX := Lib.hid (RX.out.below ha)
    have RY := Lib.hid (RY.out.below ha)
    have HT := Lib.hid (HT.out.below2 ha)
    have T1 := Lib.hid (T1.out.below ha)
    have P1 := Lib.hid (P1.out.below ha)
    have T2 := Lib.hid (T2.out.below ha)
    have P2 := Lib.hid (P2.out.below ha)
    have RA := Lib.hid (RA.out.below ha)
    have RB := Lib.hid (RB.out.below ha)
    have HB := Lib.hid (belowTo HB.out ha)
    have HY := Lib.hid (belowTo HY.out ha)
    clear ha hn hz hq E
    obtain ⟨l_x, x0, x1, -, -⟩ := P1.out.facts
    obtain ⟨l_y, y0, y1, -, -⟩ := P2.out.facts
    go_wp2_with fail
    refine (H3.out wy6 RA.out RB.out).mono ?_
    rintro e wx7 ⟨v, rfl, hI, hb⟩
    clear l_x x0 x1 l_y y0 y1
    obtain ⟨A4, c4, B4, e4, rfl, -⟩ := hI.form
    have O_VB := Lib.hid hI
    clear hI
    have HS_wx7 := Lib.hid (show wy6.heap.size ≤ wx7.heap.size from hb.size)
    have PX := Lib.hid (PX.out.below hb)
    have PY := Lib.hid (PY.out.below hb)
    have RX := Lib.hid (RX.out.below hb)
    have RY := Lib.hid (RY.out.below hb)
    have HT := Lib.hid (HT.out.below2 hb)
    have T1 := Lib.hid (T1.out.below hb)
    have P1 := Lib.hid (P1.out.below hb)
    have T2 := Lib.hid (T2.out.below hb)
    have P2 := Lib.hid (P2.out.below hb)
    have RA := Lib.hid (RA.out.below hb)
    have RB := Lib.hid (RB.out.below hb)
    have VA := Lib.hid (VA.out.below hb)
    have HB := Lib.hid (belowTo HB.out hb)
    have HY := Lib.hid (belowTo HY.out hb)
    have ha := (Below.refl wx7.heap.size wx7).alloc (Nat.le_refl _) (.cells #[.bool (decide (N < 0)), .slice A4 (natL N.natAbs).length c4, .bool (decide (D < 0)), .slice B4 (natL D.natAbs).length e4] 30)
    have hn := FVar.new O_VB.out
    have hz : (wx7.alloc (.cells #[.bool (decide (N < 0)), .slice A4 (natL N.natAbs).length c4, .bool (decide (D < 0)), .slice B4 (natL D.natAbs).length e4] 30)).heap.size = wx7.heap.size + 1 := by simp
    go_upto_region 7 with fail
    obtain ⟨wy8, E⟩ : ∃ W, W = wx7.alloc (.cells #[.bool (decide (N < 0)), .slice A4 (natL N.natAbs).length c4, .bool (decide (D < 0)), .slice B4 (natL D.natAbs).length e4] 30) := ⟨_, rfl⟩
    obtain ⟨q8, hq⟩ : ∃ q, q = wx7.heap.size := ⟨_, rfl⟩
    rw [← E] at ha
    rw [← E, ← hq] at hn hz ⊢
    have HZ_wy8 := Lib.hid (And.intro hq hz)
    have VB := Lib.hid hn
    have PX := Lib.hid (PX.out.below ha)
    have PY := Lib.hid (PY.out.below ha)
    have RX := Lib.hid (RX.out.below ha)
    have RY := Lib.hid (RY.out.below ha)
    have HT := Lib.hid (HT.out.below2 ha)
    have T1 := Lib.hid (T1.out.below ha)
    have P1 := Lib.hid (P1.out.below ha)
    have T2 := Lib.hid (T2.out.below ha)
    have P2 := Lib.hid (P2.out.below ha)
    have RA := Lib.hid (RA.out.below ha)
    have RB := Lib.hid (RB.out.below ha)
    have VA := Lib.hid (VA.out.below ha)
    have HB := Lib.hid (belowTo HB.out ha)
    have HY := Lib.hid (belowTo HY.out ha)
    clear ha hn hz hq E
    obtain ⟨l_x, x0, x1, -, -⟩ := PX.out.facts
    obtain ⟨l_y, y0, y1, -, -⟩ := PY.out.facts
    go_wp2_with fail
    refine (H5.out wy8 RX.out RY.out).mono ?_
    rintro e wx9 ⟨v, rfl, hI, hb⟩
    clear l_x x0 x1 l_y y0 y1
    obtain ⟨A5, c5, B5, e5, rfl, r1, r2⟩ := hI.form
    have O_VW := Lib.hid (And.intro r1 r2)
    clear hI r1 r2
    have HS_wx9 := Lib.hid (show wy8.heap.size ≤ wx9.heap.size from hb.size)
    have PX := Lib.hid (PX.out.below hb)
    have PY := Lib.hid (PY.out.below hb)
    have RX := Lib.hid (RX.out.below hb)
    have RY := Lib.hid (RY.out.below hb)
    have HT := Lib.hid (HT.out.below2 hb)
    have T1 := Lib.hid (T1.out.below hb)
    have P1 := Lib.hid (P1.out.below hb)
    have T2 := Lib.hid (T2.out.below hb)
    have P2 := Lib.hid (P2.out.below hb)
    have RA := Lib.hid (RA.out.below hb)
    have RB := Lib.hid (RB.out.below hb)
    have VA := Lib.hid (VA.out.below hb)
    have VB := Lib.hid (VB.out.below hb)
    have HB := Lib.hid (belowTo HB.out hb)
    have HY := Lib.hid (belowTo HY.out hb)
    have ha := (Below.refl wx9.heap.size wx9).alloc (Nat.le_refl _) (.cells #[.bool (decide (N < 0)), .slice A5 (natL N.natAbs).length c5, .bool (decide (D < 0)), .slice B5 (natL D.natAbs).length e5] 30)
    have hn := FV.new O_VW.out.1 O_VW.out.2
    have hz : (wx9.alloc (.cells #[.bool (decide (N < 0)), .slice A5 (natL N.natAbs).length c5, .bool (decide (D < 0)), .slice B5 (natL D.natAbs).length e5] 30)).heap.size = wx9.heap.size + 1 := by simp
    go_upto_region 8 with fail
    obtain ⟨wy10, E⟩ : ∃ W, W = wx9.alloc (.cells #[.bool (decide (N < 0)), .slice A5 (natL N.natAbs).length c5, .bool (decide (D < 0)), .slice B5 (natL D.natAbs).length e5] 30) := ⟨_, rfl⟩
    obtain ⟨q10, hq⟩ : ∃ q, q = wx9.heap.size := ⟨_, rfl⟩
    rw [← E] at ha
    rw [← E, ← hq] at hn hz ⊢
    have HZ_wy10 := Lib.hid (And.intro hq hz)
    have VW := Lib.hid hn
    have PX := Lib.hid (PX.out.below ha)
    have PY := Lib.hid (PY.out.below ha)
    have RX := Lib.hid (RX.out.below ha)
    have RY := Lib.hid (RY.out.below ha)
    have HT := Lib.hid (HT.out.below2 ha)
    have T1 := Lib.hid (T1.out.below ha)
    have P1 := Lib.hid (P1.out.below ha)
    have T2 := Lib.hid (T2.out.below ha)
    have P2 := Lib.hid (P2.out.below ha)
    have RA := Lib.hid (RA.out.below ha)
    have RB := Lib.hid (RB.out.below ha)
    have VA := Lib.hid (VA.out.below ha)
    have VB := Lib.hid (VB.out.below ha)
    have HB := Lib.hid (belowTo HB.out ha)
    have HY := Lib.hid (belowTo HY.out ha)
    clear ha hn hz hq E
    go_wp2_with fail
    refine (H6.out wy10).mono ?_
    rintro e wx11 ⟨v, rfl, hI, hb⟩
    obtain ⟨A6, c6, B6, e6, rfl, -⟩ := hI.form
    have O_VC := Lib.hid hI
    clear hI
    have HS_wx11 := Lib.hid (show wy10.heap.size ≤ wx11.heap.size from hb.size)
    have PX := Lib.hid (PX.out.below hb)
    have PY := Lib.hid (PY.out.below hb)
    have RX := Lib.hid (RX.out.below hb)
    have RY := Lib.hid (RY.out.below hb)
    have HT := Lib.hid (HT.out.below2 hb)
    have T1 := Lib.hid (T1.out.below hb)
    have P1 := Lib.hid (P1.out.below hb)
    have T2 := Lib.hid (T2.out.below hb)
    have P2 := Lib.hid (P2.out.below hb)
    have RA := Lib.hid (RA.out.below hb)
    have RB := Lib.hid (RB.out.below hb)
    have VA := Lib.hid (VA.out.below hb)
    have VB := Lib.hid (VB.out.below hb)
    have VW := Lib.hid (VW.out.below hb)
    have HB := Lib.hid (belowTo HB.out hb)
    have HY := Lib.hid (belowTo HY.out hb)
    have ha := (Below.refl wx11.heap.size wx11).alloc (Nat.le_refl _) (.cells #[.bool (decide (N2 < 0)), .slice A6 (natL N2.natAbs).length c6, .bool (decide (D2 < 0)), .slice B6 (natL D2.natAbs).length e6] 30)
    have hn := FVar.new O_VC.out
    have hz : (wx11.alloc (.cells #[.bool (decide (N2 < 0)), .slice A6 (natL N2.natAbs).length c6, .bool (decide (D2 < 0)), .slice B6 (natL D2.natAbs).length e6] 30)).heap.size = wx11.heap.size + 1 := by simp
    go_upto_region 9 with fail
    obtain ⟨wy12, E⟩ : ∃ W, W = wx11.alloc (.cells #[.bool (decide (N2 < 0)), .slice A6 (natL N2.natAbs).length c6, .bool (decide (D2 < 0)), .slice B6 (natL D2.natAbs).length e6] 30) := ⟨_, rfl⟩
    obtain ⟨q12, hq⟩ : ∃ q, q = wx11.heap.size := ⟨_, rfl⟩
    rw [← E] at ha
    rw [← E, ← hq] at hn hz ⊢
    have HZ_wy12 := Lib.hid (And.intro hq hz)
    have VC := Lib.hid hn
    have PX := Lib.hid (PX.out.below ha)
    have PY := Lib.hid (PY.out.below ha)
    have RX := Lib.hid (RX.out.below ha)
    have RY := Lib.hid (RY.out.below ha)
    have HT := Lib.hid (HT.out.below2 ha)
    have T1 := Lib.hid (T1.out.below ha)
    have P1 := Lib.hid (P1.out.below ha)
    have T2 := Lib.hid (T2.out.below ha)
    have P2 := Lib.hid (P2.out.below ha)
    have RA := Lib.hid (RA.out.below ha)
    have RB := Lib.hid (RB.out.below ha)
    have VA := Lib.hid (VA.out.below ha)
    have VB := Lib.hid (VB.out.below ha)
    have VW := Lib.hid (VW.out.below ha)
    have HB := Lib.hid (belowTo HB.out ha)
    have HY := Lib.hid (belowTo HY.out ha)
    clear ha hn hz hq E
    go_wp2_with fail
    refine (ref_Of n BN.out.1 BN.out.2 wy12).mono ?_
    rintro e wx13 ⟨v, rfl, hI, hb⟩
    obtain ⟨A8, c8, rfl, r8⟩ := hI.raw
    have R8 := Lib.hid r8
    clear hI r8
    have HS_wx13 := Lib.hid (show wy12.heap.size ≤ wx13.heap.size from hb.size)
    have PX := Lib.hid (PX.out.below hb)
    have PY := Lib.hid (PY.out.below hb)
    have RX := Lib.hid (RX.out.below hb)
    have RY := Lib.hid (RY.out.below hb)
    have HT := Lib.hid (HT.out.below2 hb)
    have T1 := Lib.hid (T1.out.below hb)
    have P1 := Lib.hid (P1.out.below hb)
    have T2 := Lib.hid (T2.out.below hb)
    have P2 := Lib.hid (P2.out.below hb)
    have RA := Lib.hid (RA.out.below hb)
    have RB := Lib.hid (RB.out.below hb)
    have VA := Lib.hid (VA.out.below hb)
    have VB := Lib.hid (VB.out.below hb)
    have VW := Lib.hid (VW.out.below hb)
    have VC := Lib.hid (VC.out.below hb)
    have HB := Lib.hid (belowTo HB.out hb)
    have HY := Lib.hid (belowTo HY.out hb)
    go_wp2_with fail
    refine (ref_Of d BD.out.1 BD.out.2 wx13).mono ?_
    rintro e wx14 ⟨v, rfl, hI, hb⟩
    obtain ⟨A9, c9, rfl, r9⟩ := hI.raw
    have R9 := Lib.hid r9
    clear hI r9
    have HS_wx14 := Lib.hid (show wx13.heap.size ≤ wx14.heap.size from hb.size)
    have PX := Lib.hid (PX.out.below hb)
    have PY := Lib.hid (PY.out.below hb)
    have RX := Lib.hid (RX.out.below hb)
    have RY := Lib.hid (RY.out.below hb)
    have HT := Lib.hid (HT.out.below2 hb)
    have T1 := Lib.hid (T1.out.below hb)
    have P1 := Lib.hid (P1.out.below hb)
    have T2 := Lib.hid (T2.out.below hb)
    have P2 := Lib.hid (P2.out.below hb)
    have RA := Lib.hid (RA.out.below hb)
    have RB := Lib.hid (RB.out.below hb)
    have VA := Lib.hid (VA.out.below hb)
    have VB := Lib.hid (VB.out.below hb)
    have VW := Lib.hid (VW.out.below hb)
    have VC := Lib.hid (VC.out.below hb)
    have R8 := Lib.hid (R8.out.below hb)
    have HB := Lib.hid (belowTo HB.out hb)
    have HY := Lib.hid (belowTo HY.out hb)
    go_wp2_with fail
    refine (H7.out wx14 A8 A9 c8 c9 R8.out R9.out).mono ?_
    rintro e wx15 ⟨v, rfl, hI, hb⟩
    obtain ⟨A7, c7, B7, e7, rfl, r1, r2⟩ := hI.form
    have O_VS := Lib.hid (And.intro r1 r2)
    clear hI r1 r2
    have HS_wx15 := Lib.hid (show wx14.heap.size ≤ wx15.heap.size from hb.size)
    have PX := Lib.hid (PX.out.below hb)
    have PY := Lib.hid (PY.out.below hb)
    have RX := Lib.hid (RX.out.below hb)
    have RY := Lib.hid (RY.out.below hb)
    have HT := Lib.hid (HT.out.below2 hb)
    have T1 := Lib.hid (T1.out.below hb)
    have P1 := Lib.hid (P1.out.below hb)
    have T2 := Lib.hid (T2.out.below hb)
    have P2 := Lib.hid (P2.out.below hb)
    have RA := Lib.hid (RA.out.below hb)
    have RB := Lib.hid (RB.out.below hb)
    have VA := Lib.hid (VA.out.below hb)
    have VB := Lib.hid (VB.out.below hb)
    have VW := Lib.hid (VW.out.below hb)
    have VC := Lib.hid (VC.out.below hb)
    have R8 := Lib.hid (R8.out.below hb)
    have R9 := Lib.hid (R9.out.below hb)
    have HB := Lib.hid (belowTo HB.out hb)
    have HY := Lib.hid (belowTo HY.out hb)
    have ha := (Below.refl wx15.heap.size wx15).alloc (Nat.le_refl _) (.cells #[.bool (decide (N2 < 0)), .slice A7 (natL N2.natAbs).length c7, .bool (decide (D2 < 0)), .slice B7 (natL D2.natAbs).length e7] 30)
    have hn := FV.new O_VS.out.1 O_VS.out.2
    have hz : (wx15.alloc (.cells #[.bool (decide (N2 < 0)), .slice A7 (natL N2.natAbs).length c7, .bool (decide (D2 < 0)), .slice B7 (natL D2.natAbs).length e7] 30)).heap.size = wx15.heap.size + 1 := by simp
    go_upto_region 10 with fail
    obtain ⟨wy16, E⟩ : ∃ W, W = wx15.alloc (.cells #[.bool (decide (N2 < 0)), .slice A7 (natL N2.natAbs).length c7, .bool (decide (D2 < 0)), .slice B7 (natL D2.natAbs).length e7] 30) := ⟨_, rfl⟩
    obtain ⟨q16, hq⟩ : ∃ q, q = wx15.heap.size := ⟨_, rfl⟩
    rw [← E] at ha
    rw [← E, ← hq] at hn hz ⊢
    have HZ_wy16 := Lib.hid (And.intro hq hz)
    have VS := Lib.hid hn
    have PX := Lib.hid (PX.out.below ha)
    have PY := Lib.hid (PY.out.below ha)
    have RX := Lib.hid (RX.out.below ha)
    have RY := Lib.hid (RY.out.below ha)
    have HT := Lib.hid (HT.out.below2 ha)
    have T1 := Lib.hid (T1.out.below ha)
    have P1 := Lib.hid (P1.out.below ha)
    have T2 := Lib.hid (T2.out.below ha)
    have P2 := Lib.hid (P2.out.below ha)
    have RA := Lib.hid (RA.out.below ha)
    have RB := Lib.hid (RB.out.below ha)
    have VA := Lib.hid (VA.out.below ha)
    have VB := Lib.hid (VB.out.below ha)
    have VW := Lib.hid (VW.out.below ha)
    have VC := Lib.hid (VC.out.below ha)
    have R8 := Lib.hid (R8.out.below ha)
    have R9 := Lib.hid (R9.out.below ha)
    have HB := Lib.hid (belowTo HB.out ha)
    have HY := Lib.hid (belowTo HY.out ha)
    clear ha hn hz hq E
    clear R8 R9
    obtain ⟨l_x, x0, x1, -, -⟩ := P1.out.facts
    obtain ⟨l_y, y0, y1, -, -⟩ := P2.out.facts
    have ha := (Below.refl wy16.heap.size wy16).alloc (Nat.le_refl _) (.cells #[.bool n1, .slice (some ⟨g1, 0, none⟩) xs.length (xs.length + 1), .bool n2, .slice (some ⟨g2, 0, none⟩) ys.length (ys.length + 1)] 30)
    have hn := Quad.new wy16 (.bool n1) (.slice (some ⟨g1, 0, none⟩) xs.length (xs.length + 1)) (.bool n2) (.slice (some ⟨g2, 0, none⟩) ys.length (ys.length + 1))
    have hz : (wy16.alloc (.cells #[.bool n1, .slice (some ⟨g1, 0, none⟩) xs.length (xs.length + 1), .bool n2, .slice (some ⟨g2, 0, none⟩) ys.length (ys.length + 1)] 30)).heap.size = wy16.heap.size + 1 := by simp
    go_upto_region 11 with fail
    obtain ⟨wy17, E⟩ : ∃ W, W = wy16.alloc (.cells #[.bool n1, .slice (some ⟨g1, 0, none⟩) xs.length (xs.length + 1), .bool n2, .slice (some ⟨g2, 0, none⟩) ys.length (ys.length + 1)] 30) := ⟨_, rfl⟩
    obtain ⟨q17, hq⟩ : ∃ q, q = wy16.heap.size := ⟨_, rfl⟩
    rw [← E] at ha
    rw [← E, ← hq] at hn hz ⊢
    have HZ_wy17 := Lib.hid (And.intro hq hz)
    have QR := Lib.hid hn
    have PX := Lib.hid (PX.out.below ha)
    have PY := Lib.hid (PY.out.below ha)
    have RX := Lib.hid (RX.out.below ha)
    have RY := Lib.hid (RY.out.below ha)
    have HT := Lib.hid (HT.out.below2 ha)
    have T1 := Lib.hid (T1.out.below ha)
    have P1 := Lib.hid (P1.out.below ha)
    have T2 := Lib.hid (T2.out.below ha)
    have P2 := Lib.hid (P2.out.below ha)
    have RA := Lib.hid (RA.out.below ha)
    have RB := Lib.hid (RB.out.below ha)
    have VA := Lib.hid (VA.out.below ha)
    have VB := Lib.hid (VB.out.below ha)
    have VW := Lib.hid (VW.out.below ha)
    have VC := Lib.hid (VC.out.below ha)
    have VS := Lib.hid (VS.out.below ha)
    have HB := Lib.hid (belowTo HB.out ha)
    have HY := Lib.hid (belowTo HY.out ha)
    clear ha hn hz hq E
    clear l_x x0 x1 l_y y0 y1
    go_wp2_with fail
    refine wp_region_free [.val (.agg #[.bool (decide (N < 0)), .slice A3 (natL N.natAbs).length c3, .bool (decide (D < 0)), .slice B3 (natL D.natAbs).length e3]) [], .val (.agg #[.bool (decide (N < 0)), .slice A5 (natL N.natAbs).length c5, .bool (decide (D < 0)), .slice B5 (natL D.natAbs).length e5]) [], .val (.bool true) [], .val (.bool false) [], .val (.bool false) [], .val (.int .i64 K) [], .val (.int .i64 K) [], .val (.bool false) [], .val (.bool false) [], .val (.bool false) [], .val (.agg #[.bool (decide (N < 0)), .slice A4 (natL N.natAbs).length c4, .bool (decide (D < 0)), .slice B4 (natL D.natAbs).length e4]) [], .val (.agg #[.bool (decide (N < 0)), .slice A5 (natL N.natAbs).length c5, .bool (decide (D < 0)), .slice B5 (natL D.natAbs).length e5]) [], .val (.bool true) [], .val (.bool false) [], .val (.bool false) [], .val (.bool false) [], .val (.agg #[.bool (decide (N2 < 0)), .slice A6 (natL N2.natAbs).length c6, .bool (decide (D2 < 0)), .slice B6 (natL D2.natAbs).length e6]) [], .val (.agg #[.bool (decide (N2 < 0)), .slice A7 (natL N2.natAbs).length c7, .bool (decide (D2 < 0)), .slice B7 (natL D2.natAbs).length e7]) [], .val (.bool true) [], .val (.bool false) [], .val (.bool false) [], .val (.bool false) [], .val (.int .i64 K2) [], .val (.int .i64 K2) [], .val (.bool false) [], .val (.bool false) [], .val (.bool false) [], .val (.agg #[.bool n1, .slice (some ⟨g1, 0, none⟩) xs.length (xs.length + 1), .bool n2, .slice (some ⟨g2, 0, none⟩) ys.length (ys.length + 1)]) [], .val (.int .i64 CH) [], .val (.agg #[.bool n1, .slice A xs.length c]) [], .val (.agg #[.bool n2, .slice B ys.length e0]) [], .val (.agg #[.bool n1, .slice A xs.length c, .bool n2, .slice B ys.length e0]) [], .val (.int .i64 CH) [], .val (.bool false) [], .val (.bool false) []] wy17.heap.size wy17 [] blkInt _ mixedOrders2 (Nat.le_refl _) (Below.refl _ _) (KeptV.refl _ _ _) rfl (by kernel_rfl) (by kernel_rfl) (by kernel_rfl) (by kernel_rfl) (by kernel_rfl) (by kernel_rfl) (by kernel_rfl) (by kernel_rfl) rfl (by simp [oldsF]) ?_ ?_ ?_ ?_
    · simp only [StableF]
    · simp only [OldsF]
    · simp (maxSteps := 4000000) [StepsF, DepF, freeAct, fill, pairs]
      repeat' (first | apply And.intro | (intro (u : Value)) | (intro (u : Nat)))
      all_goals first
      | (intro V hV hK; clear hV hK; go_simp; exact Below.refl _ _)
      | (intro V hV hK
         obtain ⟨-, a_x, b_x, -, -⟩ := (PX.out.below hV).facts
         obtain ⟨-, a_y, b_y, -, -⟩ := (PY.out.below hV).facts
         obtain ⟨-, a_VA, b_VA, c_VA, d_VA, -, -, -, -⟩ := (VA.out.quad.below hV).facts
         obtain ⟨-, a_VB, b_VB, c_VB, d_VB, -, -, -, -⟩ := (VB.out.quad.below hV).facts
         obtain ⟨-, a_VW, b_VW, c_VW, d_VW, -, -, -, -⟩ := (VW.out.quad.below hV).facts
         obtain ⟨-, a_VC, b_VC, c_VC, d_VC, -, -, -, -⟩ := (VC.out.quad.below hV).facts
         obtain ⟨-, a_VS, b_VS, c_VS, d_VS, -, -, -, -⟩ := (VS.out.quad.below hV).facts
         obtain ⟨-, a_QR, b_QR, c_QR, d_QR, -, -, -, -⟩ := (QR.out.below hV).facts
         have r1 := Lib.hid (RX.out.below hV)
         have r2 := Lib.hid (RY.out.below hV)
         have r3 := Lib.hid (RA.out.below hV)
         have r4 := Lib.hid (RB.out.below hV)
         have s1 := Lib.hid (sameFrac_true _ _ _ _ V (VA.out.below hV).at_ (VW.out.below hV).at_)
         have s2 := Lib.hid (sameFrac_true _ _ _ _ V (VB.out.below hV).at_ (VW.out.below hV).at_)
         have s3 := Lib.hid (sameFrac_true _ _ _ _ V (VC.out.below hV).at_ (VS.out.below hV).at_)
         clear hV hK
         go_simp
         first
         | exact Below.refl _ _
         | exact ⟨rfl, Below.refl _ _⟩
         | ((with_reducible refine s1.out.mono ?_); rintro e w' ⟨rfl, hb⟩; exact ⟨rfl, hb⟩)
         | ((with_reducible refine s2.out.mono ?_); rintro e w' ⟨rfl, hb⟩; exact ⟨rfl, hb⟩)
         | ((with_reducible refine s3.out.mono ?_); rintro e w' ⟨rfl, hb⟩; exact ⟨rfl, hb⟩)
         | ((with_reducible refine (H8.out V r3.out r4.out).mono ?_); rintro e w' ⟨rfl, hb⟩; exact ⟨rfl, hb⟩)
         | ((with_reducible refine (H9.out V r1.out r2.out).mono ?_); rintro e w' ⟨rfl, hb⟩; exact ⟨rfl, hb⟩))
    · simp [EndF, FactsF, freeAct, fill, pairs]
      intro Z hV hK _ _ _
      have PX := Lib.hid (PX.out.below hV)
      have PY := Lib.hid (PY.out.below hV)
      have RX := Lib.hid (RX.out.below hV)
      have RY := Lib.hid (RY.out.below hV)
      have T1 := Lib.hid (T1.out.below hV)
      have P1 := Lib.hid (P1.out.below hV)
      have T2 := Lib.hid (T2.out.below hV)
      have P2 := Lib.hid (P2.out.below hV)
      have RA := Lib.hid (RA.out.below hV)
      have RB := Lib.hid (RB.out.below hV)
      have VA := Lib.hid (VA.out.below hV)
      have VB := Lib.hid (VB.out.below hV)
      have VW := Lib.hid (VW.out.below hV)
      have VC := Lib.hid (VC.out.below hV)
      have VS := Lib.hid (VS.out.below hV)
      have QR := Lib.hid (QR.out.below hV)
      have HT := Lib.hid (HT.out.below2 hV)
      have HS_Z := Lib.hid (show wy17.heap.size ≤ Z.heap.size from hV.size)
      have HB := Lib.hid (belowTo HB.out hV)
      have HY := Lib.hid (belowTo HY.out hV)
      clear hV hK H3 H5 H6 H7 H8 H9 VW VS QR
      have HR := Lib.hid (show RowsIn Z wy4.heap.size [.slice A3 (natL N.natAbs).length c3, .slice B3 (natL D.natAbs).length e3, .slice A4 (natL N.natAbs).length c4, .slice B4 (natL D.natAbs).length e4, .slice A6 (natL N2.natAbs).length c6, .slice B6 (natL D2.natAbs).length e6] Z.heap.size from by
        have k_HS_wx1 := HS_wx1.out
        have k_HZ_wy2 := HZ_wy2.out
        have k_HS_wx3 := HS_wx3.out
        have k_HZ_wy4 := HZ_wy4.out
        have k_HS_wx5 := HS_wx5.out
        have k_HZ_wy6 := HZ_wy6.out
        have k_HS_wx7 := HS_wx7.out
        have k_HZ_wy8 := HZ_wy8.out
        have k_HS_wx9 := HS_wx9.out
        have k_HZ_wy10 := HZ_wy10.out
        have k_HS_wx11 := HS_wx11.out
        have k_HZ_wy12 := HZ_wy12.out
        have k_HS_wx13 := HS_wx13.out
        have k_HS_wx14 := HS_wx14.out
        have k_HS_wx15 := HS_wx15.out
        have k_HZ_wy16 := HZ_wy16.out
        have k_HZ_wy17 := HZ_wy17.out
        have k_HS_Z := HS_Z.out
        have kb := HY.out.size
        have z0 := RowsIn.nil Z wy4.heap.size
        have z1 := (z0.up (hi' := wy4.heap.size) (by omega)).frac VA.out (by have := HFIT.out; omega) (by have := HFIT.out; omega) (by omega)
        have z2 := (z1.up (hi' := wy6.heap.size) (by omega)).frac VB.out (by have := HFIT.out; omega) (by have := HFIT.out; omega) (by omega)
        have z3 := (z2.up (hi' := wy10.heap.size) (by omega)).frac VC.out (by have := HFIT2.out; omega) (by have := HFIT2.out; omega) (by omega)
        exact z3.up (by omega))
      clear HS_wx1 HZ_wy2 HS_wx3 HZ_wy4 HS_wx5 HZ_wy6 HS_wx7 HZ_wy8 HS_wx9 HZ_wy10 HS_wx11 HZ_wy12 HS_wx13 HS_wx14 HS_wx15 HZ_wy16 HZ_wy17 HS_Z
      go_upto_region 14 with fail
      obtain ⟨v0, E⟩ : ∃ W, W = Z.alloc (.cells #[.int .i64 0, .slice none 0 0, .slice none 0 0, .slice none 0 0, .slice none 0 0, .slice none 0 0, .slice none 0 0, .slice none 0 0, .slice none 0 0, .slice none 0 0, .slice none 0 0, .slice none 0 0, .slice none 0 0, .slice none 0 0, .slice none 0 0, .slice none 0 0, .slice none 0 0] 55) := ⟨_, rfl⟩
      have hk0 : Keep v0 Z.heap.size 0 (fun _ => nilS) nilS := by rw [E]; exact Keep.new Z _
      have hW0 := Lib.hid (show Below Z.heap.size Z v0 from by rw [E]; exact (Below.refl _ _).alloc (Nat.le_refl _) _)
      rw [← E]
      obtain ⟨b, hbb⟩ : ∃ b, b = Z.heap.size := ⟨_, rfl⟩
      rw [← hbb] at hk0 ⊢
      have HBB := Lib.hid hbb
      have K0 := Lib.hid hk0
      clear E hk0 hbb
      obtain ⟨l_1, u1, u2, u3, u4, -, -, -, -⟩ := (VA.out.quad.below hW0.out).facts
      go_wp2_with fail
      refine (book_Frac b 0 (fun _ => nilS) nilS (decide (N < 0)) (decide (D < 0)) A3 B3 (natL N.natAbs).length c3 (natL D.natAbs).length e3 (by omega) _ K0.out).mono ?_
      rintro e v1 ⟨rfl, lims1, hk, hb⟩
      have hW1 := Lib.hid (hW0.out.trans (HBB.out ▸ hb))
      have K1 := Lib.hid hk
      clear l_1 u1 u2 u3 u4 hk hb K0
      obtain ⟨l_1, u1, u2, u3, u4, -, -, -, -⟩ := (VB.out.quad.below hW1.out).facts
      go_wp2_with fail
      refine (book_Frac b 2 (updV (updV (fun _ => nilS) 0 (.slice A3 (natL N.natAbs).length c3)) (0 + 1) (.slice B3 (natL D.natAbs).length e3)) lims1 (decide (N < 0)) (decide (D < 0)) A4 B4 (natL N.natAbs).length c4 (natL D.natAbs).length e4 (by omega) _ K1.out).mono ?_
      rintro e v2 ⟨rfl, lims2, hk, hb⟩
      have hW2 := Lib.hid (hW1.out.trans (HBB.out ▸ hb))
      have K2 := Lib.hid hk
      clear l_1 u1 u2 u3 u4 hk hb K1
      obtain ⟨l_1, u1, u2, u3, u4, -, -, -, -⟩ := (VC.out.quad.below hW2.out).facts
      go_wp2_with fail
      refine (book_Frac b 4 (updV (updV (updV (updV (fun _ => nilS) 0 (.slice A3 (natL N.natAbs).length c3)) (0 + 1) (.slice B3 (natL D.natAbs).length e3)) 2 (.slice A4 (natL N.natAbs).length c4)) (2 + 1) (.slice B4 (natL D.natAbs).length e4)) lims2 (decide (N2 < 0)) (decide (D2 < 0)) A6 B6 (natL N2.natAbs).length c6 (natL D2.natAbs).length e6 (by omega) _ K2.out).mono ?_
      rintro e v3 ⟨rfl, lims3, hk, hb⟩
      have hW3 := Lib.hid (hW2.out.trans (HBB.out ▸ hb))
      have K3 := Lib.hid hk
      clear l_1 u1 u2 u3 u4 hk hb K2
      have HF := Lib.hid (apart_in b wy4.heap.size [.slice A3 (natL N.natAbs).length c3, .slice B3 (natL D.natAbs).length e3, .slice A4 (natL N.natAbs).length c4, .slice B4 (natL D.natAbs).length e4, .slice A6 (natL N2.natAbs).length c6, .slice B6 (natL D2.natAbs).length e6] lims3 wy4 v3 (by simp) (by simp) (K3.out.cong (fun j hj => by
        rcases (by omega : j = 0 ∨ j = 1 ∨ j = 2 ∨ j = 3 ∨ j = 4 ∨ j = 5) with rfl | rfl | rfl | rfl | rfl | rfl <;> rfl)) (by rw [HBB.out]; exact HR.out.below hW3.out) (belowTo HY.out hW3.out))
      clear HR K3
      go_wp2_with fail
      refine HF.out.mono ?_
      rintro e w1 ⟨rfl, hb1⟩
      clear PX PY RX RY HT T1 P1 T2 P2 RA RB VA VB VC HY HB HF hW0 hW1 hW2 hW3 HBB
      have P1 := Lib.hid (B_P1.out.below hb1)
      have P2 := Lib.hid (B_P2.out.below hb1)
      have PX := Lib.hid (B_PX.out.below hb1)
      have PY := Lib.hid (B_PY.out.below hb1)
      have T1 := Lib.hid (B_T1.out.below hb1)
      have T2 := Lib.hid (B_T2.out.below hb1)
      have RX := Lib.hid (B_RX.out.below hb1)
      have RY := Lib.hid (B_RY.out.below hb1)
      have HT := Lib.hid (B_HT.out.below2 hb1)
      have HB := Lib.hid (belowTo B_HB.out hb1)
      clear hb1 B_P1 B_P2 B_PX B_PY B_T1 B_T2 B_RX B_RY B_HT B_HB
      obtain ⟨l_x, x0, x1, -, -⟩ := P1.out.facts
      obtain ⟨l_y, y0, y1, -, -⟩ := PX.out.facts
      go_wp2_with fail
      refine (left_any n1 A c g1 xs w1 RX.out T1.out HL.out.1).mono ?_
      rintro e wx18 ⟨rfl, hb⟩
      clear l_x x0 x1 l_y y0 y1
      have HS_wx18 := Lib.hid (show w1.heap.size ≤ wx18.heap.size from hb.size)
      have P1 := Lib.hid (P1.out.below hb)
      have P2 := Lib.hid (P2.out.below hb)
      have PX := Lib.hid (PX.out.below hb)
      have PY := Lib.hid (PY.out.below hb)
      have T1 := Lib.hid (T1.out.below hb)
      have T2 := Lib.hid (T2.out.below hb)
      have RX := Lib.hid (RX.out.below hb)
      have RY := Lib.hid (RY.out.below hb)
      have HT := Lib.hid (HT.out.below2 hb)
      have HB := Lib.hid (belowTo HB.out hb)
      obtain ⟨l_x, x0, x1, -, -⟩ := P2.out.facts
      obtain ⟨l_y, y0, y1, -, -⟩ := PY.out.facts
      go_wp2_with fail
      refine (left_any n2 B e0 g2 ys wx18 RY.out T2.out HL.out.2).mono ?_
      rintro e wx19 ⟨rfl, hb⟩
      clear l_x x0 x1 l_y y0 y1
      have HS_wx19 := Lib.hid (show wx18.heap.size ≤ wx19.heap.size from hb.size)
      have P1 := Lib.hid (P1.out.below hb)
      have P2 := Lib.hid (P2.out.below hb)
      have PX := Lib.hid (PX.out.below hb)
      have PY := Lib.hid (PY.out.below hb)
      have T1 := Lib.hid (T1.out.below hb)
      have T2 := Lib.hid (T2.out.below hb)
      have RX := Lib.hid (RX.out.below hb)
      have RY := Lib.hid (RY.out.below hb)
      have HT := Lib.hid (HT.out.below2 hb)
      have HB := Lib.hid (belowTo HB.out hb)
      go_wp2_with fail
      refine (lives_true wx19 HT.out).mono ?_
      rintro e wx20 ⟨rfl, hb⟩
      have HS_wx20 := Lib.hid (show wx19.heap.size ≤ wx20.heap.size from hb.size)
      have P1 := Lib.hid (P1.out.below hb)
      have P2 := Lib.hid (P2.out.below hb)
      have PX := Lib.hid (PX.out.below hb)
      have PY := Lib.hid (PY.out.below hb)
      have T1 := Lib.hid (T1.out.below hb)
      have T2 := Lib.hid (T2.out.below hb)
      have RX := Lib.hid (RX.out.below hb)
      have RY := Lib.hid (RY.out.below hb)
      have HT := Lib.hid (HT.out.below2 hb)
      have HB := Lib.hid (belowTo HB.out hb)
      go_wp2_with fail
      go_ret
      exact ⟨rfl, HB.out⟩
end Go.Proofs.YtadmoheohmbieaaGreatDoor
