/- Several texts in one: ShiftsW. -/
import Derived.Test.YtkncbenhfcpgkaaDoorBu21
import Derived.Test.YtkncbenhfcpgkaaDoorBuHd
import Derived.Test.YtkncbenhfcpgkaaDoorBu22
import Derived.Test.YtkncbenhfcpgkaaDoorBu30
import Derived.Test.YtkncbenhfcpgkaaDoorBu27
import Derived.Test.YtkncbenhfcpgkaaDoorBu31
import Derived.Test.YtkncbenhfcpgkaaDoorBu25
import Derived.Test.YtkncbenhfcpgkaaDoorBu04
import Derived.Test.YtkncbenhfcpgkaaDoorBu11
import Derived.Test.YtkncbenhfcpgkaaDoorBu08
import Derived.Test.YtkncbenhfcpgkaaDoorBu03
import Derived.Test.YtkncbenhfcpgkaaDoorBu10
import Derived.Test.YtkncbenhfcpgkaaDoorBu09
import Derived.Test.YtkncbenhfcpgkaaDoorBu01
import Derived.Test.YtkncbenhfcpgkaaDoorBu05
import Derived.Test.YtkncbenhfcpgkaaDoorBu06
import Derived.Test.YtkncbenhfcpgkaaDoorBu02
import Derived.Test.YtkncbenhfcpgkaaDoorBu07
import Derived.Test.YtkncbenhfcpgkaaDoorBu19
import Derived.Test.YtkncbenhfcpgkaaDoorBu26
import Derived.Test.YtkncbenhfcpgkaaDoorBu20
import Derived.Test.YtkncbenhfcpgkaaDoorBu14
import Derived.Test.YtkncbenhfcpgkaaDoorBu17
import Derived.Test.YtkncbenhfcpgkaaDoorBu29
import Derived.Test.YtkncbenhfcpgkaaDoorBu23
import Derived.Test.YtkncbenhfcpgkaaDoorBu24
import Derived.Test.YtkncbenhfcpgkaaDoorBu16
import Derived.Test.YtkncbenhfcpgkaaDoorBu15
import Derived.Test.YtkncbenhfcpgkaaDoorBu13
import Derived.Test.YtkncbenhfcpgkaaDoorBu12
import Derived.Test.YtkncbenhfcpgkaaDoorBu18
set_option maxRecDepth 100000
set_option maxHeartbeats 8000000
/- WholeShifts: the walk. (Written by wip/whole/genshifts.py.) -/
namespace Go.Proofs.YtkncbenhfcpgkaaDoor
open Go.RowKit

theorem shifts_long (x n k : Int) (A : Option Addr) (c : Nat) (hx : Fit x) (hn0 : 0 ≤ n) (hn1 : n ≤ 65535) (hk : n % 4096 = k) (hx0 : x ≠ 0) (hl : 65536 < (bz x : Int) + k) (w : World) (h : Raw w A c (natL x.natAbs)) (htab : powTab w) :
    Calls Tryd.prog 4 #[.agg #[.bool (decide (x < 0)), .slice A (natL x.natAbs).length c], .int .u16 n] w fun e w' => e = .returned (.bool true) ∧ Below w.heap.size w w' := by
  have hk0 : 0 ≤ k := by omega
  have hk1 : k ≤ 4095 := by omega
  obtain ⟨z0, hz0⟩ : ∃ z : Int, z = 0 := ⟨_, rfl⟩
  have HSV := Hd (show z0 = shiftV x k ∧ 4 = shiftE x k from by
    unfold shiftV shiftE
    rw [if_neg hx0, if_neg (by omega), if_pos hl, if_pos ⟨hx0, hk0, hl⟩]
    exact ⟨hz0, rfl⟩)
  obtain ⟨kb, hkb⟩ : ∃ k : Int, k = (bitsI (natL x.natAbs) : Int) := ⟨_, rfl⟩
  have hbz := bz_le hx
  have hkb1 : kb ≤ 65536 := by rw [hkb]; have : bz x = bitsI (natL x.natAbs) := rfl; omega
  have hkb0 : 0 ≤ kb := by omega
  have hkb2 : 65536 < kb + k := by rw [hkb]; exact hl
  have HKB := Hd hkb
  have HK := Hd hk
  clear hx0 hl hz0 hkb hbz hk
  have p0 := Pair.new w 24 (.bool (decide (x < 0))) (.slice A (natL x.natAbs).length c)
  have b0 := ((Below.refl w.heap.size w).alloc (Nat.le_refl _) (.cells #[.bool (decide (x < 0)), .slice A (natL x.natAbs).length c] 24))
  have V_x := Hd (NV.of h b0 p0)
  have F_x := Hd hx
  have HT := Hd (htab.below b0)
  have HBW := Hd b0
  clear h htab p0 b0 hx
  go_enter Tryd.func4, Tryd.ntmps4
  obtain ⟨W, E⟩ : ∃ W, W = (w.alloc (.cells #[.bool (decide (x < 0)), .slice A (natL x.natAbs).length c] 24)) := ⟨_, rfl⟩
  go_upto_region 1 with fail
  rw [← E] at V_x HT HBW ⊢
  clear E
  go_wp2_with fail
  refine (alive_true W HT.out).mono ?_
  rintro e x1 ⟨rfl, hb⟩
  have V_x := Hd (V_x.out.below hb)
  have HT := Hd (HT.out.below hb)
  have HBW := Hd (belowTo HBW.out hb)
  clear hb
  obtain ⟨l_x, a_x, b_x, -, -⟩ := V_x.out.pair.facts
  go_wp2_with fail
  refine (may1 x A c x1 V_x.out.raw 24 true (by simp [F_x.out])).mono ?_
  rintro e x2 ⟨rfl, hb⟩
  clear l_x a_x b_x
  have V_x := Hd (V_x.out.below hb)
  have HT := Hd (HT.out.below hb)
  have HBW := Hd (belowTo HBW.out hb)
  clear hb
  have hk := HK.out
  obtain ⟨l_x, a_x, b_x, -, -⟩ := V_x.out.pair.facts
  go_wp2_with fail
  refine (shift_o x k z0 4 A c F_x.out (by omega) (by omega) x2 V_x.out.raw HSV.out.1 HSV.out.2).mono ?_
  rintro e x3 ⟨A1, c1, rfl, r1, hb⟩
  clear l_x a_x b_x
  have V_x := Hd (V_x.out.below hb)
  have HT := Hd (HT.out.below hb)
  have HBW := Hd (belowTo HBW.out hb)
  have R_u := Hd r1
  clear hb r1
  go_upto_region 5 with fail
  have ha := ((Below.refl x3.heap.size x3).alloc (Nat.le_refl _) (.cells #[.bool (decide (z0 < 0)), .slice A1 (natL z0.natAbs).length c1] 24))
  have p_u := (Pair.new x3 24 (.bool (decide (z0 < 0))) (.slice A1 (natL z0.natAbs).length c1))
  obtain ⟨y4, E⟩ : ∃ W, W = (x3.alloc (.cells #[.bool (decide (z0 < 0)), .slice A1 (natL z0.natAbs).length c1] 24)) := ⟨_, rfl⟩
  rw [← E] at ha p_u ⊢
  have V_u := Hd (NV.of R_u.out ha p_u)
  have V_x := Hd (V_x.out.below ha)
  have HT := Hd (HT.out.below ha)
  have HBW := Hd (belowTo HBW.out ha)
  obtain ⟨g4, hg⟩ : ∃ g, g = x3.heap.size := ⟨_, rfl⟩
  rw [← hg] at V_u ⊢
  clear E ha hg p_u
  obtain ⟨l_x, a_x, b_x, -, -⟩ := V_x.out.pair.facts
  go_wp2_with fail
  refine (bits_z x A c F_x.out y4 V_x.out.raw kb HKB.out).mono ?_
  rintro e x5 ⟨rfl, hb⟩
  clear l_x a_x b_x
  have V_x := Hd (V_x.out.below hb)
  have V_u := Hd (V_u.out.below hb)
  have HT := Hd (HT.out.below hb)
  have HBW := Hd (belowTo HBW.out hb)
  clear hb
  go_wp2_with fail
  go_ret
  exact ⟨rfl, HBW.out⟩

theorem shifts_plain (x n k : Int) (A : Option Addr) (c : Nat) (hx : Fit x) (hn0 : 0 ≤ n) (hn1 : n ≤ 65535) (hk : n % 4096 = k) (hl : x = 0 ∨ (bz x : Int) + k ≤ 65536) (hr : ¬ x.tmod 2 < 0) (w : World) (h : Raw w A c (natL x.natAbs)) (htab : powTab w) :
    Calls Tryd.prog 4 #[.agg #[.bool (decide (x < 0)), .slice A (natL x.natAbs).length c], .int .u16 n] w fun e w' => e = .returned (.bool true) ∧ Below w.heap.size w w' := by
  have hk0 : 0 ≤ k := by omega
  have hk1 : k ≤ 4095 := by omega
  obtain ⟨up, h_up⟩ : ∃ z : Int, z = x * ((2 ^ k.toNat : Nat) : Int) := ⟨_, rfl⟩
  obtain ⟨dn, h_dn⟩ : ∃ z : Int, z = x / ((2 ^ k.toNat : Nat) : Int) := ⟨_, rfl⟩
  obtain ⟨j, h_j⟩ : ∃ z : Int, z = k / 2 := ⟨_, rfl⟩
  obtain ⟨nj, h_nj⟩ : ∃ z : Int, z = -j := ⟨_, rfl⟩
  obtain ⟨hf, h_hf⟩ : ∃ z : Int, z = x / ((2 ^ j.toNat : Nat) : Int) := ⟨_, rfl⟩
  obtain ⟨q, h_q⟩ : ∃ z : Int, z = x.tdiv 2 := ⟨_, rfl⟩
  obtain ⟨r, h_r⟩ : ∃ z : Int, z = x.tmod 2 := ⟨_, rfl⟩
  obtain ⟨hh, h_h⟩ : ∃ z : Int, z = x / ((2 ^ (1 : Int).toNat : Nat) : Int) := ⟨_, rfl⟩
  obtain ⟨two, h_two⟩ : ∃ z : Int, z = 2 := ⟨_, rfl⟩
  obtain ⟨one, h_one⟩ : ∃ z : Int, z = 1 := ⟨_, rfl⟩
  have hfx : Fit x := hx
  have hfu : Fit up := by
    rcases hl with h0 | h0
    · rw [h_up, h0, Int.zero_mul]; decide
    · by_cases hx0 : x = 0
      · rw [h_up, hx0, Int.zero_mul]; decide
      · rw [h_up]; exact (bz_double hx0 k.toNat).2 (by omega)
  have F_up := Hd hfu
  have F_dn := Hd (show Fit dn from by rw [h_dn]; exact ediv_fit hfx _)
  have F_hf := Hd (show Fit hf from by rw [h_hf]; exact ediv_fit hfx _)
  have F_hh := Hd (show Fit hh from by rw [h_h]; exact ediv_fit hfx _)
  have F_q := Hd (show Fit q from by rw [h_q]; exact tdiv_fit hfx)
  have F_r := Hd (show Fit r from by rw [h_r]; exact tmod_fit hfx)
  have F_two := Hd (show Fit two from Fit.small (by rw [h_two]; decide))
  have F_one := Hd (show Fit one from Fit.small (by rw [h_one]; decide))
  have HU := Hd (show up = shiftV x k ∧ 0 = shiftE x k from by rw [h_up]; exact shift_up hk0 hl)
  have HB := Hd (show x = shiftV up (-k) ∧ 0 = shiftE up (-k) from by
    have h1 := shift_down hfu hk0 (by omega)
    have h2 : up / ((2 ^ k.toNat : Nat) : Int) = x := by
      rw [h_up]
      exact Int.mul_ediv_cancel _ (by have := Nat.two_pow_pos k.toNat; omega)
    rw [h2] at h1
    exact h1)
  have HD := Hd (show dn = shiftV x (-k) ∧ 0 = shiftE x (-k) from by rw [h_dn]; exact shift_down hfx hk0 (by omega))
  have HH := Hd (show hf = shiftV x nj ∧ 0 = shiftE x nj from by rw [h_hf, h_nj]; exact shift_down hfx (by omega) (by omega))
  have HR := Hd (show dn = shiftV hf (-(k - j)) ∧ 0 = shiftE hf (-(k - j)) from by
    have h1 := shift_down (x := hf) (j := k - j) (by rw [h_hf]; exact ediv_fit hfx _) (by omega) (by omega)
    have h2 : hf / ((2 ^ (k - j).toNat : Nat) : Int) = dn := by
      rw [h_hf, h_dn, Int.ediv_ediv, if_neg (fun h => absurd h.1 (Int.not_lt.2 (Int.natCast_nonneg _))), Int.sub_zero, ← Int.natCast_mul, ← Nat.pow_add, show j.toNat + (k - j).toNat = k.toNat by omega]
    rw [h2] at h1
    exact h1)
  have HH1 := Hd (show hh = shiftV x (-1) ∧ 0 = shiftE x (-1) from by rw [h_h]; exact shift_down hfx (by omega) (by omega))
  have HQ := Hd (show two ≠ 0 ∧ q = x.tdiv two ∧ r = x.tmod two from by rw [h_two]; exact ⟨by decide, h_q, h_r⟩)
  have h2h : hh = x / 2 := h_h
  have H2 := Hd h_two
  have H1 := Hd h_one
  have HNR := Hd (show decide (r < 0) = false from by rw [h_r]; exact decide_eq_false hr)
  have HE := Hd (show hh = q from by rw [h2h, h_q]; have h3 := Int.tmod_lt_of_pos x (show (0 : Int) < 2 by decide); have := Int.tmod_add_mul_tdiv x 2; omega)
  have hjk : k / 2 = j := h_j.symm
  have hj0 : 0 ≤ j := by omega
  have hj1 : j ≤ k := by omega
  have hnj0 : -4095 ≤ nj := by omega
  have hnj1 : nj ≤ 0 := by omega
  have hkt : (-k).tdiv 2 = nj := by rw [h_nj, h_j, Int.neg_tdiv, Int.tdiv_eq_ediv_of_nonneg hk0]
  have HK := Hd (show n % 4096 = k ∧ k / 2 = j ∧ (-k).tdiv 2 = nj from ⟨hk, hjk, hkt⟩)
  clear hl hr hfx hfu h2h hjk hkt hk h_up h_dn h_j h_nj h_hf h_q h_r h_h h_two h_one
  have p0 := Pair.new w 24 (.bool (decide (x < 0))) (.slice A (natL x.natAbs).length c)
  have b0 := ((Below.refl w.heap.size w).alloc (Nat.le_refl _) (.cells #[.bool (decide (x < 0)), .slice A (natL x.natAbs).length c] 24))
  have V_x := Hd (NV.of h b0 p0)
  have F_x := Hd hx
  have HT := Hd (htab.below b0)
  have HBW := Hd b0
  clear h htab p0 b0 hx
  go_enter Tryd.func4, Tryd.ntmps4
  obtain ⟨W, E⟩ : ∃ W, W = (w.alloc (.cells #[.bool (decide (x < 0)), .slice A (natL x.natAbs).length c] 24)) := ⟨_, rfl⟩
  go_upto_region 1 with fail
  rw [← E] at V_x HT HBW ⊢
  clear E
  go_wp2_with fail
  refine (alive_true W HT.out).mono ?_
  rintro e x1 ⟨rfl, hb⟩
  have V_x := Hd (V_x.out.below hb)
  have HT := Hd (HT.out.below hb)
  have HBW := Hd (belowTo HBW.out hb)
  clear hb
  obtain ⟨l_x, a_x, b_x, -, -⟩ := V_x.out.pair.facts
  go_wp2_with fail
  refine (may1 x A c x1 V_x.out.raw 24 true (by simp [F_x.out])).mono ?_
  rintro e x2 ⟨rfl, hb⟩
  clear l_x a_x b_x
  have V_x := Hd (V_x.out.below hb)
  have HT := Hd (HT.out.below hb)
  have HBW := Hd (belowTo HBW.out hb)
  clear hb
  have hk := HK.out.1
  obtain ⟨l_x, a_x, b_x, -, -⟩ := V_x.out.pair.facts
  go_wp2_with fail
  refine (shift_o x k up 0 A c F_x.out (by omega) (by omega) x2 V_x.out.raw HU.out.1 HU.out.2).mono ?_
  rintro e x3 ⟨A1, c1, rfl, r1, hb⟩
  clear l_x a_x b_x
  have V_x := Hd (V_x.out.below hb)
  have HT := Hd (HT.out.below hb)
  have HBW := Hd (belowTo HBW.out hb)
  have R_u := Hd r1
  clear hb r1
  clear hk
  go_upto_region 7 with fail
  have ha := ((Below.refl x3.heap.size x3).alloc (Nat.le_refl _) (.cells #[.bool (decide (up < 0)), .slice A1 (natL up.natAbs).length c1] 24))
  have p_u := (Pair.new x3 24 (.bool (decide (up < 0))) (.slice A1 (natL up.natAbs).length c1))
  obtain ⟨y4, E⟩ : ∃ W, W = (x3.alloc (.cells #[.bool (decide (up < 0)), .slice A1 (natL up.natAbs).length c1] 24)) := ⟨_, rfl⟩
  rw [← E] at ha p_u ⊢
  have V_u := Hd (NV.of R_u.out ha p_u)
  have V_x := Hd (V_x.out.below ha)
  have HT := Hd (HT.out.below ha)
  have HBW := Hd (belowTo HBW.out ha)
  obtain ⟨g4, hg⟩ : ∃ g, g = x3.heap.size := ⟨_, rfl⟩
  rw [← hg] at V_u ⊢
  clear E ha hg p_u
  obtain ⟨l_u, a_u, b_u, -, -⟩ := V_u.out.pair.facts
  go_wp2_with fail
  refine (shift_o up (-k) x 0 A1 c1 F_up.out (by omega) (by omega) y4 V_u.out.raw HB.out.1 HB.out.2).mono ?_
  rintro e x5 ⟨A2, c2, rfl, r2, hb⟩
  clear l_u a_u b_u
  have V_x := Hd (V_x.out.below hb)
  have V_u := Hd (V_u.out.below hb)
  have HT := Hd (HT.out.below hb)
  have HBW := Hd (belowTo HBW.out hb)
  have R_b := Hd r2
  clear hb r2
  go_upto_region 8 with fail
  have ha := ((Below.refl x5.heap.size x5).alloc (Nat.le_refl _) (.cells #[.bool (decide (x < 0)), .slice A2 (natL x.natAbs).length c2] 24))
  have p_b := (Pair.new x5 24 (.bool (decide (x < 0))) (.slice A2 (natL x.natAbs).length c2))
  obtain ⟨y6, E⟩ : ∃ W, W = (x5.alloc (.cells #[.bool (decide (x < 0)), .slice A2 (natL x.natAbs).length c2] 24)) := ⟨_, rfl⟩
  rw [← E] at ha p_b ⊢
  have V_b := Hd (NV.of R_b.out ha p_b)
  have V_x := Hd (V_x.out.below ha)
  have V_u := Hd (V_u.out.below ha)
  have HT := Hd (HT.out.below ha)
  have HBW := Hd (belowTo HBW.out ha)
  obtain ⟨g6, hg⟩ : ∃ g, g = x5.heap.size := ⟨_, rfl⟩
  rw [← hg] at V_b ⊢
  clear E ha hg p_b
  obtain ⟨l_x, a_x, b_x, -, -⟩ := V_x.out.pair.facts
  go_wp2_with fail
  refine (shift_o x (-k) dn 0 A c F_x.out (by omega) (by omega) y6 V_x.out.raw HD.out.1 HD.out.2).mono ?_
  rintro e x7 ⟨A3, c3, rfl, r3, hb⟩
  clear l_x a_x b_x
  have V_x := Hd (V_x.out.below hb)
  have V_u := Hd (V_u.out.below hb)
  have V_b := Hd (V_b.out.below hb)
  have HT := Hd (HT.out.below hb)
  have HBW := Hd (belowTo HBW.out hb)
  have R_d := Hd r3
  clear hb r3
  go_upto_region 9 with fail
  have ha := ((Below.refl x7.heap.size x7).alloc (Nat.le_refl _) (.cells #[.bool (decide (dn < 0)), .slice A3 (natL dn.natAbs).length c3] 24))
  have p_d := (Pair.new x7 24 (.bool (decide (dn < 0))) (.slice A3 (natL dn.natAbs).length c3))
  obtain ⟨y8, E⟩ : ∃ W, W = (x7.alloc (.cells #[.bool (decide (dn < 0)), .slice A3 (natL dn.natAbs).length c3] 24)) := ⟨_, rfl⟩
  rw [← E] at ha p_d ⊢
  have V_d := Hd (NV.of R_d.out ha p_d)
  have V_x := Hd (V_x.out.below ha)
  have V_u := Hd (V_u.out.below ha)
  have V_b := Hd (V_b.out.below ha)
  have HT := Hd (HT.out.below ha)
  have HBW := Hd (belowTo HBW.out ha)
  obtain ⟨g8, hg⟩ : ∃ g, g = x7.heap.size := ⟨_, rfl⟩
  rw [← hg] at V_d ⊢
  clear E ha hg p_d
  have hkt := HK.out.2.2
  obtain ⟨l_x, a_x, b_x, -, -⟩ := V_x.out.pair.facts
  go_wp2_with fail
  refine (shift_o x nj hf 0 A c F_x.out (by omega) (by omega) y8 V_x.out.raw HH.out.1 HH.out.2).mono ?_
  rintro e x9 ⟨A4, c4, rfl, r4, hb⟩
  clear l_x a_x b_x
  have V_x := Hd (V_x.out.below hb)
  have V_u := Hd (V_u.out.below hb)
  have V_b := Hd (V_b.out.below hb)
  have V_d := Hd (V_d.out.below hb)
  have HT := Hd (HT.out.below hb)
  have HBW := Hd (belowTo HBW.out hb)
  have R_f := Hd r4
  clear hb r4
  clear hkt
  go_upto_region 10 with fail
  have ha := ((Below.refl x9.heap.size x9).alloc (Nat.le_refl _) (.cells #[.bool (decide (hf < 0)), .slice A4 (natL hf.natAbs).length c4] 24))
  have p_f := (Pair.new x9 24 (.bool (decide (hf < 0))) (.slice A4 (natL hf.natAbs).length c4))
  obtain ⟨y10, E⟩ : ∃ W, W = (x9.alloc (.cells #[.bool (decide (hf < 0)), .slice A4 (natL hf.natAbs).length c4] 24)) := ⟨_, rfl⟩
  rw [← E] at ha p_f ⊢
  have V_f := Hd (NV.of R_f.out ha p_f)
  have V_x := Hd (V_x.out.below ha)
  have V_u := Hd (V_u.out.below ha)
  have V_b := Hd (V_b.out.below ha)
  have V_d := Hd (V_d.out.below ha)
  have HT := Hd (HT.out.below ha)
  have HBW := Hd (belowTo HBW.out ha)
  obtain ⟨g10, hg⟩ : ∃ g, g = x9.heap.size := ⟨_, rfl⟩
  rw [← hg] at V_f ⊢
  clear E ha hg p_f
  have hkj := HK.out.2.1
  obtain ⟨l_f, a_f, b_f, -, -⟩ := V_f.out.pair.facts
  go_wp2_with fail
  refine (shift_o hf (-(k - j)) dn 0 A4 c4 F_hf.out (by omega) (by omega) y10 V_f.out.raw HR.out.1 HR.out.2).mono ?_
  rintro e x11 ⟨A5, c5, rfl, r5, hb⟩
  clear l_f a_f b_f
  have V_x := Hd (V_x.out.below hb)
  have V_u := Hd (V_u.out.below hb)
  have V_b := Hd (V_b.out.below hb)
  have V_d := Hd (V_d.out.below hb)
  have V_f := Hd (V_f.out.below hb)
  have HT := Hd (HT.out.below hb)
  have HBW := Hd (belowTo HBW.out hb)
  have R_s := Hd r5
  clear hb r5
  clear hkj
  go_upto_region 11 with fail
  have ha := ((Below.refl x11.heap.size x11).alloc (Nat.le_refl _) (.cells #[.bool (decide (dn < 0)), .slice A5 (natL dn.natAbs).length c5] 24))
  have p_s := (Pair.new x11 24 (.bool (decide (dn < 0))) (.slice A5 (natL dn.natAbs).length c5))
  obtain ⟨y12, E⟩ : ∃ W, W = (x11.alloc (.cells #[.bool (decide (dn < 0)), .slice A5 (natL dn.natAbs).length c5] 24)) := ⟨_, rfl⟩
  rw [← E] at ha p_s ⊢
  have V_s := Hd (NV.of R_s.out ha p_s)
  have V_x := Hd (V_x.out.below ha)
  have V_u := Hd (V_u.out.below ha)
  have V_b := Hd (V_b.out.below ha)
  have V_d := Hd (V_d.out.below ha)
  have V_f := Hd (V_f.out.below ha)
  have HT := Hd (HT.out.below ha)
  have HBW := Hd (belowTo HBW.out ha)
  obtain ⟨g12, hg⟩ : ∃ g, g = x11.heap.size := ⟨_, rfl⟩
  rw [← hg] at V_s ⊢
  clear E ha hg p_s
  obtain ⟨l_u, a_u, b_u, -, -⟩ := V_u.out.pair.facts
  obtain ⟨l_b, a_b, b_b, -, -⟩ := V_b.out.pair.facts
  obtain ⟨l_d, a_d, b_d, -, -⟩ := V_d.out.pair.facts
  obtain ⟨l_f, a_f, b_f, -, -⟩ := V_f.out.pair.facts
  obtain ⟨l_s, a_s, b_s, -, -⟩ := V_s.out.pair.facts
  go_wp2_with fail
  refine (may5 up x dn hf dn A1 A2 A3 A4 A5 c1 c2 c3 c4 c5 y12 V_u.out.raw V_b.out.raw V_d.out.raw V_f.out.raw V_s.out.raw F_up.out F_x.out F_dn.out F_hf.out F_dn.out 24).mono ?_
  rintro e x13 ⟨rfl, hb⟩
  clear l_u a_u b_u l_b a_b b_b l_d a_d b_d l_f a_f b_f l_s a_s b_s
  have V_x := Hd (V_x.out.below hb)
  have V_u := Hd (V_u.out.below hb)
  have V_b := Hd (V_b.out.below hb)
  have V_d := Hd (V_d.out.below hb)
  have V_f := Hd (V_f.out.below hb)
  have V_s := Hd (V_s.out.below hb)
  have HT := Hd (HT.out.below hb)
  have HBW := Hd (belowTo HBW.out hb)
  clear hb
  obtain ⟨l_b, a_b, b_b, -, -⟩ := V_b.out.pair.facts
  obtain ⟨l_x, a_x, b_x, -, -⟩ := V_x.out.pair.facts
  go_wp2_with fail
  refine (same_z x x A2 A c2 c x13 V_b.out.raw V_x.out.raw true (by simp)).mono ?_
  rintro e x14 ⟨rfl, hb⟩
  clear l_b a_b b_b l_x a_x b_x
  have V_x := Hd (V_x.out.below hb)
  have V_u := Hd (V_u.out.below hb)
  have V_b := Hd (V_b.out.below hb)
  have V_d := Hd (V_d.out.below hb)
  have V_f := Hd (V_f.out.below hb)
  have V_s := Hd (V_s.out.below hb)
  have HT := Hd (HT.out.below hb)
  have HBW := Hd (belowTo HBW.out hb)
  clear hb
  obtain ⟨l_s, a_s, b_s, -, -⟩ := V_s.out.pair.facts
  obtain ⟨l_d, a_d, b_d, -, -⟩ := V_d.out.pair.facts
  go_wp2_with fail
  refine (same_z dn dn A5 A3 c5 c3 x14 V_s.out.raw V_d.out.raw true (by simp)).mono ?_
  rintro e x15 ⟨rfl, hb⟩
  clear l_s a_s b_s l_d a_d b_d
  have V_x := Hd (V_x.out.below hb)
  have V_u := Hd (V_u.out.below hb)
  have V_b := Hd (V_b.out.below hb)
  have V_d := Hd (V_d.out.below hb)
  have V_f := Hd (V_f.out.below hb)
  have V_s := Hd (V_s.out.below hb)
  have HT := Hd (HT.out.below hb)
  have HBW := Hd (belowTo HBW.out hb)
  clear hb
  go_upto_region 13 with fail
  clear V_u V_b V_d V_f V_s
  go_wp2_with fail
  refine wp_region_free [.val (.agg #[.bool (decide (x < 0)), .slice A (natL x.natAbs).length c]) [], .any false (fun u V => IntOwn V 0 u two) [], .any false (fun u V => IntsE V 0 u q r 0) [1], .any false (fun u V => IntsE V 0 u q r 0) [2], .any false (fun u V => IntOwn V 0 u q) [3], .any false (fun u V => IntOwn V 0 u r) [3], .val (.int .i64 0) [3], .new 24 2, .new 24 2, .put 24 2 7 4 [], .put 24 2 8 5 [], .val (.int .i64 0) []] x15.heap.size x15 [24] (fun _ _ => False) _ mixedOrders2 (Nat.le_refl _) (Below.refl _ _) (KeptV.refl _ _ _) rfl (by kernel_rfl) (by kernel_rfl) (by kernel_rfl) (by kernel_rfl) (by kernel_rfl) (by kernel_rfl) (by kernel_rfl) (by kernel_rfl) rfl (by simp [oldsF]) ?_ ?_ ?_ ?_
  · simp only [StableF, and_true]
    exact ⟨fun u V V' h k => h.kept k (by decide), fun u V V' h k => h.kept k (by decide), fun u V V' h k => h.kept k (by decide), fun u V V' h k => h.kept k (by decide), fun u V V' h k => h.kept k (by decide)⟩
  · simp only [OldsF]
  · simp (maxSteps := 4000000) [StepsF, DepF, freeAct, fill, pairs]
    repeat' (first | apply And.intro | (intro (u : Value)) | (intro (u : Nat)))
    all_goals try exact ⟨_, _, _, rfl, rfl, rfl, rfl, intInfo⟩
    all_goals try exact allocInt rfl
    all_goals first
    | (intro V hV hK
       obtain ⟨-, a_x, b_x, -, -⟩ := (V_x.out.below hV).pair.facts
       clear hV hK
       go_simp
       first
       | exact Below.refl _ _
       | ((with_reducible refine (of_o 2 two H2.out (by decide) (by decide) V).mono ?_); rintro e w' ⟨v, rfl, hv, hb⟩; exact ⟨hv.base (Nat.zero_le _), hb⟩))
    | (intro V hV hK hu
       obtain ⟨A', c', rfl, hr⟩ := hu.raw
       have r2 := Hd hr
       have r1 := Hd (V_x.out.below hV).raw
       clear hV hK hu hr
       go_simp
       (with_reducible refine (quorem_o x two q r A A' c c' F_x.out F_two.out V r1.out r2.out HQ.out.1 HQ.out.2.1 HQ.out.2.2).mono ?_)
       rintro e w' ⟨v1, v2, rfl, hv, hb⟩
       exact ⟨⟨_, _, rfl, hv.one.base (Nat.zero_le _), hv.two.base (Nat.zero_le _)⟩, hb⟩)
    | (intro V hV hK hu
       obtain ⟨v, v', rfl, hv, hv'⟩ := hu.ex
       clear hV hK
       go_simp
       first
       | exact Below.refl _ _
       | exact ⟨hu, Below.refl _ _⟩
       | exact ⟨hv, Below.refl _ _⟩
       | exact ⟨hv', Below.refl _ _⟩)
    | exact fun _ _ _ (h : IntOwn _ _ _ _) => h.cells
    | exact fun _ _ _ (h : IntOwn _ _ _ _) _ => h.cells
  · simp [EndF, FactsF, freeAct, fill, pairs]
    intro u1 u2 u3 u4 u5 bq hbq br hbr V hV hK h1 h2 h3 h4 h5 p1 p2 _ _ hne
    have hqr : bq ≠ br := fun e => hne.new 7 8 rfl rfl (by decide) (by subst e; rfl)
    obtain ⟨A6, c6, rfl, r6⟩ := h4.raw
    obtain ⟨A7, c7, rfl, r7⟩ := h5.raw
    have O_q := Hd h4
    have V_q := Hd (show NV V bq q A6 c6 from ⟨⟨p1⟩, r6⟩)
    have V_r := Hd (show NV V br r A7 c7 from ⟨⟨p2⟩, r7⟩)
    have hwq : w.heap.size ≤ bq := Nat.le_trans HBW.out.size hbq
    have V_x := Hd (V_x.out.below hV)
    have HT := Hd (HT.out.below hV)
    have HBW := Hd (belowTo HBW.out hV)
    clear hV hK h1 h2 h3 h4 h5 p1 p2 r6 r7 hne hbr
    obtain ⟨vq, hV0⟩ : ∃ Y, Y = V := ⟨_, rfl⟩
    rw [← hV0] at HBW HT O_q V_x V_q V_r ⊢
    clear hV0
    have hbq9 := V_q.out.pair.blk.lt
    obtain ⟨l_x, a_x, b_x, -, -⟩ := V_x.out.pair.facts
    go_wp2_with fail
    refine (shift_own x (-1) hh 0 A c F_x.out (by omega) (by omega) vq V_x.out.raw HH1.out.1 HH1.out.2).mono ?_
    rintro e x16 ⟨v8, rfl, hI8, hb⟩
    obtain ⟨A8, c8, rfl, r8⟩ := hI8.raw
    have hsz9 := hb.size
    clear l_x a_x b_x
    have V_x := Hd (V_x.out.below hb)
    have V_q := Hd (V_q.out.below hb)
    have V_r := Hd (V_r.out.below hb)
    have HT := Hd (HT.out.below hb)
    have O_q := Hd (O_q.out.below hb)
    have HBW := Hd (belowTo HBW.out hb)
    have R_h := Hd r8
    clear hb r8
    have O_h := Hd hI8
    clear hI8
    go_upto_region 15 with fail
    have ha := ((Below.refl x16.heap.size x16).alloc (Nat.le_refl _) (.cells #[.bool (decide (hh < 0)), .slice A8 (natL hh.natAbs).length c8] 24))
    have p_h := (Pair.new x16 24 (.bool (decide (hh < 0))) (.slice A8 (natL hh.natAbs).length c8))
    obtain ⟨y17, E⟩ : ∃ W, W = (x16.alloc (.cells #[.bool (decide (hh < 0)), .slice A8 (natL hh.natAbs).length c8] 24)) := ⟨_, rfl⟩
    rw [← E] at ha p_h ⊢
    have V_h := Hd (NV.of R_h.out ha p_h)
    have V_x := Hd (V_x.out.below ha)
    have V_q := Hd (V_q.out.below ha)
    have V_r := Hd (V_r.out.below ha)
    have HT := Hd (HT.out.below ha)
    have O_q := Hd (O_q.out.below ha)
    have O_h := Hd (O_h.out.below ha)
    have HBW := Hd (belowTo HBW.out ha)
    obtain ⟨g17, hg⟩ : ∃ g, g = x16.heap.size := ⟨_, rfl⟩
    rw [← hg] at V_h ⊢
    have hge17 : x16.heap.size ≤ g17 := by omega
    clear E ha hg p_h
    have hgq : bq < g17 := by omega
    have hnr := HNR.out
    obtain ⟨l_r, a_r, b_r, -, -⟩ := V_r.out.pair.facts
    go_upto_region 17 with fail
    clear hnr
    clear l_r a_r b_r
    obtain ⟨l_h, a_h, b_h, -, -⟩ := V_h.out.pair.facts
    obtain ⟨l_q, a_q, b_q, -, -⟩ := V_q.out.pair.facts
    go_wp2_with fail
    refine (same_z hh q A8 A6 c8 c6 y17 V_h.out.raw V_q.out.raw true (by rw [HE.out]; simp)).mono ?_
    rintro e x18 ⟨rfl, hb⟩
    clear l_h a_h b_h l_q a_q b_q
    have V_x := Hd (V_x.out.below hb)
    have V_q := Hd (V_q.out.below hb)
    have V_r := Hd (V_r.out.below hb)
    have V_h := Hd (V_h.out.below hb)
    have HT := Hd (HT.out.below hb)
    have O_q := Hd (O_q.out.below hb)
    have O_h := Hd (O_h.out.below hb)
    have HBW := Hd (belowTo HBW.out hb)
    clear hb
    go_wp2_with fail
    go_ret
    exact ⟨rfl, HBW.out⟩

theorem shifts_neg (x n k : Int) (A : Option Addr) (c : Nat) (hx : Fit x) (hn0 : 0 ≤ n) (hn1 : n ≤ 65535) (hk : n % 4096 = k) (hl : x = 0 ∨ (bz x : Int) + k ≤ 65536) (hr : x.tmod 2 < 0) (w : World) (h : Raw w A c (natL x.natAbs)) (htab : powTab w) :
    Calls Tryd.prog 4 #[.agg #[.bool (decide (x < 0)), .slice A (natL x.natAbs).length c], .int .u16 n] w fun e w' => e = .returned (.bool true) ∧ Below w.heap.size w w' := by
  have hk0 : 0 ≤ k := by omega
  have hk1 : k ≤ 4095 := by omega
  obtain ⟨up, h_up⟩ : ∃ z : Int, z = x * ((2 ^ k.toNat : Nat) : Int) := ⟨_, rfl⟩
  obtain ⟨dn, h_dn⟩ : ∃ z : Int, z = x / ((2 ^ k.toNat : Nat) : Int) := ⟨_, rfl⟩
  obtain ⟨j, h_j⟩ : ∃ z : Int, z = k / 2 := ⟨_, rfl⟩
  obtain ⟨nj, h_nj⟩ : ∃ z : Int, z = -j := ⟨_, rfl⟩
  obtain ⟨hf, h_hf⟩ : ∃ z : Int, z = x / ((2 ^ j.toNat : Nat) : Int) := ⟨_, rfl⟩
  obtain ⟨q, h_q⟩ : ∃ z : Int, z = x.tdiv 2 := ⟨_, rfl⟩
  obtain ⟨r, h_r⟩ : ∃ z : Int, z = x.tmod 2 := ⟨_, rfl⟩
  obtain ⟨hh, h_h⟩ : ∃ z : Int, z = x / ((2 ^ (1 : Int).toNat : Nat) : Int) := ⟨_, rfl⟩
  obtain ⟨two, h_two⟩ : ∃ z : Int, z = 2 := ⟨_, rfl⟩
  obtain ⟨one, h_one⟩ : ∃ z : Int, z = 1 := ⟨_, rfl⟩
  have hfx : Fit x := hx
  have hfu : Fit up := by
    rcases hl with h0 | h0
    · rw [h_up, h0, Int.zero_mul]; decide
    · by_cases hx0 : x = 0
      · rw [h_up, hx0, Int.zero_mul]; decide
      · rw [h_up]; exact (bz_double hx0 k.toNat).2 (by omega)
  have F_up := Hd hfu
  have F_dn := Hd (show Fit dn from by rw [h_dn]; exact ediv_fit hfx _)
  have F_hf := Hd (show Fit hf from by rw [h_hf]; exact ediv_fit hfx _)
  have F_hh := Hd (show Fit hh from by rw [h_h]; exact ediv_fit hfx _)
  have F_q := Hd (show Fit q from by rw [h_q]; exact tdiv_fit hfx)
  have F_r := Hd (show Fit r from by rw [h_r]; exact tmod_fit hfx)
  have F_two := Hd (show Fit two from Fit.small (by rw [h_two]; decide))
  have F_one := Hd (show Fit one from Fit.small (by rw [h_one]; decide))
  have HU := Hd (show up = shiftV x k ∧ 0 = shiftE x k from by rw [h_up]; exact shift_up hk0 hl)
  have HB := Hd (show x = shiftV up (-k) ∧ 0 = shiftE up (-k) from by
    have h1 := shift_down hfu hk0 (by omega)
    have h2 : up / ((2 ^ k.toNat : Nat) : Int) = x := by
      rw [h_up]
      exact Int.mul_ediv_cancel _ (by have := Nat.two_pow_pos k.toNat; omega)
    rw [h2] at h1
    exact h1)
  have HD := Hd (show dn = shiftV x (-k) ∧ 0 = shiftE x (-k) from by rw [h_dn]; exact shift_down hfx hk0 (by omega))
  have HH := Hd (show hf = shiftV x nj ∧ 0 = shiftE x nj from by rw [h_hf, h_nj]; exact shift_down hfx (by omega) (by omega))
  have HR := Hd (show dn = shiftV hf (-(k - j)) ∧ 0 = shiftE hf (-(k - j)) from by
    have h1 := shift_down (x := hf) (j := k - j) (by rw [h_hf]; exact ediv_fit hfx _) (by omega) (by omega)
    have h2 : hf / ((2 ^ (k - j).toNat : Nat) : Int) = dn := by
      rw [h_hf, h_dn, Int.ediv_ediv, if_neg (fun h => absurd h.1 (Int.not_lt.2 (Int.natCast_nonneg _))), Int.sub_zero, ← Int.natCast_mul, ← Nat.pow_add, show j.toNat + (k - j).toNat = k.toNat by omega]
    rw [h2] at h1
    exact h1)
  have HH1 := Hd (show hh = shiftV x (-1) ∧ 0 = shiftE x (-1) from by rw [h_h]; exact shift_down hfx (by omega) (by omega))
  have HQ := Hd (show two ≠ 0 ∧ q = x.tdiv two ∧ r = x.tmod two from by rw [h_two]; exact ⟨by decide, h_q, h_r⟩)
  have h2h : hh = x / 2 := h_h
  have H2 := Hd h_two
  have H1 := Hd h_one
  have HNR := Hd (show decide (r < 0) = true from by rw [h_r]; exact decide_eq_true hr)
  have HE := Hd (show hh = q - one from by rw [h2h, h_q, h_one]; have := Int.tmod_add_mul_tdiv x 2; have := Int.tmod_lt_of_pos (-x) (show (0 : Int) < 2 by decide); rw [Int.neg_tmod] at this; omega)
  have hjk : k / 2 = j := h_j.symm
  have hj0 : 0 ≤ j := by omega
  have hj1 : j ≤ k := by omega
  have hnj0 : -4095 ≤ nj := by omega
  have hnj1 : nj ≤ 0 := by omega
  have hkt : (-k).tdiv 2 = nj := by rw [h_nj, h_j, Int.neg_tdiv, Int.tdiv_eq_ediv_of_nonneg hk0]
  have HK := Hd (show n % 4096 = k ∧ k / 2 = j ∧ (-k).tdiv 2 = nj from ⟨hk, hjk, hkt⟩)
  clear hl hr hfx hfu h2h hjk hkt hk h_up h_dn h_j h_nj h_hf h_q h_r h_h h_two h_one
  have p0 := Pair.new w 24 (.bool (decide (x < 0))) (.slice A (natL x.natAbs).length c)
  have b0 := ((Below.refl w.heap.size w).alloc (Nat.le_refl _) (.cells #[.bool (decide (x < 0)), .slice A (natL x.natAbs).length c] 24))
  have V_x := Hd (NV.of h b0 p0)
  have F_x := Hd hx
  have HT := Hd (htab.below b0)
  have HBW := Hd b0
  clear h htab p0 b0 hx
  go_enter Tryd.func4, Tryd.ntmps4
  obtain ⟨W, E⟩ : ∃ W, W = (w.alloc (.cells #[.bool (decide (x < 0)), .slice A (natL x.natAbs).length c] 24)) := ⟨_, rfl⟩
  go_upto_region 1 with fail
  rw [← E] at V_x HT HBW ⊢
  clear E
  go_wp2_with fail
  refine (alive_true W HT.out).mono ?_
  rintro e x1 ⟨rfl, hb⟩
  have V_x := Hd (V_x.out.below hb)
  have HT := Hd (HT.out.below hb)
  have HBW := Hd (belowTo HBW.out hb)
  clear hb
  obtain ⟨l_x, a_x, b_x, -, -⟩ := V_x.out.pair.facts
  go_wp2_with fail
  refine (may1 x A c x1 V_x.out.raw 24 true (by simp [F_x.out])).mono ?_
  rintro e x2 ⟨rfl, hb⟩
  clear l_x a_x b_x
  have V_x := Hd (V_x.out.below hb)
  have HT := Hd (HT.out.below hb)
  have HBW := Hd (belowTo HBW.out hb)
  clear hb
  have hk := HK.out.1
  obtain ⟨l_x, a_x, b_x, -, -⟩ := V_x.out.pair.facts
  go_wp2_with fail
  refine (shift_o x k up 0 A c F_x.out (by omega) (by omega) x2 V_x.out.raw HU.out.1 HU.out.2).mono ?_
  rintro e x3 ⟨A1, c1, rfl, r1, hb⟩
  clear l_x a_x b_x
  have V_x := Hd (V_x.out.below hb)
  have HT := Hd (HT.out.below hb)
  have HBW := Hd (belowTo HBW.out hb)
  have R_u := Hd r1
  clear hb r1
  clear hk
  go_upto_region 7 with fail
  have ha := ((Below.refl x3.heap.size x3).alloc (Nat.le_refl _) (.cells #[.bool (decide (up < 0)), .slice A1 (natL up.natAbs).length c1] 24))
  have p_u := (Pair.new x3 24 (.bool (decide (up < 0))) (.slice A1 (natL up.natAbs).length c1))
  obtain ⟨y4, E⟩ : ∃ W, W = (x3.alloc (.cells #[.bool (decide (up < 0)), .slice A1 (natL up.natAbs).length c1] 24)) := ⟨_, rfl⟩
  rw [← E] at ha p_u ⊢
  have V_u := Hd (NV.of R_u.out ha p_u)
  have V_x := Hd (V_x.out.below ha)
  have HT := Hd (HT.out.below ha)
  have HBW := Hd (belowTo HBW.out ha)
  obtain ⟨g4, hg⟩ : ∃ g, g = x3.heap.size := ⟨_, rfl⟩
  rw [← hg] at V_u ⊢
  clear E ha hg p_u
  obtain ⟨l_u, a_u, b_u, -, -⟩ := V_u.out.pair.facts
  go_wp2_with fail
  refine (shift_o up (-k) x 0 A1 c1 F_up.out (by omega) (by omega) y4 V_u.out.raw HB.out.1 HB.out.2).mono ?_
  rintro e x5 ⟨A2, c2, rfl, r2, hb⟩
  clear l_u a_u b_u
  have V_x := Hd (V_x.out.below hb)
  have V_u := Hd (V_u.out.below hb)
  have HT := Hd (HT.out.below hb)
  have HBW := Hd (belowTo HBW.out hb)
  have R_b := Hd r2
  clear hb r2
  go_upto_region 8 with fail
  have ha := ((Below.refl x5.heap.size x5).alloc (Nat.le_refl _) (.cells #[.bool (decide (x < 0)), .slice A2 (natL x.natAbs).length c2] 24))
  have p_b := (Pair.new x5 24 (.bool (decide (x < 0))) (.slice A2 (natL x.natAbs).length c2))
  obtain ⟨y6, E⟩ : ∃ W, W = (x5.alloc (.cells #[.bool (decide (x < 0)), .slice A2 (natL x.natAbs).length c2] 24)) := ⟨_, rfl⟩
  rw [← E] at ha p_b ⊢
  have V_b := Hd (NV.of R_b.out ha p_b)
  have V_x := Hd (V_x.out.below ha)
  have V_u := Hd (V_u.out.below ha)
  have HT := Hd (HT.out.below ha)
  have HBW := Hd (belowTo HBW.out ha)
  obtain ⟨g6, hg⟩ : ∃ g, g = x5.heap.size := ⟨_, rfl⟩
  rw [← hg] at V_b ⊢
  clear E ha hg p_b
  obtain ⟨l_x, a_x, b_x, -, -⟩ := V_x.out.pair.facts
  go_wp2_with fail
  refine (shift_o x (-k) dn 0 A c F_x.out (by omega) (by omega) y6 V_x.out.raw HD.out.1 HD.out.2).mono ?_
  rintro e x7 ⟨A3, c3, rfl, r3, hb⟩
  clear l_x a_x b_x
  have V_x := Hd (V_x.out.below hb)
  have V_u := Hd (V_u.out.below hb)
  have V_b := Hd (V_b.out.below hb)
  have HT := Hd (HT.out.below hb)
  have HBW := Hd (belowTo HBW.out hb)
  have R_d := Hd r3
  clear hb r3
  go_upto_region 9 with fail
  have ha := ((Below.refl x7.heap.size x7).alloc (Nat.le_refl _) (.cells #[.bool (decide (dn < 0)), .slice A3 (natL dn.natAbs).length c3] 24))
  have p_d := (Pair.new x7 24 (.bool (decide (dn < 0))) (.slice A3 (natL dn.natAbs).length c3))
  obtain ⟨y8, E⟩ : ∃ W, W = (x7.alloc (.cells #[.bool (decide (dn < 0)), .slice A3 (natL dn.natAbs).length c3] 24)) := ⟨_, rfl⟩
  rw [← E] at ha p_d ⊢
  have V_d := Hd (NV.of R_d.out ha p_d)
  have V_x := Hd (V_x.out.below ha)
  have V_u := Hd (V_u.out.below ha)
  have V_b := Hd (V_b.out.below ha)
  have HT := Hd (HT.out.below ha)
  have HBW := Hd (belowTo HBW.out ha)
  obtain ⟨g8, hg⟩ : ∃ g, g = x7.heap.size := ⟨_, rfl⟩
  rw [← hg] at V_d ⊢
  clear E ha hg p_d
  have hkt := HK.out.2.2
  obtain ⟨l_x, a_x, b_x, -, -⟩ := V_x.out.pair.facts
  go_wp2_with fail
  refine (shift_o x nj hf 0 A c F_x.out (by omega) (by omega) y8 V_x.out.raw HH.out.1 HH.out.2).mono ?_
  rintro e x9 ⟨A4, c4, rfl, r4, hb⟩
  clear l_x a_x b_x
  have V_x := Hd (V_x.out.below hb)
  have V_u := Hd (V_u.out.below hb)
  have V_b := Hd (V_b.out.below hb)
  have V_d := Hd (V_d.out.below hb)
  have HT := Hd (HT.out.below hb)
  have HBW := Hd (belowTo HBW.out hb)
  have R_f := Hd r4
  clear hb r4
  clear hkt
  go_upto_region 10 with fail
  have ha := ((Below.refl x9.heap.size x9).alloc (Nat.le_refl _) (.cells #[.bool (decide (hf < 0)), .slice A4 (natL hf.natAbs).length c4] 24))
  have p_f := (Pair.new x9 24 (.bool (decide (hf < 0))) (.slice A4 (natL hf.natAbs).length c4))
  obtain ⟨y10, E⟩ : ∃ W, W = (x9.alloc (.cells #[.bool (decide (hf < 0)), .slice A4 (natL hf.natAbs).length c4] 24)) := ⟨_, rfl⟩
  rw [← E] at ha p_f ⊢
  have V_f := Hd (NV.of R_f.out ha p_f)
  have V_x := Hd (V_x.out.below ha)
  have V_u := Hd (V_u.out.below ha)
  have V_b := Hd (V_b.out.below ha)
  have V_d := Hd (V_d.out.below ha)
  have HT := Hd (HT.out.below ha)
  have HBW := Hd (belowTo HBW.out ha)
  obtain ⟨g10, hg⟩ : ∃ g, g = x9.heap.size := ⟨_, rfl⟩
  rw [← hg] at V_f ⊢
  clear E ha hg p_f
  have hkj := HK.out.2.1
  obtain ⟨l_f, a_f, b_f, -, -⟩ := V_f.out.pair.facts
  go_wp2_with fail
  refine (shift_o hf (-(k - j)) dn 0 A4 c4 F_hf.out (by omega) (by omega) y10 V_f.out.raw HR.out.1 HR.out.2).mono ?_
  rintro e x11 ⟨A5, c5, rfl, r5, hb⟩
  clear l_f a_f b_f
  have V_x := Hd (V_x.out.below hb)
  have V_u := Hd (V_u.out.below hb)
  have V_b := Hd (V_b.out.below hb)
  have V_d := Hd (V_d.out.below hb)
  have V_f := Hd (V_f.out.below hb)
  have HT := Hd (HT.out.below hb)
  have HBW := Hd (belowTo HBW.out hb)
  have R_s := Hd r5
  clear hb r5
  clear hkj
  go_upto_region 11 with fail
  have ha := ((Below.refl x11.heap.size x11).alloc (Nat.le_refl _) (.cells #[.bool (decide (dn < 0)), .slice A5 (natL dn.natAbs).length c5] 24))
  have p_s := (Pair.new x11 24 (.bool (decide (dn < 0))) (.slice A5 (natL dn.natAbs).length c5))
  obtain ⟨y12, E⟩ : ∃ W, W = (x11.alloc (.cells #[.bool (decide (dn < 0)), .slice A5 (natL dn.natAbs).length c5] 24)) := ⟨_, rfl⟩
  rw [← E] at ha p_s ⊢
  have V_s := Hd (NV.of R_s.out ha p_s)
  have V_x := Hd (V_x.out.below ha)
  have V_u := Hd (V_u.out.below ha)
  have V_b := Hd (V_b.out.below ha)
  have V_d := Hd (V_d.out.below ha)
  have V_f := Hd (V_f.out.below ha)
  have HT := Hd (HT.out.below ha)
  have HBW := Hd (belowTo HBW.out ha)
  obtain ⟨g12, hg⟩ : ∃ g, g = x11.heap.size := ⟨_, rfl⟩
  rw [← hg] at V_s ⊢
  clear E ha hg p_s
  obtain ⟨l_u, a_u, b_u, -, -⟩ := V_u.out.pair.facts
  obtain ⟨l_b, a_b, b_b, -, -⟩ := V_b.out.pair.facts
  obtain ⟨l_d, a_d, b_d, -, -⟩ := V_d.out.pair.facts
  obtain ⟨l_f, a_f, b_f, -, -⟩ := V_f.out.pair.facts
  obtain ⟨l_s, a_s, b_s, -, -⟩ := V_s.out.pair.facts
  go_wp2_with fail
  refine (may5 up x dn hf dn A1 A2 A3 A4 A5 c1 c2 c3 c4 c5 y12 V_u.out.raw V_b.out.raw V_d.out.raw V_f.out.raw V_s.out.raw F_up.out F_x.out F_dn.out F_hf.out F_dn.out 24).mono ?_
  rintro e x13 ⟨rfl, hb⟩
  clear l_u a_u b_u l_b a_b b_b l_d a_d b_d l_f a_f b_f l_s a_s b_s
  have V_x := Hd (V_x.out.below hb)
  have V_u := Hd (V_u.out.below hb)
  have V_b := Hd (V_b.out.below hb)
  have V_d := Hd (V_d.out.below hb)
  have V_f := Hd (V_f.out.below hb)
  have V_s := Hd (V_s.out.below hb)
  have HT := Hd (HT.out.below hb)
  have HBW := Hd (belowTo HBW.out hb)
  clear hb
  obtain ⟨l_b, a_b, b_b, -, -⟩ := V_b.out.pair.facts
  obtain ⟨l_x, a_x, b_x, -, -⟩ := V_x.out.pair.facts
  go_wp2_with fail
  refine (same_z x x A2 A c2 c x13 V_b.out.raw V_x.out.raw true (by simp)).mono ?_
  rintro e x14 ⟨rfl, hb⟩
  clear l_b a_b b_b l_x a_x b_x
  have V_x := Hd (V_x.out.below hb)
  have V_u := Hd (V_u.out.below hb)
  have V_b := Hd (V_b.out.below hb)
  have V_d := Hd (V_d.out.below hb)
  have V_f := Hd (V_f.out.below hb)
  have V_s := Hd (V_s.out.below hb)
  have HT := Hd (HT.out.below hb)
  have HBW := Hd (belowTo HBW.out hb)
  clear hb
  obtain ⟨l_s, a_s, b_s, -, -⟩ := V_s.out.pair.facts
  obtain ⟨l_d, a_d, b_d, -, -⟩ := V_d.out.pair.facts
  go_wp2_with fail
  refine (same_z dn dn A5 A3 c5 c3 x14 V_s.out.raw V_d.out.raw true (by simp)).mono ?_
  rintro e x15 ⟨rfl, hb⟩
  clear l_s a_s b_s l_d a_d b_d
  have V_x := Hd (V_x.out.below hb)
  have V_u := Hd (V_u.out.below hb)
  have V_b := Hd (V_b.out.below hb)
  have V_d := Hd (V_d.out.below hb)
  have V_f := Hd (V_f.out.below hb)
  have V_s := Hd (V_s.out.below hb)
  have HT := Hd (HT.out.below hb)
  have HBW := Hd (belowTo HBW.out hb)
  clear hb
  go_upto_region 13 with fail
  clear V_u V_b V_d V_f V_s
  go_wp2_with fail
  refine wp_region_free [.val (.agg #[.bool (decide (x < 0)), .slice A (natL x.natAbs).length c]) [], .any false (fun u V => IntOwn V 0 u two) [], .any false (fun u V => IntsE V 0 u q r 0) [1], .any false (fun u V => IntsE V 0 u q r 0) [2], .any false (fun u V => IntOwn V 0 u q) [3], .any false (fun u V => IntOwn V 0 u r) [3], .val (.int .i64 0) [3], .new 24 2, .new 24 2, .put 24 2 7 4 [], .put 24 2 8 5 [], .val (.int .i64 0) []] x15.heap.size x15 [24] (fun _ _ => False) _ mixedOrders2 (Nat.le_refl _) (Below.refl _ _) (KeptV.refl _ _ _) rfl (by kernel_rfl) (by kernel_rfl) (by kernel_rfl) (by kernel_rfl) (by kernel_rfl) (by kernel_rfl) (by kernel_rfl) (by kernel_rfl) rfl (by simp [oldsF]) ?_ ?_ ?_ ?_
  · simp only [StableF, and_true]
    exact ⟨fun u V V' h k => h.kept k (by decide), fun u V V' h k => h.kept k (by decide), fun u V V' h k => h.kept k (by decide), fun u V V' h k => h.kept k (by decide), fun u V V' h k => h.kept k (by decide)⟩
  · simp only [OldsF]
  · simp (maxSteps := 4000000) [StepsF, DepF, freeAct, fill, pairs]
    repeat' (first | apply And.intro | (intro (u : Value)) | (intro (u : Nat)))
    all_goals try exact ⟨_, _, _, rfl, rfl, rfl, rfl, intInfo⟩
    all_goals try exact allocInt rfl
    all_goals first
    | (intro V hV hK
       obtain ⟨-, a_x, b_x, -, -⟩ := (V_x.out.below hV).pair.facts
       clear hV hK
       go_simp
       first
       | exact Below.refl _ _
       | ((with_reducible refine (of_o 2 two H2.out (by decide) (by decide) V).mono ?_); rintro e w' ⟨v, rfl, hv, hb⟩; exact ⟨hv.base (Nat.zero_le _), hb⟩))
    | (intro V hV hK hu
       obtain ⟨A', c', rfl, hr⟩ := hu.raw
       have r2 := Hd hr
       have r1 := Hd (V_x.out.below hV).raw
       clear hV hK hu hr
       go_simp
       (with_reducible refine (quorem_o x two q r A A' c c' F_x.out F_two.out V r1.out r2.out HQ.out.1 HQ.out.2.1 HQ.out.2.2).mono ?_)
       rintro e w' ⟨v1, v2, rfl, hv, hb⟩
       exact ⟨⟨_, _, rfl, hv.one.base (Nat.zero_le _), hv.two.base (Nat.zero_le _)⟩, hb⟩)
    | (intro V hV hK hu
       obtain ⟨v, v', rfl, hv, hv'⟩ := hu.ex
       clear hV hK
       go_simp
       first
       | exact Below.refl _ _
       | exact ⟨hu, Below.refl _ _⟩
       | exact ⟨hv, Below.refl _ _⟩
       | exact ⟨hv', Below.refl _ _⟩)
    | exact fun _ _ _ (h : IntOwn _ _ _ _) => h.cells
    | exact fun _ _ _ (h : IntOwn _ _ _ _) _ => h.cells
  · simp [EndF, FactsF, freeAct, fill, pairs]
    intro u1 u2 u3 u4 u5 bq hbq br hbr V hV hK h1 h2 h3 h4 h5 p1 p2 _ _ hne
    have hqr : bq ≠ br := fun e => hne.new 7 8 rfl rfl (by decide) (by subst e; rfl)
    obtain ⟨A6, c6, rfl, r6⟩ := h4.raw
    obtain ⟨A7, c7, rfl, r7⟩ := h5.raw
    have O_q := Hd h4
    have V_q := Hd (show NV V bq q A6 c6 from ⟨⟨p1⟩, r6⟩)
    have V_r := Hd (show NV V br r A7 c7 from ⟨⟨p2⟩, r7⟩)
    have hwq : w.heap.size ≤ bq := Nat.le_trans HBW.out.size hbq
    have V_x := Hd (V_x.out.below hV)
    have HT := Hd (HT.out.below hV)
    have HBW := Hd (belowTo HBW.out hV)
    clear hV hK h1 h2 h3 h4 h5 p1 p2 r6 r7 hne hbr
    obtain ⟨vq, hV0⟩ : ∃ Y, Y = V := ⟨_, rfl⟩
    rw [← hV0] at HBW HT O_q V_x V_q V_r ⊢
    clear hV0
    have hbq9 := V_q.out.pair.blk.lt
    obtain ⟨l_x, a_x, b_x, -, -⟩ := V_x.out.pair.facts
    go_wp2_with fail
    refine (shift_own x (-1) hh 0 A c F_x.out (by omega) (by omega) vq V_x.out.raw HH1.out.1 HH1.out.2).mono ?_
    rintro e x16 ⟨v8, rfl, hI8, hb⟩
    obtain ⟨A8, c8, rfl, r8⟩ := hI8.raw
    have hsz9 := hb.size
    clear l_x a_x b_x
    have V_x := Hd (V_x.out.below hb)
    have V_q := Hd (V_q.out.below hb)
    have V_r := Hd (V_r.out.below hb)
    have HT := Hd (HT.out.below hb)
    have O_q := Hd (O_q.out.below hb)
    have HBW := Hd (belowTo HBW.out hb)
    have R_h := Hd r8
    clear hb r8
    have O_h := Hd hI8
    clear hI8
    go_upto_region 15 with fail
    have ha := ((Below.refl x16.heap.size x16).alloc (Nat.le_refl _) (.cells #[.bool (decide (hh < 0)), .slice A8 (natL hh.natAbs).length c8] 24))
    have p_h := (Pair.new x16 24 (.bool (decide (hh < 0))) (.slice A8 (natL hh.natAbs).length c8))
    obtain ⟨y17, E⟩ : ∃ W, W = (x16.alloc (.cells #[.bool (decide (hh < 0)), .slice A8 (natL hh.natAbs).length c8] 24)) := ⟨_, rfl⟩
    rw [← E] at ha p_h ⊢
    have V_h := Hd (NV.of R_h.out ha p_h)
    have V_x := Hd (V_x.out.below ha)
    have V_q := Hd (V_q.out.below ha)
    have V_r := Hd (V_r.out.below ha)
    have HT := Hd (HT.out.below ha)
    have O_q := Hd (O_q.out.below ha)
    have O_h := Hd (O_h.out.below ha)
    have HBW := Hd (belowTo HBW.out ha)
    obtain ⟨g17, hg⟩ : ∃ g, g = x16.heap.size := ⟨_, rfl⟩
    rw [← hg] at V_h ⊢
    have hge17 : x16.heap.size ≤ g17 := by omega
    clear E ha hg p_h
    have hgq : bq < g17 := by omega
    have hnr := HNR.out
    obtain ⟨l_r, a_r, b_r, -, -⟩ := V_r.out.pair.facts
    go_upto_region 16 with fail
    clear hnr
    clear l_r a_r b_r
    go_wp2_with fail
    have hlq := V_q.out.pair.blk.lt
    have hlh := V_h.out.pair.blk.lt
    skip
    refine wp_region_free [.val (.agg #[.bool (decide (q < 0)), .slice A6 (natL q.natAbs).length c6]) [1006], .any false (fun u V => IntOwn V 0 u one) [], .any false (fun u V => IntE V 0 u hh 0) [1], .any false (fun u V => IntE V 0 u hh 0) [2], .any false (fun u V => IntOwn V 0 u hh) [3], .val (.int .i64 0) [3], .old bq 24 #[.bool (decide (q < 0)), .slice A6 (natL q.natAbs).length c6] 0 2 4 []] bq y17 [24] (fun _ _ => False) _ mixedOrders2 (by omega) (Below.refl _ _) (KeptV.refl _ _ _) rfl (by kernel_rfl) (by kernel_rfl) (by kernel_rfl) (by kernel_rfl) (by kernel_rfl) (by kernel_rfl) (by kernel_rfl) (by kernel_rfl) rfl (by simp [oldsF]) ?_ ?_ ?_ ?_
    · simp only [StableF, and_true]
      exact ⟨fun u V V' h k => h.kept k (by decide), fun u V V' h k => h.kept k (by decide), fun u V V' h k => h.kept k (by decide), fun u V V' h k => h.kept k (by decide)⟩
    · simp only [OldsF, and_true]
      exact ⟨Nat.le_refl _, by omega, V_q.out.pair.blk, by simp⟩
    · simp (maxSteps := 4000000) [StepsF, DepF, freeAct, fill, pairs]
      repeat' (first | apply And.intro | (intro (u : Value)) | (intro (u : Nat)))
      all_goals try exact ⟨_, _, _, rfl, rfl, rfl, rfl, intInfo⟩
      all_goals first
      | (intro V hV hK hp
         obtain ⟨-, a_q, b_q, -, -⟩ := (Pair.mk hp).facts
         clear hV hK hp
         go_simp
         exact Below.refl _ _)
      | (intro V hV hK
         clear hV hK
         go_simp
         first
         | exact Below.refl _ _
         | ((with_reducible refine (of_o 1 one H1.out (by decide) (by decide) V).mono ?_); rintro e w' ⟨v, rfl, hv, hb⟩; exact ⟨hv.base (Nat.zero_le _), hb⟩))
      | (intro V hV hK hu
         obtain ⟨A', c', rfl, hr⟩ := hu.raw
         have r2 := Hd hr
         have r1 := Hd (O_q.out.kept hK (by decide)).rawAt
         clear hV hK hu hr
         go_simp
         (with_reducible refine (sub_o q one hh A6 A' c6 c' F_q.out F_one.out V r1.out r2.out HE.out F_hh.out).mono ?_)
         rintro e w' ⟨v, rfl, hv, hb⟩
         exact ⟨⟨_, rfl, hv.base (Nat.zero_le _)⟩, hb⟩)
      | (intro V hV hK hu
         obtain ⟨v, rfl, hv⟩ := hu.ex
         clear hV hK
         go_simp
         first
         | exact Below.refl _ _
         | exact ⟨hu, Below.refl _ _⟩
         | exact ⟨hv, Below.refl _ _⟩)
      | exact fun _ _ _ (h : IntOwn _ _ _ _) => h.cells
    · simp [EndF, FactsF, freeAct, fill, pairs]
      intro u1 u2 u3 u4 V hV hK h1 h2 h3 h4 p1 _ _ hne
      have hon := hne.only
      simp [OnlyF, oldsF] at hon
      obtain ⟨A9, c9, rfl, r9⟩ := h4.raw
      simp [setAll, Value.cells] at p1
      have V_q2 := Hd (show NV V bq hh A9 c9 from ⟨⟨p1⟩, r9⟩)
      have V_h2 := Hd (show NV V g17 hh A8 c8 from ⟨⟨(hon g17 hlh (by omega)).trans V_h.out.pair.blk⟩, (O_h.out.kept hK (by decide)).rawAt⟩)
      have HF := Hd (HBW.out.trans (hV.mono (by omega)))
      clear hV hK h1 h2 h3 h4 p1 r9 hne hon
      obtain ⟨-, a_q, b_q, -, -⟩ := V_q2.out.pair.facts
      obtain ⟨-, a_h, b_h, -, -⟩ := V_h2.out.pair.facts
      go_wp2_with fail
      refine (same_z hh hh A8 A9 c8 c9 V V_h2.out.raw V_q2.out.raw true (by simp)).mono ?_
      rintro e wf ⟨rfl, hb⟩
      have HF2 := Hd (belowTo HF.out hb)
      clear hb a_q b_q a_h b_h
      go_wp2_with fail
      go_ret
      exact ⟨rfl, HF2.out⟩

theorem shifts_bad (n1 : Bool) (n : Int) (A : Option Addr) (c : Nat) (xs : List Nat) (o : (okI n1 xs) = false) (w : World) (h : Raw w A c xs) (htab : powTab w) :
    Calls Tryd.prog 4 #[.agg #[.bool n1, .slice A xs.length c], .int .u16 n] w fun e w' => e = .returned (.bool true) ∧ Below w.heap.size w w' := by
  have p0 := Pair.new w 24 (.bool n1) (.slice A xs.length c)
  have r0 := (h.alloc (.cells #[.bool n1, .slice A xs.length c] 24))
  have b0 := ((Below.refl w.heap.size w).alloc (Nat.le_refl _) (.cells #[.bool n1, .slice A xs.length c] 24))
  have HT := Hd (htab.below b0)
  have HO := Hd o
  clear h htab o
  go_enter Tryd.func4, Tryd.ntmps4
  obtain ⟨W, E⟩ : ∃ W, W = (w.alloc (.cells #[.bool n1, .slice A xs.length c] 24)) := ⟨_, rfl⟩
  go_upto_region 1 with fail
  rw [← E] at p0 r0 b0 HT ⊢
  clear E
  have P0 := Hd p0
  have R0 := Hd r0
  have HB := Hd b0
  clear p0 r0 b0
  go_wp2_with fail
  refine (alive_true W HT.out).mono ?_
  rintro e x1 ⟨rfl, hb⟩
  have P0 := Hd (P0.out.below hb)
  have R0 := Hd (R0.out.below hb)
  have HT := Hd (HT.out.below hb)
  have HB := Hd (belowTo HB.out hb)
  clear hb
  obtain ⟨l0, a0, b0, -, -⟩ := P0.out.facts
  go_wp2_with fail
  refine (may_list [(n1, A, c, xs)] (by simp) x1 (by intro m hm; simp at hm; rcases hm with rfl; exact R0.out) 24 false (by have := HO.out; simp only [List.all_cons, List.all_nil, Bool.and_true, okNum]; exact this.symm)).mono ?_
  rintro e x2 ⟨rfl, hb⟩
  have HT := Hd (HT.out.below hb)
  have HB := Hd (belowTo HB.out hb)
  clear hb l0 a0 b0
  go_wp2_with fail
  refine (alive_true x2 HT.out).mono ?_
  rintro e x3 ⟨rfl, hb⟩
  have HF := Hd (belowTo HB.out hb)
  clear hb
  go_wp2_with fail
  go_ret
  exact ⟨rfl, HF.out⟩

theorem shifts_true (n1 : Bool) (A : Option Addr) (c : Nat) (xs : List Nat) (n : Int) (w : World) (h : Raw w A c xs) (htab : powTab w) (hn0 : 0 ≤ n) (hn1 : n ≤ 65535) :
    Calls Tryd.prog 4 #[.agg #[.bool n1, .slice A xs.length c], .int .u16 n] w fun e w' => e = .returned (.bool true) ∧ Below w.heap.size w w' := by
  by_cases o1 : okI n1 xs = true
  · obtain ⟨e1, e2, e3⟩ := ok_num h.limbs o1
    generalize ival n1 xs = x at *
    subst e1 e2
    by_cases hl : x = 0 ∨ (bz x : Int) + n % 4096 ≤ 65536
    · by_cases hr : x.tmod 2 < 0
      · exact shifts_neg x n _ A c e3 hn0 hn1 rfl hl hr w h htab
      · exact shifts_plain x n _ A c e3 hn0 hn1 rfl hl hr w h htab
    · exact shifts_long x n _ A c e3 hn0 hn1 rfl (fun e => hl (.inl e)) (by omega) w h htab
  · exact shifts_bad n1 n A c xs (by simpa using o1) w h htab
end Go.Proofs.YtkncbenhfcpgkaaDoor
