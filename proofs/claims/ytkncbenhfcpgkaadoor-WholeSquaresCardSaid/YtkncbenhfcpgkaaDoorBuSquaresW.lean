/- Several texts in one: SquaresW. -/
import Derived.Test.YtkncbenhfcpgkaaDoorBu21
import Derived.Test.YtkncbenhfcpgkaaDoorBuHd
import Derived.Test.YtkncbenhfcpgkaaDoorBu22
import Derived.Test.YtkncbenhfcpgkaaDoorBu35
import Derived.Test.YtkncbenhfcpgkaaDoorBu27
import Derived.Test.YtkncbenhfcpgkaaDoorBu34
import Derived.Test.YtkncbenhfcpgkaaDoorBu32
import Derived.Test.YtkncbenhfcpgkaaDoorBu19
import Derived.Test.YtkncbenhfcpgkaaDoorBu26
import Derived.Test.YtkncbenhfcpgkaaDoorBu20
import Derived.Test.YtkncbenhfcpgkaaDoorBu03
import Derived.Test.YtkncbenhfcpgkaaDoorBu02
import Derived.Test.YtkncbenhfcpgkaaDoorBu01
import Derived.Test.YtkncbenhfcpgkaaDoorBu25
import Derived.Test.YtkncbenhfcpgkaaDoorBu33
import Derived.Test.YtkncbenhfcpgkaaDoorBu04
import Derived.Test.YtkncbenhfcpgkaaDoorBu11
import Derived.Test.YtkncbenhfcpgkaaDoorBu08
import Derived.Test.YtkncbenhfcpgkaaDoorBu10
import Derived.Test.YtkncbenhfcpgkaaDoorBu09
import Derived.Test.YtkncbenhfcpgkaaDoorBu05
import Derived.Test.YtkncbenhfcpgkaaDoorBu06
import Derived.Test.YtkncbenhfcpgkaaDoorBu07
import Derived.Test.YtkncbenhfcpgkaaDoorBu14
import Derived.Test.YtkncbenhfcpgkaaDoorBu17
import Derived.Test.YtkncbenhfcpgkaaDoorBu23
import Derived.Test.YtkncbenhfcpgkaaDoorBu24
import Derived.Test.YtkncbenhfcpgkaaDoorBu16
import Derived.Test.YtkncbenhfcpgkaaDoorBu15
import Derived.Test.YtkncbenhfcpgkaaDoorBu13
import Derived.Test.YtkncbenhfcpgkaaDoorBu12
import Derived.Test.YtkncbenhfcpgkaaDoorBu18
set_option maxRecDepth 100000
set_option maxHeartbeats 8000000
/- WholeSquares: the walk. (Written by wip/whole/gensquares.py.) -/
namespace Go.Proofs.YtkncbenhfcpgkaaDoor
open Go.RowKit

theorem above_fit {x r : Int} {L : Nat} (h : IsRootZ x r) (hx : lz x ≤ L) : lz ((r + 1) * (r + 1)) ≤ L + 1 := by
  have h1 := rootZ_le h
  have h2 := h.1
  have h3 := h.2.1
  have h4 : (r + 1) * (r + 1) = r * r + (2 * r + 1) := by grind
  have h5 : 0 ≤ r * r := Int.mul_nonneg h2 h2
  rw [lz_le] at hx ⊢
  rw [h4, Nat.pow_succ]
  have hp : 1 ≤ 4294967296 ^ L := Nat.one_le_pow _ _ (by omega)
  generalize 4294967296 ^ L = p at *
  generalize r * r = s at *
  omega
theorem above_le {x r n one ab s : Int} (hr : IsRootZ x r) (hn : n = r + one) (h1 : one = 1) (hab : ab = n * n) (hs : s = x * x) (hx : 2047 < lz x) : ab.natAbs ≤ s.natAbs := by
  have h2 := rootZ_le hr
  have h3 := hr.1
  have hx2 : 2 ≤ x := Classical.byContradiction fun h => by
    have : lz x ≤ 2 := lz_small (by omega)
    omega
  have h4 : n ≤ x := by
    rw [hn, h1]
    by_cases h5 : r ≤ 1
    · omega
    · have h6 := Int.mul_le_mul_of_nonneg_left (show 2 ≤ r by omega) h3
      have h7 := hr.2.1
      omega
  have h8 : 0 ≤ n := by omega
  have h9 : n * n ≤ x * x := Int.mul_le_mul h4 h4 h8 (by omega)
  have h10 := Int.mul_nonneg h8 h8
  rw [hab, hs]; omega
theorem square_long {x : Int} (h : ¬ Fit (x * x)) : 1024 < lz x := by
  have h1 := lz_mul x x
  have h2 : ¬ lz (x * x) ≤ 2048 := h
  omega
theorem square_root {x : Int} (h : 0 ≤ x) : IsRootZ (x * x) x := ⟨h, Int.le_refl _, by
  have : (x + 1) * (x + 1) = x * x + (2 * x + 1) := by grind
  omega⟩

theorem squares_neg (x : Int) (A : Option Addr) (c : Nat) (hx : Fit x) (hn : x < 0) (w : World) (h : Raw w A c (natL x.natAbs)) (htab : powTab w) :
    Calls Tryd.prog 3 #[.agg #[.bool (decide (x < 0)), .slice A (natL x.natAbs).length c]] w fun e w' => e = .returned (.bool true) ∧ Below w.heap.size w w' := by
  have HNG := Hd (show decide (x < 0) = true from decide_eq_true hn)
  clear hn
  have p0 := Pair.new w 24 (.bool (decide (x < 0))) (.slice A (natL x.natAbs).length c)
  have b0 := ((Below.refl w.heap.size w).alloc (Nat.le_refl _) (.cells #[.bool (decide (x < 0)), .slice A (natL x.natAbs).length c] 24))
  have V_x := Hd (NV.of h b0 p0)
  have F_x := Hd hx
  have HT := Hd (htab.below b0)
  have HBW := Hd b0
  clear h htab p0 b0 hx
  go_enter Tryd.func3, Tryd.ntmps3
  obtain ⟨W, E⟩ : ∃ W, W = (w.alloc (.cells #[.bool (decide (x < 0)), .slice A (natL x.natAbs).length c] 24)) := ⟨_, rfl⟩
  go_upto_region 1 with fail
  rw [← E] at V_x HT HBW ⊢
  clear E
  go_wp2_with fail
  refine (alive_true W HT.out).mono ?_
  rintro e x1 ⟨rfl, hb⟩
  have V_x := Hd (V_x.out.below hb)
  have HT := Hd (HT.out.below hb)
  have HBW := Hd (belowTo HBW.out hb)
  clear hb
  obtain ⟨l_x, a_x, b_x, -, -⟩ := V_x.out.pair.facts
  go_wp2_with fail
  refine (may1 x A c x1 V_x.out.raw 24 true (by simp [F_x.out])).mono ?_
  rintro e x2 ⟨rfl, hb⟩
  clear l_x a_x b_x
  have V_x := Hd (V_x.out.below hb)
  have HT := Hd (HT.out.below hb)
  have HBW := Hd (belowTo HBW.out hb)
  clear hb
  have hng := HNG.out
  obtain ⟨l_x, a_x, b_x, -, -⟩ := V_x.out.pair.facts
  go_upto_region 2 with fail
  clear hng
  clear l_x a_x b_x
  go_wp2_with fail
  refine (alive_true x2 HT.out).mono ?_
  rintro e x3 ⟨rfl, hb⟩
  have V_x := Hd (V_x.out.below hb)
  have HT := Hd (HT.out.below hb)
  have HBW := Hd (belowTo HBW.out hb)
  clear hb
  go_wp2_with fail
  go_ret
  exact ⟨rfl, HBW.out⟩

theorem squares_same (x r : Int) (A : Option Addr) (c : Nat) (hx : Fit x) (h0 : 0 ≤ x) (hr : IsRootZ x r) (hq : true = decide (r * r = x)) (w : World) (h : Raw w A c (natL x.natAbs)) (htab : powTab w) :
    Calls Tryd.prog 3 #[.agg #[.bool (decide (x < 0)), .slice A (natL x.natAbs).length c]] w fun e w' => e = .returned (.bool true) ∧ Below w.heap.size w w' := by
  have hfx : Fit x := hx
  obtain ⟨p, hp⟩ : ∃ z : Int, z = r * r := ⟨_, rfl⟩
  obtain ⟨one, hone⟩ : ∃ z : Int, z = 1 := ⟨_, rfl⟩
  obtain ⟨n, hn⟩ : ∃ z : Int, z = r + 1 := ⟨_, rfl⟩
  obtain ⟨ab, hab⟩ : ∃ z : Int, z = n * n := ⟨_, rfl⟩
  obtain ⟨s, hs⟩ : ∃ z : Int, z = x * x := ⟨_, rfl⟩
  obtain ⟨n0, hn0⟩ : ∃ z : Int, z = 0 := ⟨_, rfl⟩
  have hrx := rootZ_le hr
  have F_r := Hd (show Fit r from hfx.mono (by have := hr.1; omega))
  have F_p := Hd (show Fit p from hfx.mono (by have h1 := hr.2.1; have h2 := Int.mul_nonneg hr.1 hr.1; rw [hp]; omega))
  have F_one := Hd (show Fit one from Fit.small (by rw [hone]; decide))
  have F_n := Hd (show Fit n from by
    by_cases hx0 : 0 < x
    · by_cases h1 : 1 < x
      · have h2 : r + 1 ≤ x := by
          by_cases h3 : r ≤ 1
          · omega
          · have h4 := Int.mul_le_mul_of_nonneg_left (show 2 ≤ r by omega) hr.1
            have h5 := hr.2.1
            omega
        exact hfx.mono (by have := hr.1; omega)
      · exact Fit.small (by have := hr.1; omega)
    · exact Fit.small (by have := hr.1; omega))
  have HP := Hd hp
  have HN := Hd (show n = r + one from by rw [hn, hone])
  have H1 := Hd hone
  have HAB := Hd hab
  have HSS := Hd hs
  have HN0 := Hd hn0
  have HR := Hd hr
  have HSQ := Hd (show true = decide (r * r = x) from hq)
  have HNG := Hd (show decide (x < 0) = false ∧ decide (r < 0) = false from ⟨decide_eq_false (by omega), decide_eq_false (by have := hr.1; omega)⟩)
  have HK := Hd (show (0 : Int) = cmpz p x from by rw [hp]; have := of_decide_eq_true hq.symm; rw [this]; unfold cmpz; simp)
  have HK2 := Hd (show (1 : Int) = cmpz ab x from (cmpz_gt (by rw [hab, hn]; exact hr.2.2)).symm)
  have HX0 := Hd h0
  have HABL := Hd (show ¬ Fit ab → 2047 < lz x from fun h => Classical.byContradiction fun hl => h (by rw [hab, hn]; exact above_fit hr (show lz x ≤ 2047 by omega)))
  have HSL := Hd (show ¬ Fit s → 1024 < lz x from fun h => square_long (hs ▸ h))
  have HSR := Hd (show IsRootZ s x ∧ 0 ≤ s from by rw [hs]; exact ⟨square_root h0, Int.mul_nonneg h0 h0⟩)
  clear hp hone hn hab hs hn0 hrx hfx hr hq h0
  have p0 := Pair.new w 24 (.bool (decide (x < 0))) (.slice A (natL x.natAbs).length c)
  have b0 := ((Below.refl w.heap.size w).alloc (Nat.le_refl _) (.cells #[.bool (decide (x < 0)), .slice A (natL x.natAbs).length c] 24))
  have V_x := Hd (NV.of h b0 p0)
  have F_x := Hd hx
  have HT := Hd (htab.below b0)
  have HBW := Hd b0
  clear h htab p0 b0 hx
  go_enter Tryd.func3, Tryd.ntmps3
  obtain ⟨W, E⟩ : ∃ W, W = (w.alloc (.cells #[.bool (decide (x < 0)), .slice A (natL x.natAbs).length c] 24)) := ⟨_, rfl⟩
  go_upto_region 1 with fail
  rw [← E] at V_x HT HBW ⊢
  clear E
  go_wp2_with fail
  refine (alive_true W HT.out).mono ?_
  rintro e x1 ⟨rfl, hb⟩
  have V_x := Hd (V_x.out.below hb)
  have HT := Hd (HT.out.below hb)
  have HBW := Hd (belowTo HBW.out hb)
  clear hb
  obtain ⟨l_x, a_x, b_x, -, -⟩ := V_x.out.pair.facts
  go_wp2_with fail
  refine (may1 x A c x1 V_x.out.raw 24 true (by simp [F_x.out])).mono ?_
  rintro e x2 ⟨rfl, hb⟩
  clear l_x a_x b_x
  have V_x := Hd (V_x.out.below hb)
  have HT := Hd (HT.out.below hb)
  have HBW := Hd (belowTo HBW.out hb)
  clear hb
  have hng := HNG.out.1
  obtain ⟨l_x, a_x, b_x, -, -⟩ := V_x.out.pair.facts
  go_upto_region 3 with fail
  clear hng
  clear l_x a_x b_x
  obtain ⟨l_x, a_x, b_x, -, -⟩ := V_x.out.pair.facts
  go_wp2_with fail
  refine (whole_Root_ok x r true A c F_x.out x2 V_x.out.raw HX0.out HR.out HSQ.out).mono ?_
  rintro e x3 ⟨v, rfl, hI, hb⟩
  obtain ⟨A1, c1, rfl, r1⟩ := hI.raw
  clear hI
  clear l_x a_x b_x
  have V_x := Hd (V_x.out.below hb)
  have HT := Hd (HT.out.below hb)
  have HBW := Hd (belowTo HBW.out hb)
  have R_r := Hd r1
  clear hb r1
  go_upto_region 4 with fail
  have ha := ((Below.refl x3.heap.size x3).alloc (Nat.le_refl _) (.cells #[.bool (decide (r < 0)), .slice A1 (natL r.natAbs).length c1] 24))
  have p_r := (Pair.new x3 24 (.bool (decide (r < 0))) (.slice A1 (natL r.natAbs).length c1))
  obtain ⟨y4, E⟩ : ∃ W, W = (x3.alloc (.cells #[.bool (decide (r < 0)), .slice A1 (natL r.natAbs).length c1] 24)) := ⟨_, rfl⟩
  rw [← E] at ha p_r ⊢
  have V_r := Hd (NV.of R_r.out ha p_r)
  have V_x := Hd (V_x.out.below ha)
  have HT := Hd (HT.out.below ha)
  have HBW := Hd (belowTo HBW.out ha)
  obtain ⟨g4, hg⟩ : ∃ g, g = x3.heap.size := ⟨_, rfl⟩
  rw [← hg] at V_r ⊢
  clear E ha hg p_r
  obtain ⟨l_r, a_r, b_r, -, -⟩ := V_r.out.pair.facts
  go_wp2_with fail
  refine (may1 r A1 c1 y4 V_r.out.raw 24 true (by simp [F_r.out])).mono ?_
  rintro e x5 ⟨rfl, hb⟩
  clear l_r a_r b_r
  have V_x := Hd (V_x.out.below hb)
  have V_r := Hd (V_r.out.below hb)
  have HT := Hd (HT.out.below hb)
  have HBW := Hd (belowTo HBW.out hb)
  clear hb
  have hng := HNG.out.2
  obtain ⟨l_r, a_r, b_r, -, -⟩ := V_r.out.pair.facts
  go_upto_region 6 with fail
  clear hng
  clear l_r a_r b_r
  obtain ⟨l_r, a_r, b_r, -, -⟩ := V_r.out.pair.facts
  go_wp2_with fail
  refine (mul_z r r p A1 A1 c1 c1 F_r.out F_r.out x5 V_r.out.raw V_r.out.raw HP.out F_p.out).mono ?_
  rintro e x6 ⟨A2, c2, rfl, r2, hb⟩
  clear l_r a_r b_r
  have V_x := Hd (V_x.out.below hb)
  have V_r := Hd (V_r.out.below hb)
  have HT := Hd (HT.out.below hb)
  have HBW := Hd (belowTo HBW.out hb)
  have R_p := Hd r2
  clear hb r2
  go_upto_region 7 with fail
  have ha := ((Below.refl x6.heap.size x6).alloc (Nat.le_refl _) (.cells #[.bool (decide (p < 0)), .slice A2 (natL p.natAbs).length c2] 24))
  have p_p := (Pair.new x6 24 (.bool (decide (p < 0))) (.slice A2 (natL p.natAbs).length c2))
  obtain ⟨y7, E⟩ : ∃ W, W = (x6.alloc (.cells #[.bool (decide (p < 0)), .slice A2 (natL p.natAbs).length c2] 24)) := ⟨_, rfl⟩
  rw [← E] at ha p_p ⊢
  have V_p := Hd (NV.of R_p.out ha p_p)
  have V_x := Hd (V_x.out.below ha)
  have V_r := Hd (V_r.out.below ha)
  have HT := Hd (HT.out.below ha)
  have HBW := Hd (belowTo HBW.out ha)
  obtain ⟨g7, hg⟩ : ∃ g, g = x6.heap.size := ⟨_, rfl⟩
  rw [← hg] at V_p ⊢
  clear E ha hg p_p
  go_wp2_with fail
  refine wp_region_free [.val (.agg #[.bool (decide (r < 0)), .slice A1 (natL r.natAbs).length c1]) [], .any false (fun u V => IntOwn V 0 u one) [], .any false (fun u V => IntE V 0 u n 0) [1], .any false (fun u V => IntE V 0 u n 0) [2], .any false (fun u V => IntOwn V 0 u n) [3], .val (.int .i64 0) [3], .new 24 2, .put 24 2 6 4 [], .val (.int .i64 0) []] y7.heap.size y7 [24] (fun _ _ => False) _ mixedOrders2 (Nat.le_refl _) (Below.refl _ _) (KeptV.refl _ _ _) rfl (by kernel_rfl) (by kernel_rfl) (by kernel_rfl) (by kernel_rfl) (by kernel_rfl) (by kernel_rfl) (by kernel_rfl) (by kernel_rfl) rfl (by simp [oldsF]) ?_ ?_ ?_ ?_
  · simp only [StableF, and_true]
    exact ⟨fun u V V' h k => h.kept k (by decide), fun u V V' h k => h.kept k (by decide), fun u V V' h k => h.kept k (by decide), fun u V V' h k => h.kept k (by decide)⟩
  · simp only [OldsF]
  · simp (maxSteps := 4000000) [StepsF, DepF, freeAct, fill, pairs]
    repeat' (first | apply And.intro | (intro (u : Value)) | (intro (u : Nat)))
    all_goals try exact ⟨_, _, _, rfl, rfl, rfl, rfl, intInfo⟩
    all_goals try exact allocInt rfl
    all_goals first
    | (intro V hV hK
       obtain ⟨-, a_r, b_r, -, -⟩ := (V_r.out.below hV).pair.facts
       clear hV hK
       go_simp
       first
       | exact Below.refl _ _
       | ((with_reducible refine (of_o 1 one H1.out (by decide) (by decide) V).mono ?_); rintro e w' ⟨v, rfl, hv, hb⟩; exact ⟨hv.base (Nat.zero_le _), hb⟩))
    | (intro V hV hK hu
       obtain ⟨A', c', rfl, hr⟩ := hu.raw
       have r2 := Hd hr
       have r1 := Hd (V_r.out.below hV).raw
       clear hV hK hu hr
       go_simp
       (with_reducible refine (add_o r one n A1 A' c1 c' F_r.out F_one.out V r1.out r2.out HN.out F_n.out).mono ?_)
       rintro e w' ⟨v, rfl, hv, hb⟩
       exact ⟨⟨_, rfl, hv.base (Nat.zero_le _)⟩, hb⟩)
    | (intro V hV hK hu
       obtain ⟨v, rfl, hv⟩ := hu.ex
       clear hV hK
       go_simp
       first
       | exact Below.refl _ _
       | exact ⟨hu, Below.refl _ _⟩
       | exact ⟨hv, Below.refl _ _⟩)
    | exact fun _ _ _ (h : IntOwn _ _ _ _) => h.cells
  · simp [EndF, FactsF, freeAct, fill, pairs]
    intro u1 u2 u3 u4 bn hbn V hV hK h1 h2 h3 h4 p1 _ _ _
    obtain ⟨A3, c3, rfl, r3⟩ := h4.raw
    have V_n := Hd (show NV V bn n A3 c3 from ⟨⟨p1⟩, r3⟩)
    have V_x := Hd (V_x.out.below hV)
    have V_r := Hd (V_r.out.below hV)
    have V_p := Hd (V_p.out.below hV)
    have HT := Hd (HT.out.below hV)
    have HBW := Hd (belowTo HBW.out hV)
    clear hV hK h1 h2 h3 h4 p1 r3 hbn
    obtain ⟨vn, hV0⟩ : ∃ Y, Y = V := ⟨_, rfl⟩
    rw [← hV0] at HBW HT V_x V_r V_p V_n ⊢
    clear hV0
    obtain ⟨l_p, a_p, b_p, -, -⟩ := V_p.out.pair.facts
    obtain ⟨l_x, a_x, b_x, -, -⟩ := V_x.out.pair.facts
    go_wp2_with fail
    refine (cmp_z p x A2 A c2 c F_p.out F_x.out vn V_p.out.raw V_x.out.raw (0) HK.out).mono ?_
    rintro e x8 ⟨rfl, hb⟩
    clear l_p a_p b_p l_x a_x b_x
    have V_x := Hd (V_x.out.below hb)
    have V_r := Hd (V_r.out.below hb)
    have V_p := Hd (V_p.out.below hb)
    have V_n := Hd (V_n.out.below hb)
    have HT := Hd (HT.out.below hb)
    have HBW := Hd (belowTo HBW.out hb)
    clear hb
    obtain ⟨l_p, a_p, b_p, -, -⟩ := V_p.out.pair.facts
    obtain ⟨l_x, a_x, b_x, -, -⟩ := V_x.out.pair.facts
    go_wp2_with fail
    refine (cmp_z p x A2 A c2 c F_p.out F_x.out x8 V_p.out.raw V_x.out.raw (0) HK.out).mono ?_
    rintro e x9 ⟨rfl, hb⟩
    clear l_p a_p b_p l_x a_x b_x
    have V_x := Hd (V_x.out.below hb)
    have V_r := Hd (V_r.out.below hb)
    have V_p := Hd (V_p.out.below hb)
    have V_n := Hd (V_n.out.below hb)
    have HT := Hd (HT.out.below hb)
    have HBW := Hd (belowTo HBW.out hb)
    clear hb
    go_upto_region 10 with fail
    by_cases hfa : Fit ab
    · skip
      have F_ab := Hd hfa
      clear hfa
      obtain ⟨l_n, a_n, b_n, -, -⟩ := V_n.out.pair.facts
      go_wp2_with fail
      refine (mul_z n n ab A3 A3 c3 c3 F_n.out F_n.out x9 V_n.out.raw V_n.out.raw HAB.out F_ab.out).mono ?_
      rintro e x10 ⟨A4, c4, rfl, r4, hb⟩
      clear l_n a_n b_n
      have V_x := Hd (V_x.out.below hb)
      have V_r := Hd (V_r.out.below hb)
      have V_p := Hd (V_p.out.below hb)
      have V_n := Hd (V_n.out.below hb)
      have HT := Hd (HT.out.below hb)
      have HBW := Hd (belowTo HBW.out hb)
      have R_ab := Hd r4
      clear hb r4
      go_upto_region 11 with fail
      have ha := ((Below.refl x10.heap.size x10).alloc (Nat.le_refl _) (.cells #[.bool (decide (ab < 0)), .slice A4 (natL ab.natAbs).length c4] 24))
      have p_ab := (Pair.new x10 24 (.bool (decide (ab < 0))) (.slice A4 (natL ab.natAbs).length c4))
      obtain ⟨y11, E⟩ : ∃ W, W = (x10.alloc (.cells #[.bool (decide (ab < 0)), .slice A4 (natL ab.natAbs).length c4] 24)) := ⟨_, rfl⟩
      rw [← E] at ha p_ab ⊢
      have V_ab := Hd (NV.of R_ab.out ha p_ab)
      have V_x := Hd (V_x.out.below ha)
      have V_r := Hd (V_r.out.below ha)
      have V_p := Hd (V_p.out.below ha)
      have V_n := Hd (V_n.out.below ha)
      have HT := Hd (HT.out.below ha)
      have HBW := Hd (belowTo HBW.out ha)
      obtain ⟨g11, hg⟩ : ∃ g, g = x10.heap.size := ⟨_, rfl⟩
      rw [← hg] at V_ab ⊢
      clear E ha hg p_ab
      obtain ⟨l_ab, a_ab, b_ab, -, -⟩ := V_ab.out.pair.facts
      obtain ⟨l_x, a_x, b_x, -, -⟩ := V_x.out.pair.facts
      go_wp2_with fail
      refine (cmp_z ab x A4 A c4 c F_ab.out F_x.out y11 V_ab.out.raw V_x.out.raw 1 HK2.out).mono ?_
      rintro e x12 ⟨rfl, hb⟩
      clear l_ab a_ab b_ab l_x a_x b_x
      have V_x := Hd (V_x.out.below hb)
      have V_r := Hd (V_r.out.below hb)
      have V_p := Hd (V_p.out.below hb)
      have V_n := Hd (V_n.out.below hb)
      have V_ab := Hd (V_ab.out.below hb)
      have HT := Hd (HT.out.below hb)
      have HBW := Hd (belowTo HBW.out hb)
      clear hb
      go_upto_region 13 with fail
      by_cases hfs : Fit s
      · skip
        have F_s := Hd hfs
        clear hfs
        obtain ⟨l_x, a_x, b_x, -, -⟩ := V_x.out.pair.facts
        go_wp2_with fail
        refine (mul_z x x s A A c c F_x.out F_x.out x12 V_x.out.raw V_x.out.raw HSS.out F_s.out).mono ?_
        rintro e x13 ⟨A5, c5, rfl, r5, hb⟩
        clear l_x a_x b_x
        have V_x := Hd (V_x.out.below hb)
        have V_r := Hd (V_r.out.below hb)
        have V_p := Hd (V_p.out.below hb)
        have V_n := Hd (V_n.out.below hb)
        have V_ab := Hd (V_ab.out.below hb)
        have HT := Hd (HT.out.below hb)
        have HBW := Hd (belowTo HBW.out hb)
        have R_s := Hd r5
        clear hb r5
        go_upto_region 14 with fail
        have ha := ((Below.refl x13.heap.size x13).alloc (Nat.le_refl _) (.cells #[.bool (decide (s < 0)), .slice A5 (natL s.natAbs).length c5] 24))
        have p_s := (Pair.new x13 24 (.bool (decide (s < 0))) (.slice A5 (natL s.natAbs).length c5))
        obtain ⟨y14, E⟩ : ∃ W, W = (x13.alloc (.cells #[.bool (decide (s < 0)), .slice A5 (natL s.natAbs).length c5] 24)) := ⟨_, rfl⟩
        rw [← E] at ha p_s ⊢
        have V_s := Hd (NV.of R_s.out ha p_s)
        have V_x := Hd (V_x.out.below ha)
        have V_r := Hd (V_r.out.below ha)
        have V_p := Hd (V_p.out.below ha)
        have V_n := Hd (V_n.out.below ha)
        have V_ab := Hd (V_ab.out.below ha)
        have HT := Hd (HT.out.below ha)
        have HBW := Hd (belowTo HBW.out ha)
        obtain ⟨g14, hg⟩ : ∃ g, g = x13.heap.size := ⟨_, rfl⟩
        rw [← hg] at V_s ⊢
        clear E ha hg p_s
        go_upto_region 16 with fail
        obtain ⟨l_s, a_s, b_s, -, -⟩ := V_s.out.pair.facts
        go_wp2_with fail
        refine (whole_Root_ok s x true A5 c5 F_s.out y14 V_s.out.raw HSR.out.2 HSR.out.1 (by rw [HSS.out]; simp)).mono ?_
        rintro e x15 ⟨v, rfl, hI, hb⟩
        obtain ⟨A6, c6, rfl, r6⟩ := hI.raw
        clear hI
        clear l_s a_s b_s
        have V_x := Hd (V_x.out.below hb)
        have V_r := Hd (V_r.out.below hb)
        have V_p := Hd (V_p.out.below hb)
        have V_n := Hd (V_n.out.below hb)
        have V_ab := Hd (V_ab.out.below hb)
        have V_s := Hd (V_s.out.below hb)
        have HT := Hd (HT.out.below hb)
        have HBW := Hd (belowTo HBW.out hb)
        have R_t := Hd r6
        clear hb r6
        go_upto_region 17 with fail
        have ha := ((Below.refl x15.heap.size x15).alloc (Nat.le_refl _) (.cells #[.bool (decide (x < 0)), .slice A6 (natL x.natAbs).length c6] 24))
        have p_t := (Pair.new x15 24 (.bool (decide (x < 0))) (.slice A6 (natL x.natAbs).length c6))
        obtain ⟨y16, E⟩ : ∃ W, W = (x15.alloc (.cells #[.bool (decide (x < 0)), .slice A6 (natL x.natAbs).length c6] 24)) := ⟨_, rfl⟩
        rw [← E] at ha p_t ⊢
        have V_t := Hd (NV.of R_t.out ha p_t)
        have V_x := Hd (V_x.out.below ha)
        have V_r := Hd (V_r.out.below ha)
        have V_p := Hd (V_p.out.below ha)
        have V_n := Hd (V_n.out.below ha)
        have V_ab := Hd (V_ab.out.below ha)
        have V_s := Hd (V_s.out.below ha)
        have HT := Hd (HT.out.below ha)
        have HBW := Hd (belowTo HBW.out ha)
        obtain ⟨g16, hg⟩ : ∃ g, g = x15.heap.size := ⟨_, rfl⟩
        rw [← hg] at V_t ⊢
        clear E ha hg p_t
        obtain ⟨l_t, a_t, b_t, -, -⟩ := V_t.out.pair.facts
        obtain ⟨l_x, a_x, b_x, -, -⟩ := V_x.out.pair.facts
        go_wp2_with fail
        refine (same_z x x A6 A c6 c y16 V_t.out.raw V_x.out.raw true (by simp)).mono ?_
        rintro e x17 ⟨rfl, hb⟩
        clear l_t a_t b_t l_x a_x b_x
        have V_x := Hd (V_x.out.below hb)
        have V_r := Hd (V_r.out.below hb)
        have V_p := Hd (V_p.out.below hb)
        have V_n := Hd (V_n.out.below hb)
        have V_ab := Hd (V_ab.out.below hb)
        have V_s := Hd (V_s.out.below hb)
        have V_t := Hd (V_t.out.below hb)
        have HT := Hd (HT.out.below hb)
        have HBW := Hd (belowTo HBW.out hb)
        clear hb
        go_wp2_with fail
        go_ret
        exact ⟨rfl, HBW.out⟩
      · skip
        have HSN := Hd hfs
        clear hfs
        obtain ⟨l_x, a_x, b_x, -, -⟩ := V_x.out.pair.facts
        go_wp2_with fail
        refine (mul_long_n x x n0 A A c c F_x.out F_x.out x12 V_x.out.raw V_x.out.raw (HSS.out ▸ HSN.out) HN0.out).mono ?_
        rintro e x13 ⟨A5, c5, rfl, r5, hb⟩
        clear l_x a_x b_x
        have V_x := Hd (V_x.out.below hb)
        have V_r := Hd (V_r.out.below hb)
        have V_p := Hd (V_p.out.below hb)
        have V_n := Hd (V_n.out.below hb)
        have V_ab := Hd (V_ab.out.below hb)
        have HT := Hd (HT.out.below hb)
        have HBW := Hd (belowTo HBW.out hb)
        have R_s := Hd r5
        clear hb r5
        go_upto_region 14 with fail
        have ha := ((Below.refl x13.heap.size x13).alloc (Nat.le_refl _) (.cells #[.bool (decide (n0 < 0)), .slice A5 (natL n0.natAbs).length c5] 24))
        have p_s := (Pair.new x13 24 (.bool (decide (n0 < 0))) (.slice A5 (natL n0.natAbs).length c5))
        obtain ⟨y14, E⟩ : ∃ W, W = (x13.alloc (.cells #[.bool (decide (n0 < 0)), .slice A5 (natL n0.natAbs).length c5] 24)) := ⟨_, rfl⟩
        rw [← E] at ha p_s ⊢
        have V_s := Hd (NV.of R_s.out ha p_s)
        have V_x := Hd (V_x.out.below ha)
        have V_r := Hd (V_r.out.below ha)
        have V_p := Hd (V_p.out.below ha)
        have V_n := Hd (V_n.out.below ha)
        have V_ab := Hd (V_ab.out.below ha)
        have HT := Hd (HT.out.below ha)
        have HBW := Hd (belowTo HBW.out ha)
        obtain ⟨g14, hg⟩ : ∃ g, g = x13.heap.size := ⟨_, rfl⟩
        rw [← hg] at V_s ⊢
        clear E ha hg p_s
        have hl3 : 1024 < (natL x.natAbs).length := HSL.out HSN.out
        have hl1 : decide (1024 < (natL x.natAbs).length) = true := decide_eq_true hl3
        have hl2 : decide ((1024 : Int) < ((natL x.natAbs).length : Int)) = true := decide_eq_true (by omega)
        obtain ⟨l_x, a_x, b_x, -, -⟩ := V_x.out.pair.facts
        go_wp2_with fail
        go_ret
        exact ⟨rfl, HBW.out⟩
    · skip
      have HFA := Hd hfa
      have hxl := HABL.out hfa
      have hsn : ¬ Fit s := fun h => hfa (h.mono (above_le HR.out HN.out H1.out HAB.out HSS.out hxl))
      have HSN := Hd hsn
      clear hfa hsn
      obtain ⟨l_n, a_n, b_n, -, -⟩ := V_n.out.pair.facts
      go_wp2_with fail
      refine (mul_long_n n n n0 A3 A3 c3 c3 F_n.out F_n.out x9 V_n.out.raw V_n.out.raw (HAB.out ▸ HFA.out) HN0.out).mono ?_
      rintro e x10 ⟨A4, c4, rfl, r4, hb⟩
      clear l_n a_n b_n
      have V_x := Hd (V_x.out.below hb)
      have V_r := Hd (V_r.out.below hb)
      have V_p := Hd (V_p.out.below hb)
      have V_n := Hd (V_n.out.below hb)
      have HT := Hd (HT.out.below hb)
      have HBW := Hd (belowTo HBW.out hb)
      have R_ab := Hd r4
      clear hb r4
      go_upto_region 11 with fail
      have ha := ((Below.refl x10.heap.size x10).alloc (Nat.le_refl _) (.cells #[.bool (decide (n0 < 0)), .slice A4 (natL n0.natAbs).length c4] 24))
      have p_ab := (Pair.new x10 24 (.bool (decide (n0 < 0))) (.slice A4 (natL n0.natAbs).length c4))
      obtain ⟨y11, E⟩ : ∃ W, W = (x10.alloc (.cells #[.bool (decide (n0 < 0)), .slice A4 (natL n0.natAbs).length c4] 24)) := ⟨_, rfl⟩
      rw [← E] at ha p_ab ⊢
      have V_ab := Hd (NV.of R_ab.out ha p_ab)
      have V_x := Hd (V_x.out.below ha)
      have V_r := Hd (V_r.out.below ha)
      have V_p := Hd (V_p.out.below ha)
      have V_n := Hd (V_n.out.below ha)
      have HT := Hd (HT.out.below ha)
      have HBW := Hd (belowTo HBW.out ha)
      obtain ⟨g11, hg⟩ : ∃ g, g = x10.heap.size := ⟨_, rfl⟩
      rw [← hg] at V_ab ⊢
      clear E ha hg p_ab
      have hl3 : ¬ (natL x.natAbs).length < 2048 := by have : lz x = (natL x.natAbs).length := rfl; omega
      have hl1 : decide ((natL x.natAbs).length < 2048) = false := decide_eq_false hl3
      have hl2 : decide (((natL x.natAbs).length : Int) < 2048) = false := decide_eq_false (by omega)
      obtain ⟨l_x, a_x, b_x, -, -⟩ := V_x.out.pair.facts
      go_upto_region 13 with fail
      clear hl1 hl2 hl3 hxl
      clear l_x a_x b_x
      obtain ⟨l_x, a_x, b_x, -, -⟩ := V_x.out.pair.facts
      go_wp2_with fail
      refine (mul_long_n x x n0 A A c c F_x.out F_x.out y11 V_x.out.raw V_x.out.raw (HSS.out ▸ HSN.out) HN0.out).mono ?_
      rintro e x12 ⟨A5, c5, rfl, r5, hb⟩
      clear l_x a_x b_x
      have V_x := Hd (V_x.out.below hb)
      have V_r := Hd (V_r.out.below hb)
      have V_p := Hd (V_p.out.below hb)
      have V_n := Hd (V_n.out.below hb)
      have V_ab := Hd (V_ab.out.below hb)
      have HT := Hd (HT.out.below hb)
      have HBW := Hd (belowTo HBW.out hb)
      have R_s := Hd r5
      clear hb r5
      go_upto_region 14 with fail
      have ha := ((Below.refl x12.heap.size x12).alloc (Nat.le_refl _) (.cells #[.bool (decide (n0 < 0)), .slice A5 (natL n0.natAbs).length c5] 24))
      have p_s := (Pair.new x12 24 (.bool (decide (n0 < 0))) (.slice A5 (natL n0.natAbs).length c5))
      obtain ⟨y13, E⟩ : ∃ W, W = (x12.alloc (.cells #[.bool (decide (n0 < 0)), .slice A5 (natL n0.natAbs).length c5] 24)) := ⟨_, rfl⟩
      rw [← E] at ha p_s ⊢
      have V_s := Hd (NV.of R_s.out ha p_s)
      have V_x := Hd (V_x.out.below ha)
      have V_r := Hd (V_r.out.below ha)
      have V_p := Hd (V_p.out.below ha)
      have V_n := Hd (V_n.out.below ha)
      have V_ab := Hd (V_ab.out.below ha)
      have HT := Hd (HT.out.below ha)
      have HBW := Hd (belowTo HBW.out ha)
      obtain ⟨g13, hg⟩ : ∃ g, g = x12.heap.size := ⟨_, rfl⟩
      rw [← hg] at V_s ⊢
      clear E ha hg p_s
      have hl3 : 1024 < (natL x.natAbs).length := HSL.out HSN.out
      have hl1 : decide (1024 < (natL x.natAbs).length) = true := decide_eq_true hl3
      have hl2 : decide ((1024 : Int) < ((natL x.natAbs).length : Int)) = true := decide_eq_true (by omega)
      obtain ⟨l_x, a_x, b_x, -, -⟩ := V_x.out.pair.facts
      go_wp2_with fail
      go_ret
      exact ⟨rfl, HBW.out⟩

theorem squares_less (x r : Int) (A : Option Addr) (c : Nat) (hx : Fit x) (h0 : 0 ≤ x) (hr : IsRootZ x r) (hq : false = decide (r * r = x)) (w : World) (h : Raw w A c (natL x.natAbs)) (htab : powTab w) :
    Calls Tryd.prog 3 #[.agg #[.bool (decide (x < 0)), .slice A (natL x.natAbs).length c]] w fun e w' => e = .returned (.bool true) ∧ Below w.heap.size w w' := by
  have hfx : Fit x := hx
  obtain ⟨p, hp⟩ : ∃ z : Int, z = r * r := ⟨_, rfl⟩
  obtain ⟨one, hone⟩ : ∃ z : Int, z = 1 := ⟨_, rfl⟩
  obtain ⟨n, hn⟩ : ∃ z : Int, z = r + 1 := ⟨_, rfl⟩
  obtain ⟨ab, hab⟩ : ∃ z : Int, z = n * n := ⟨_, rfl⟩
  obtain ⟨s, hs⟩ : ∃ z : Int, z = x * x := ⟨_, rfl⟩
  obtain ⟨n0, hn0⟩ : ∃ z : Int, z = 0 := ⟨_, rfl⟩
  have hrx := rootZ_le hr
  have F_r := Hd (show Fit r from hfx.mono (by have := hr.1; omega))
  have F_p := Hd (show Fit p from hfx.mono (by have h1 := hr.2.1; have h2 := Int.mul_nonneg hr.1 hr.1; rw [hp]; omega))
  have F_one := Hd (show Fit one from Fit.small (by rw [hone]; decide))
  have F_n := Hd (show Fit n from by
    by_cases hx0 : 0 < x
    · by_cases h1 : 1 < x
      · have h2 : r + 1 ≤ x := by
          by_cases h3 : r ≤ 1
          · omega
          · have h4 := Int.mul_le_mul_of_nonneg_left (show 2 ≤ r by omega) hr.1
            have h5 := hr.2.1
            omega
        exact hfx.mono (by have := hr.1; omega)
      · exact Fit.small (by have := hr.1; omega)
    · exact Fit.small (by have := hr.1; omega))
  have HP := Hd hp
  have HN := Hd (show n = r + one from by rw [hn, hone])
  have H1 := Hd hone
  have HAB := Hd hab
  have HSS := Hd hs
  have HN0 := Hd hn0
  have HR := Hd hr
  have HSQ := Hd (show false = decide (r * r = x) from hq)
  have HNG := Hd (show decide (x < 0) = false ∧ decide (r < 0) = false from ⟨decide_eq_false (by omega), decide_eq_false (by have := hr.1; omega)⟩)
  have HK := Hd (show (-1 : Int) = cmpz p x from by rw [hp]; have := of_decide_eq_false hq.symm; exact (cmpz_lt (by have := hr.2.1; omega)).symm)
  have HK2 := Hd (show (1 : Int) = cmpz ab x from (cmpz_gt (by rw [hab, hn]; exact hr.2.2)).symm)
  have HX0 := Hd h0
  have HABL := Hd (show ¬ Fit ab → 2047 < lz x from fun h => Classical.byContradiction fun hl => h (by rw [hab, hn]; exact above_fit hr (show lz x ≤ 2047 by omega)))
  have HSL := Hd (show ¬ Fit s → 1024 < lz x from fun h => square_long (hs ▸ h))
  have HSR := Hd (show IsRootZ s x ∧ 0 ≤ s from by rw [hs]; exact ⟨square_root h0, Int.mul_nonneg h0 h0⟩)
  clear hp hone hn hab hs hn0 hrx hfx hr hq h0
  have p0 := Pair.new w 24 (.bool (decide (x < 0))) (.slice A (natL x.natAbs).length c)
  have b0 := ((Below.refl w.heap.size w).alloc (Nat.le_refl _) (.cells #[.bool (decide (x < 0)), .slice A (natL x.natAbs).length c] 24))
  have V_x := Hd (NV.of h b0 p0)
  have F_x := Hd hx
  have HT := Hd (htab.below b0)
  have HBW := Hd b0
  clear h htab p0 b0 hx
  go_enter Tryd.func3, Tryd.ntmps3
  obtain ⟨W, E⟩ : ∃ W, W = (w.alloc (.cells #[.bool (decide (x < 0)), .slice A (natL x.natAbs).length c] 24)) := ⟨_, rfl⟩
  go_upto_region 1 with fail
  rw [← E] at V_x HT HBW ⊢
  clear E
  go_wp2_with fail
  refine (alive_true W HT.out).mono ?_
  rintro e x1 ⟨rfl, hb⟩
  have V_x := Hd (V_x.out.below hb)
  have HT := Hd (HT.out.below hb)
  have HBW := Hd (belowTo HBW.out hb)
  clear hb
  obtain ⟨l_x, a_x, b_x, -, -⟩ := V_x.out.pair.facts
  go_wp2_with fail
  refine (may1 x A c x1 V_x.out.raw 24 true (by simp [F_x.out])).mono ?_
  rintro e x2 ⟨rfl, hb⟩
  clear l_x a_x b_x
  have V_x := Hd (V_x.out.below hb)
  have HT := Hd (HT.out.below hb)
  have HBW := Hd (belowTo HBW.out hb)
  clear hb
  have hng := HNG.out.1
  obtain ⟨l_x, a_x, b_x, -, -⟩ := V_x.out.pair.facts
  go_upto_region 3 with fail
  clear hng
  clear l_x a_x b_x
  obtain ⟨l_x, a_x, b_x, -, -⟩ := V_x.out.pair.facts
  go_wp2_with fail
  refine (whole_Root_ok x r false A c F_x.out x2 V_x.out.raw HX0.out HR.out HSQ.out).mono ?_
  rintro e x3 ⟨v, rfl, hI, hb⟩
  obtain ⟨A1, c1, rfl, r1⟩ := hI.raw
  clear hI
  clear l_x a_x b_x
  have V_x := Hd (V_x.out.below hb)
  have HT := Hd (HT.out.below hb)
  have HBW := Hd (belowTo HBW.out hb)
  have R_r := Hd r1
  clear hb r1
  go_upto_region 4 with fail
  have ha := ((Below.refl x3.heap.size x3).alloc (Nat.le_refl _) (.cells #[.bool (decide (r < 0)), .slice A1 (natL r.natAbs).length c1] 24))
  have p_r := (Pair.new x3 24 (.bool (decide (r < 0))) (.slice A1 (natL r.natAbs).length c1))
  obtain ⟨y4, E⟩ : ∃ W, W = (x3.alloc (.cells #[.bool (decide (r < 0)), .slice A1 (natL r.natAbs).length c1] 24)) := ⟨_, rfl⟩
  rw [← E] at ha p_r ⊢
  have V_r := Hd (NV.of R_r.out ha p_r)
  have V_x := Hd (V_x.out.below ha)
  have HT := Hd (HT.out.below ha)
  have HBW := Hd (belowTo HBW.out ha)
  obtain ⟨g4, hg⟩ : ∃ g, g = x3.heap.size := ⟨_, rfl⟩
  rw [← hg] at V_r ⊢
  clear E ha hg p_r
  obtain ⟨l_r, a_r, b_r, -, -⟩ := V_r.out.pair.facts
  go_wp2_with fail
  refine (may1 r A1 c1 y4 V_r.out.raw 24 true (by simp [F_r.out])).mono ?_
  rintro e x5 ⟨rfl, hb⟩
  clear l_r a_r b_r
  have V_x := Hd (V_x.out.below hb)
  have V_r := Hd (V_r.out.below hb)
  have HT := Hd (HT.out.below hb)
  have HBW := Hd (belowTo HBW.out hb)
  clear hb
  have hng := HNG.out.2
  obtain ⟨l_r, a_r, b_r, -, -⟩ := V_r.out.pair.facts
  go_upto_region 6 with fail
  clear hng
  clear l_r a_r b_r
  obtain ⟨l_r, a_r, b_r, -, -⟩ := V_r.out.pair.facts
  go_wp2_with fail
  refine (mul_z r r p A1 A1 c1 c1 F_r.out F_r.out x5 V_r.out.raw V_r.out.raw HP.out F_p.out).mono ?_
  rintro e x6 ⟨A2, c2, rfl, r2, hb⟩
  clear l_r a_r b_r
  have V_x := Hd (V_x.out.below hb)
  have V_r := Hd (V_r.out.below hb)
  have HT := Hd (HT.out.below hb)
  have HBW := Hd (belowTo HBW.out hb)
  have R_p := Hd r2
  clear hb r2
  go_upto_region 7 with fail
  have ha := ((Below.refl x6.heap.size x6).alloc (Nat.le_refl _) (.cells #[.bool (decide (p < 0)), .slice A2 (natL p.natAbs).length c2] 24))
  have p_p := (Pair.new x6 24 (.bool (decide (p < 0))) (.slice A2 (natL p.natAbs).length c2))
  obtain ⟨y7, E⟩ : ∃ W, W = (x6.alloc (.cells #[.bool (decide (p < 0)), .slice A2 (natL p.natAbs).length c2] 24)) := ⟨_, rfl⟩
  rw [← E] at ha p_p ⊢
  have V_p := Hd (NV.of R_p.out ha p_p)
  have V_x := Hd (V_x.out.below ha)
  have V_r := Hd (V_r.out.below ha)
  have HT := Hd (HT.out.below ha)
  have HBW := Hd (belowTo HBW.out ha)
  obtain ⟨g7, hg⟩ : ∃ g, g = x6.heap.size := ⟨_, rfl⟩
  rw [← hg] at V_p ⊢
  clear E ha hg p_p
  go_wp2_with fail
  refine wp_region_free [.val (.agg #[.bool (decide (r < 0)), .slice A1 (natL r.natAbs).length c1]) [], .any false (fun u V => IntOwn V 0 u one) [], .any false (fun u V => IntE V 0 u n 0) [1], .any false (fun u V => IntE V 0 u n 0) [2], .any false (fun u V => IntOwn V 0 u n) [3], .val (.int .i64 0) [3], .new 24 2, .put 24 2 6 4 [], .val (.int .i64 0) []] y7.heap.size y7 [24] (fun _ _ => False) _ mixedOrders2 (Nat.le_refl _) (Below.refl _ _) (KeptV.refl _ _ _) rfl (by kernel_rfl) (by kernel_rfl) (by kernel_rfl) (by kernel_rfl) (by kernel_rfl) (by kernel_rfl) (by kernel_rfl) (by kernel_rfl) rfl (by simp [oldsF]) ?_ ?_ ?_ ?_
  · simp only [StableF, and_true]
    exact ⟨fun u V V' h k => h.kept k (by decide), fun u V V' h k => h.kept k (by decide), fun u V V' h k => h.kept k (by decide), fun u V V' h k => h.kept k (by decide)⟩
  · simp only [OldsF]
  · simp (maxSteps := 4000000) [StepsF, DepF, freeAct, fill, pairs]
    repeat' (first | apply And.intro | (intro (u : Value)) | (intro (u : Nat)))
    all_goals try exact ⟨_, _, _, rfl, rfl, rfl, rfl, intInfo⟩
    all_goals try exact allocInt rfl
    all_goals first
    | (intro V hV hK
       obtain ⟨-, a_r, b_r, -, -⟩ := (V_r.out.below hV).pair.facts
       clear hV hK
       go_simp
       first
       | exact Below.refl _ _
       | ((with_reducible refine (of_o 1 one H1.out (by decide) (by decide) V).mono ?_); rintro e w' ⟨v, rfl, hv, hb⟩; exact ⟨hv.base (Nat.zero_le _), hb⟩))
    | (intro V hV hK hu
       obtain ⟨A', c', rfl, hr⟩ := hu.raw
       have r2 := Hd hr
       have r1 := Hd (V_r.out.below hV).raw
       clear hV hK hu hr
       go_simp
       (with_reducible refine (add_o r one n A1 A' c1 c' F_r.out F_one.out V r1.out r2.out HN.out F_n.out).mono ?_)
       rintro e w' ⟨v, rfl, hv, hb⟩
       exact ⟨⟨_, rfl, hv.base (Nat.zero_le _)⟩, hb⟩)
    | (intro V hV hK hu
       obtain ⟨v, rfl, hv⟩ := hu.ex
       clear hV hK
       go_simp
       first
       | exact Below.refl _ _
       | exact ⟨hu, Below.refl _ _⟩
       | exact ⟨hv, Below.refl _ _⟩)
    | exact fun _ _ _ (h : IntOwn _ _ _ _) => h.cells
  · simp [EndF, FactsF, freeAct, fill, pairs]
    intro u1 u2 u3 u4 bn hbn V hV hK h1 h2 h3 h4 p1 _ _ _
    obtain ⟨A3, c3, rfl, r3⟩ := h4.raw
    have V_n := Hd (show NV V bn n A3 c3 from ⟨⟨p1⟩, r3⟩)
    have V_x := Hd (V_x.out.below hV)
    have V_r := Hd (V_r.out.below hV)
    have V_p := Hd (V_p.out.below hV)
    have HT := Hd (HT.out.below hV)
    have HBW := Hd (belowTo HBW.out hV)
    clear hV hK h1 h2 h3 h4 p1 r3 hbn
    obtain ⟨vn, hV0⟩ : ∃ Y, Y = V := ⟨_, rfl⟩
    rw [← hV0] at HBW HT V_x V_r V_p V_n ⊢
    clear hV0
    obtain ⟨l_p, a_p, b_p, -, -⟩ := V_p.out.pair.facts
    obtain ⟨l_x, a_x, b_x, -, -⟩ := V_x.out.pair.facts
    go_wp2_with fail
    refine (cmp_z p x A2 A c2 c F_p.out F_x.out vn V_p.out.raw V_x.out.raw (-1) HK.out).mono ?_
    rintro e x8 ⟨rfl, hb⟩
    clear l_p a_p b_p l_x a_x b_x
    have V_x := Hd (V_x.out.below hb)
    have V_r := Hd (V_r.out.below hb)
    have V_p := Hd (V_p.out.below hb)
    have V_n := Hd (V_n.out.below hb)
    have HT := Hd (HT.out.below hb)
    have HBW := Hd (belowTo HBW.out hb)
    clear hb
    obtain ⟨l_p, a_p, b_p, -, -⟩ := V_p.out.pair.facts
    obtain ⟨l_x, a_x, b_x, -, -⟩ := V_x.out.pair.facts
    go_wp2_with fail
    refine (cmp_z p x A2 A c2 c F_p.out F_x.out x8 V_p.out.raw V_x.out.raw (-1) HK.out).mono ?_
    rintro e x9 ⟨rfl, hb⟩
    clear l_p a_p b_p l_x a_x b_x
    have V_x := Hd (V_x.out.below hb)
    have V_r := Hd (V_r.out.below hb)
    have V_p := Hd (V_p.out.below hb)
    have V_n := Hd (V_n.out.below hb)
    have HT := Hd (HT.out.below hb)
    have HBW := Hd (belowTo HBW.out hb)
    clear hb
    go_upto_region 10 with fail
    by_cases hfa : Fit ab
    · skip
      have F_ab := Hd hfa
      clear hfa
      obtain ⟨l_n, a_n, b_n, -, -⟩ := V_n.out.pair.facts
      go_wp2_with fail
      refine (mul_z n n ab A3 A3 c3 c3 F_n.out F_n.out x9 V_n.out.raw V_n.out.raw HAB.out F_ab.out).mono ?_
      rintro e x10 ⟨A4, c4, rfl, r4, hb⟩
      clear l_n a_n b_n
      have V_x := Hd (V_x.out.below hb)
      have V_r := Hd (V_r.out.below hb)
      have V_p := Hd (V_p.out.below hb)
      have V_n := Hd (V_n.out.below hb)
      have HT := Hd (HT.out.below hb)
      have HBW := Hd (belowTo HBW.out hb)
      have R_ab := Hd r4
      clear hb r4
      go_upto_region 11 with fail
      have ha := ((Below.refl x10.heap.size x10).alloc (Nat.le_refl _) (.cells #[.bool (decide (ab < 0)), .slice A4 (natL ab.natAbs).length c4] 24))
      have p_ab := (Pair.new x10 24 (.bool (decide (ab < 0))) (.slice A4 (natL ab.natAbs).length c4))
      obtain ⟨y11, E⟩ : ∃ W, W = (x10.alloc (.cells #[.bool (decide (ab < 0)), .slice A4 (natL ab.natAbs).length c4] 24)) := ⟨_, rfl⟩
      rw [← E] at ha p_ab ⊢
      have V_ab := Hd (NV.of R_ab.out ha p_ab)
      have V_x := Hd (V_x.out.below ha)
      have V_r := Hd (V_r.out.below ha)
      have V_p := Hd (V_p.out.below ha)
      have V_n := Hd (V_n.out.below ha)
      have HT := Hd (HT.out.below ha)
      have HBW := Hd (belowTo HBW.out ha)
      obtain ⟨g11, hg⟩ : ∃ g, g = x10.heap.size := ⟨_, rfl⟩
      rw [← hg] at V_ab ⊢
      clear E ha hg p_ab
      obtain ⟨l_ab, a_ab, b_ab, -, -⟩ := V_ab.out.pair.facts
      obtain ⟨l_x, a_x, b_x, -, -⟩ := V_x.out.pair.facts
      go_wp2_with fail
      refine (cmp_z ab x A4 A c4 c F_ab.out F_x.out y11 V_ab.out.raw V_x.out.raw 1 HK2.out).mono ?_
      rintro e x12 ⟨rfl, hb⟩
      clear l_ab a_ab b_ab l_x a_x b_x
      have V_x := Hd (V_x.out.below hb)
      have V_r := Hd (V_r.out.below hb)
      have V_p := Hd (V_p.out.below hb)
      have V_n := Hd (V_n.out.below hb)
      have V_ab := Hd (V_ab.out.below hb)
      have HT := Hd (HT.out.below hb)
      have HBW := Hd (belowTo HBW.out hb)
      clear hb
      go_upto_region 13 with fail
      by_cases hfs : Fit s
      · skip
        have F_s := Hd hfs
        clear hfs
        obtain ⟨l_x, a_x, b_x, -, -⟩ := V_x.out.pair.facts
        go_wp2_with fail
        refine (mul_z x x s A A c c F_x.out F_x.out x12 V_x.out.raw V_x.out.raw HSS.out F_s.out).mono ?_
        rintro e x13 ⟨A5, c5, rfl, r5, hb⟩
        clear l_x a_x b_x
        have V_x := Hd (V_x.out.below hb)
        have V_r := Hd (V_r.out.below hb)
        have V_p := Hd (V_p.out.below hb)
        have V_n := Hd (V_n.out.below hb)
        have V_ab := Hd (V_ab.out.below hb)
        have HT := Hd (HT.out.below hb)
        have HBW := Hd (belowTo HBW.out hb)
        have R_s := Hd r5
        clear hb r5
        go_upto_region 14 with fail
        have ha := ((Below.refl x13.heap.size x13).alloc (Nat.le_refl _) (.cells #[.bool (decide (s < 0)), .slice A5 (natL s.natAbs).length c5] 24))
        have p_s := (Pair.new x13 24 (.bool (decide (s < 0))) (.slice A5 (natL s.natAbs).length c5))
        obtain ⟨y14, E⟩ : ∃ W, W = (x13.alloc (.cells #[.bool (decide (s < 0)), .slice A5 (natL s.natAbs).length c5] 24)) := ⟨_, rfl⟩
        rw [← E] at ha p_s ⊢
        have V_s := Hd (NV.of R_s.out ha p_s)
        have V_x := Hd (V_x.out.below ha)
        have V_r := Hd (V_r.out.below ha)
        have V_p := Hd (V_p.out.below ha)
        have V_n := Hd (V_n.out.below ha)
        have V_ab := Hd (V_ab.out.below ha)
        have HT := Hd (HT.out.below ha)
        have HBW := Hd (belowTo HBW.out ha)
        obtain ⟨g14, hg⟩ : ∃ g, g = x13.heap.size := ⟨_, rfl⟩
        rw [← hg] at V_s ⊢
        clear E ha hg p_s
        go_upto_region 16 with fail
        obtain ⟨l_s, a_s, b_s, -, -⟩ := V_s.out.pair.facts
        go_wp2_with fail
        refine (whole_Root_ok s x true A5 c5 F_s.out y14 V_s.out.raw HSR.out.2 HSR.out.1 (by rw [HSS.out]; simp)).mono ?_
        rintro e x15 ⟨v, rfl, hI, hb⟩
        obtain ⟨A6, c6, rfl, r6⟩ := hI.raw
        clear hI
        clear l_s a_s b_s
        have V_x := Hd (V_x.out.below hb)
        have V_r := Hd (V_r.out.below hb)
        have V_p := Hd (V_p.out.below hb)
        have V_n := Hd (V_n.out.below hb)
        have V_ab := Hd (V_ab.out.below hb)
        have V_s := Hd (V_s.out.below hb)
        have HT := Hd (HT.out.below hb)
        have HBW := Hd (belowTo HBW.out hb)
        have R_t := Hd r6
        clear hb r6
        go_upto_region 17 with fail
        have ha := ((Below.refl x15.heap.size x15).alloc (Nat.le_refl _) (.cells #[.bool (decide (x < 0)), .slice A6 (natL x.natAbs).length c6] 24))
        have p_t := (Pair.new x15 24 (.bool (decide (x < 0))) (.slice A6 (natL x.natAbs).length c6))
        obtain ⟨y16, E⟩ : ∃ W, W = (x15.alloc (.cells #[.bool (decide (x < 0)), .slice A6 (natL x.natAbs).length c6] 24)) := ⟨_, rfl⟩
        rw [← E] at ha p_t ⊢
        have V_t := Hd (NV.of R_t.out ha p_t)
        have V_x := Hd (V_x.out.below ha)
        have V_r := Hd (V_r.out.below ha)
        have V_p := Hd (V_p.out.below ha)
        have V_n := Hd (V_n.out.below ha)
        have V_ab := Hd (V_ab.out.below ha)
        have V_s := Hd (V_s.out.below ha)
        have HT := Hd (HT.out.below ha)
        have HBW := Hd (belowTo HBW.out ha)
        obtain ⟨g16, hg⟩ : ∃ g, g = x15.heap.size := ⟨_, rfl⟩
        rw [← hg] at V_t ⊢
        clear E ha hg p_t
        obtain ⟨l_t, a_t, b_t, -, -⟩ := V_t.out.pair.facts
        obtain ⟨l_x, a_x, b_x, -, -⟩ := V_x.out.pair.facts
        go_wp2_with fail
        refine (same_z x x A6 A c6 c y16 V_t.out.raw V_x.out.raw true (by simp)).mono ?_
        rintro e x17 ⟨rfl, hb⟩
        clear l_t a_t b_t l_x a_x b_x
        have V_x := Hd (V_x.out.below hb)
        have V_r := Hd (V_r.out.below hb)
        have V_p := Hd (V_p.out.below hb)
        have V_n := Hd (V_n.out.below hb)
        have V_ab := Hd (V_ab.out.below hb)
        have V_s := Hd (V_s.out.below hb)
        have V_t := Hd (V_t.out.below hb)
        have HT := Hd (HT.out.below hb)
        have HBW := Hd (belowTo HBW.out hb)
        clear hb
        go_wp2_with fail
        go_ret
        exact ⟨rfl, HBW.out⟩
      · skip
        have HSN := Hd hfs
        clear hfs
        obtain ⟨l_x, a_x, b_x, -, -⟩ := V_x.out.pair.facts
        go_wp2_with fail
        refine (mul_long_n x x n0 A A c c F_x.out F_x.out x12 V_x.out.raw V_x.out.raw (HSS.out ▸ HSN.out) HN0.out).mono ?_
        rintro e x13 ⟨A5, c5, rfl, r5, hb⟩
        clear l_x a_x b_x
        have V_x := Hd (V_x.out.below hb)
        have V_r := Hd (V_r.out.below hb)
        have V_p := Hd (V_p.out.below hb)
        have V_n := Hd (V_n.out.below hb)
        have V_ab := Hd (V_ab.out.below hb)
        have HT := Hd (HT.out.below hb)
        have HBW := Hd (belowTo HBW.out hb)
        have R_s := Hd r5
        clear hb r5
        go_upto_region 14 with fail
        have ha := ((Below.refl x13.heap.size x13).alloc (Nat.le_refl _) (.cells #[.bool (decide (n0 < 0)), .slice A5 (natL n0.natAbs).length c5] 24))
        have p_s := (Pair.new x13 24 (.bool (decide (n0 < 0))) (.slice A5 (natL n0.natAbs).length c5))
        obtain ⟨y14, E⟩ : ∃ W, W = (x13.alloc (.cells #[.bool (decide (n0 < 0)), .slice A5 (natL n0.natAbs).length c5] 24)) := ⟨_, rfl⟩
        rw [← E] at ha p_s ⊢
        have V_s := Hd (NV.of R_s.out ha p_s)
        have V_x := Hd (V_x.out.below ha)
        have V_r := Hd (V_r.out.below ha)
        have V_p := Hd (V_p.out.below ha)
        have V_n := Hd (V_n.out.below ha)
        have V_ab := Hd (V_ab.out.below ha)
        have HT := Hd (HT.out.below ha)
        have HBW := Hd (belowTo HBW.out ha)
        obtain ⟨g14, hg⟩ : ∃ g, g = x13.heap.size := ⟨_, rfl⟩
        rw [← hg] at V_s ⊢
        clear E ha hg p_s
        have hl3 : 1024 < (natL x.natAbs).length := HSL.out HSN.out
        have hl1 : decide (1024 < (natL x.natAbs).length) = true := decide_eq_true hl3
        have hl2 : decide ((1024 : Int) < ((natL x.natAbs).length : Int)) = true := decide_eq_true (by omega)
        obtain ⟨l_x, a_x, b_x, -, -⟩ := V_x.out.pair.facts
        go_wp2_with fail
        go_ret
        exact ⟨rfl, HBW.out⟩
    · skip
      have HFA := Hd hfa
      have hxl := HABL.out hfa
      have hsn : ¬ Fit s := fun h => hfa (h.mono (above_le HR.out HN.out H1.out HAB.out HSS.out hxl))
      have HSN := Hd hsn
      clear hfa hsn
      obtain ⟨l_n, a_n, b_n, -, -⟩ := V_n.out.pair.facts
      go_wp2_with fail
      refine (mul_long_n n n n0 A3 A3 c3 c3 F_n.out F_n.out x9 V_n.out.raw V_n.out.raw (HAB.out ▸ HFA.out) HN0.out).mono ?_
      rintro e x10 ⟨A4, c4, rfl, r4, hb⟩
      clear l_n a_n b_n
      have V_x := Hd (V_x.out.below hb)
      have V_r := Hd (V_r.out.below hb)
      have V_p := Hd (V_p.out.below hb)
      have V_n := Hd (V_n.out.below hb)
      have HT := Hd (HT.out.below hb)
      have HBW := Hd (belowTo HBW.out hb)
      have R_ab := Hd r4
      clear hb r4
      go_upto_region 11 with fail
      have ha := ((Below.refl x10.heap.size x10).alloc (Nat.le_refl _) (.cells #[.bool (decide (n0 < 0)), .slice A4 (natL n0.natAbs).length c4] 24))
      have p_ab := (Pair.new x10 24 (.bool (decide (n0 < 0))) (.slice A4 (natL n0.natAbs).length c4))
      obtain ⟨y11, E⟩ : ∃ W, W = (x10.alloc (.cells #[.bool (decide (n0 < 0)), .slice A4 (natL n0.natAbs).length c4] 24)) := ⟨_, rfl⟩
      rw [← E] at ha p_ab ⊢
      have V_ab := Hd (NV.of R_ab.out ha p_ab)
      have V_x := Hd (V_x.out.below ha)
      have V_r := Hd (V_r.out.below ha)
      have V_p := Hd (V_p.out.below ha)
      have V_n := Hd (V_n.out.below ha)
      have HT := Hd (HT.out.below ha)
      have HBW := Hd (belowTo HBW.out ha)
      obtain ⟨g11, hg⟩ : ∃ g, g = x10.heap.size := ⟨_, rfl⟩
      rw [← hg] at V_ab ⊢
      clear E ha hg p_ab
      have hl3 : ¬ (natL x.natAbs).length < 2048 := by have : lz x = (natL x.natAbs).length := rfl; omega
      have hl1 : decide ((natL x.natAbs).length < 2048) = false := decide_eq_false hl3
      have hl2 : decide (((natL x.natAbs).length : Int) < 2048) = false := decide_eq_false (by omega)
      obtain ⟨l_x, a_x, b_x, -, -⟩ := V_x.out.pair.facts
      go_upto_region 13 with fail
      clear hl1 hl2 hl3 hxl
      clear l_x a_x b_x
      obtain ⟨l_x, a_x, b_x, -, -⟩ := V_x.out.pair.facts
      go_wp2_with fail
      refine (mul_long_n x x n0 A A c c F_x.out F_x.out y11 V_x.out.raw V_x.out.raw (HSS.out ▸ HSN.out) HN0.out).mono ?_
      rintro e x12 ⟨A5, c5, rfl, r5, hb⟩
      clear l_x a_x b_x
      have V_x := Hd (V_x.out.below hb)
      have V_r := Hd (V_r.out.below hb)
      have V_p := Hd (V_p.out.below hb)
      have V_n := Hd (V_n.out.below hb)
      have V_ab := Hd (V_ab.out.below hb)
      have HT := Hd (HT.out.below hb)
      have HBW := Hd (belowTo HBW.out hb)
      have R_s := Hd r5
      clear hb r5
      go_upto_region 14 with fail
      have ha := ((Below.refl x12.heap.size x12).alloc (Nat.le_refl _) (.cells #[.bool (decide (n0 < 0)), .slice A5 (natL n0.natAbs).length c5] 24))
      have p_s := (Pair.new x12 24 (.bool (decide (n0 < 0))) (.slice A5 (natL n0.natAbs).length c5))
      obtain ⟨y13, E⟩ : ∃ W, W = (x12.alloc (.cells #[.bool (decide (n0 < 0)), .slice A5 (natL n0.natAbs).length c5] 24)) := ⟨_, rfl⟩
      rw [← E] at ha p_s ⊢
      have V_s := Hd (NV.of R_s.out ha p_s)
      have V_x := Hd (V_x.out.below ha)
      have V_r := Hd (V_r.out.below ha)
      have V_p := Hd (V_p.out.below ha)
      have V_n := Hd (V_n.out.below ha)
      have V_ab := Hd (V_ab.out.below ha)
      have HT := Hd (HT.out.below ha)
      have HBW := Hd (belowTo HBW.out ha)
      obtain ⟨g13, hg⟩ : ∃ g, g = x12.heap.size := ⟨_, rfl⟩
      rw [← hg] at V_s ⊢
      clear E ha hg p_s
      have hl3 : 1024 < (natL x.natAbs).length := HSL.out HSN.out
      have hl1 : decide (1024 < (natL x.natAbs).length) = true := decide_eq_true hl3
      have hl2 : decide ((1024 : Int) < ((natL x.natAbs).length : Int)) = true := decide_eq_true (by omega)
      obtain ⟨l_x, a_x, b_x, -, -⟩ := V_x.out.pair.facts
      go_wp2_with fail
      go_ret
      exact ⟨rfl, HBW.out⟩

theorem squares_bad (n1 : Bool) (A : Option Addr) (c : Nat) (xs : List Nat) (o : (okI n1 xs) = false) (w : World) (h : Raw w A c xs) (htab : powTab w) :
    Calls Tryd.prog 3 #[.agg #[.bool n1, .slice A xs.length c]] w fun e w' => e = .returned (.bool true) ∧ Below w.heap.size w w' := by
  have p0 := Pair.new w 24 (.bool n1) (.slice A xs.length c)
  have r0 := (h.alloc (.cells #[.bool n1, .slice A xs.length c] 24))
  have b0 := ((Below.refl w.heap.size w).alloc (Nat.le_refl _) (.cells #[.bool n1, .slice A xs.length c] 24))
  have HT := Hd (htab.below b0)
  have HO := Hd o
  clear h htab o
  go_enter Tryd.func3, Tryd.ntmps3
  obtain ⟨W, E⟩ : ∃ W, W = (w.alloc (.cells #[.bool n1, .slice A xs.length c] 24)) := ⟨_, rfl⟩
  go_upto_region 1 with fail
  rw [← E] at p0 r0 b0 HT ⊢
  clear E
  have P0 := Hd p0
  have R0 := Hd r0
  have HB := Hd b0
  clear p0 r0 b0
  go_wp2_with fail
  refine (alive_true W HT.out).mono ?_
  rintro e x1 ⟨rfl, hb⟩
  have P0 := Hd (P0.out.below hb)
  have R0 := Hd (R0.out.below hb)
  have HT := Hd (HT.out.below hb)
  have HB := Hd (belowTo HB.out hb)
  clear hb
  obtain ⟨l0, a0, b0, -, -⟩ := P0.out.facts
  go_wp2_with fail
  refine (may_list [(n1, A, c, xs)] (by simp) x1 (by intro m hm; simp at hm; rcases hm with rfl; exact R0.out) 24 false (by have := HO.out; simp only [List.all_cons, List.all_nil, Bool.and_true, okNum]; exact this.symm)).mono ?_
  rintro e x2 ⟨rfl, hb⟩
  have HT := Hd (HT.out.below hb)
  have HB := Hd (belowTo HB.out hb)
  clear hb l0 a0 b0
  go_wp2_with fail
  refine (alive_true x2 HT.out).mono ?_
  rintro e x3 ⟨rfl, hb⟩
  have HF := Hd (belowTo HB.out hb)
  clear hb
  go_wp2_with fail
  go_ret
  exact ⟨rfl, HF.out⟩

theorem squares_true (n1 : Bool) (A : Option Addr) (c : Nat) (xs : List Nat) (w : World) (h : Raw w A c xs) (htab : powTab w) :
    Calls Tryd.prog 3 #[.agg #[.bool n1, .slice A xs.length c]] w fun e w' => e = .returned (.bool true) ∧ Below w.heap.size w w' := by
  by_cases o1 : okI n1 xs = true
  · obtain ⟨e1, e2, e3⟩ := ok_num h.limbs o1
    generalize ival n1 xs = x at *
    subst e1 e2
    rcases (by omega : x < 0 ∨ 0 ≤ x) with hn | hn
    · exact squares_neg x A c e3 hn w h htab
    · obtain ⟨r, hr⟩ := rootZ_ex hn
      by_cases hq : r * r = x
      · exact squares_same x r A c e3 hn hr (by simp [hq]) w h htab
      · exact squares_less x r A c e3 hn hr (by simp [hq]) w h htab
  · exact squares_bad n1 A c xs (by simpa using o1) w h htab
end Go.Proofs.YtkncbenhfcpgkaaDoor
