/- Several texts in one: Root, RootR, RefHalved. -/
import Derived.Test.YtpcdiijmhllejaaGreatDoorPk25
import Derived.Test.YtpcdiijmhllejaaGreatDoorPk26
import Derived.Test.YtpcdiijmhllejaaGreatDoorPk28
import Derived.Deep.LoopGhost
import Derived.Test.YtpcdiijmhllejaaGreatDoorPk23
import Derived.Test.YtpcdiijmhllejaaGreatDoorPk20
import Derived.Test.YtpcdiijmhllejaaGreatDoorPk24
/- Root of package exact: Newton's steps from above. (Written by wip/exact/genroot.py.) -/
namespace Go.Proofs.YtpcdiijmhllejaaGreatDoor
open Go.RowKit

/-- The greatest number whose square is not above x. -/
def IsRootZ (x r : Int) : Prop := 0 ≤ r ∧ r * r ≤ x ∧ x < (r + 1) * (r + 1)
theorem isRootZ {x r : Int} (hx : 0 ≤ x) : IsRootZ x r ↔ 0 ≤ r ∧ IsRoot x.toNat r.toNat := by
  unfold IsRootZ IsRoot
  constructor
  · rintro ⟨h0, h1, h2⟩
    obtain ⟨n, rfl⟩ := Int.eq_ofNat_of_zero_le h0
    obtain ⟨m, rfl⟩ := Int.eq_ofNat_of_zero_le hx
    refine ⟨h0, ?_, ?_⟩
    · simp only [Int.toNat_natCast]; exact_mod_cast h1
    · simp only [Int.toNat_natCast]; exact_mod_cast h2
  · rintro ⟨h0, h1, h2⟩
    obtain ⟨n, rfl⟩ := Int.eq_ofNat_of_zero_le h0
    obtain ⟨m, rfl⟩ := Int.eq_ofNat_of_zero_le hx
    simp only [Int.toNat_natCast] at h1 h2
    refine ⟨h0, ?_, ?_⟩
    · exact_mod_cast h1
    · exact_mod_cast h2
theorem rootZ_one {x r s : Int} (hx : 0 ≤ x) (h : IsRootZ x r) (g : IsRootZ x s) : r = s := by
  have h1 := ((isRootZ hx).1 h)
  have h2 := ((isRootZ hx).1 g)
  have := root_one h1.2 h2.2
  omega
/-- A step: from above, nearer, and above still; or it stands. -/
theorem root_stepZ {x r q n : Int} (hx : 0 < x) (hr : 0 < r) (hq : q = x.tdiv r) (hn : n = (r + q) / ((2 ^ (1 : Int).toNat : Nat) : Int)) :
    0 ≤ q ∧ 0 < n ∧ x < (n + 1) * (n + 1) ∧ (r ≤ n → r * r ≤ x) := by
  obtain ⟨a, rfl⟩ := Int.eq_ofNat_of_zero_le (Int.le_of_lt hx)
  obtain ⟨b, rfl⟩ := Int.eq_ofNat_of_zero_le (Int.le_of_lt hr)
  have e1 : q = ((a / b : Nat) : Int) := by rw [hq, Int.ofNat_tdiv]
  have e2 : n = (((b + a / b) / 2 : Nat) : Int) := by
    rw [hn, e1, show (1 : Int).toNat = 1 by rfl, Nat.pow_one]
    generalize a / b = t
    omega
  have hb : 0 < b := by omega
  have h1 := root_above (x := a) hb rfl
  have h2 := root_pos (x := a) (by omega) hb rfl
  refine ⟨by rw [e1]; exact Int.natCast_nonneg _, by omega, ?_, fun h => ?_⟩
  · rw [e2]; exact_mod_cast h1
  · have h3 := root_stop (x := a) (r := b) rfl (by omega)
    exact_mod_cast h3
theorem root_startZ {x : Int} (hx : 0 < x) {k : Nat} (hk : k = (bitsI (natL x.natAbs) + 1) / 2) : x < (((2 ^ k : Nat) : Int) + 1) * (((2 ^ k : Nat) : Int) + 1) := by
  obtain ⟨a, rfl⟩ := Int.eq_ofNat_of_zero_le (Int.le_of_lt hx)
  obtain ⟨h1, h2, h3⟩ := bits_val (n := a) (by omega)
  have := root_start (k := k) h3 (by rw [hk]; simp only [Int.natAbs_natCast]; omega)
  exact_mod_cast this
theorem lz_two (k : Nat) : lz ((2 ^ k : Nat) : Int) ≤ k / 32 + 1 := by
  rw [lz_le, Int.natAbs_natCast, show (4294967296 : Nat) = 2 ^ 32 by decide, ← Nat.pow_mul]
  exact Nat.pow_lt_pow_right (by omega) (by omega)
/-- Where the steps stand. -/
structure RootAt (w wr : World) (bx br : Nat) (x : Int) (A : Option Addr) (c : Nat) (r : Int) (A1 : Option Addr) (c1 : Nat) : Prop where
  px : Pair wr bx 24 (.bool (decide (x < 0))) (.slice A (natL x.natAbs).length c)
  pr : Pair wr br 24 (.bool (decide (r < 0))) (.slice A1 (natL r.natAbs).length c1)
  own : IntOwn wr w.heap.size (.agg #[.bool (decide (r < 0)), .slice A1 (natL r.natAbs).length c1]) r
  low : Below w.heap.size w wr
  pos : 0 < r
  above : x < (r + 1) * (r + 1)
  len : lz r ≤ 100000
/-- A root handed back, and whether its square is the number. -/
def RetRoot (base : Nat) (w : World) (r : Int) (sq : Bool) (e : Ending) (w' : World) : Prop := ∃ v, e = .returned (.tuple #[v, .bool sq]) ∧ IntOwn w' base v r ∧ Below w.heap.size w w'

set_option maxRecDepth 100000 in
set_option maxHeartbeats 2000000 in
theorem exact_Root_nought (x : Int) (A : Option Addr) (c : Nat) (w : World) (h_x : Raw w A c (natL x.natAbs)) (hx0 : x = 0) :
    Calls Tryz.prog 93 #[.agg #[.bool (decide (x < 0)), .slice A (natL x.natAbs).length c]] w (RetRoot w.heap.size w 0 true) := by
  have HX := Lib.hid hx0
  clear hx0
  have b0 := (((Below.refl w.heap.size w).alloc (Nat.le_refl _) (.cells #[.bool (decide (x < 0)), .slice A (natL x.natAbs).length c] 24)).alloc (by simp) (.cells #[.bool false, .slice none 0 0] 24))
  have p0 := (Pair.new w 24 (.bool (decide (x < 0))) (.slice A (natL x.natAbs).length c)).alloc (.cells #[.bool false, .slice none 0 0] 24)
  have p1 := Pair.new (w.alloc (.cells #[.bool (decide (x < 0)), .slice A (natL x.natAbs).length c] 24)) 24 (.bool false) (.slice none 0 0)
  simp only [World.size_alloc] at p1
  have V_x := Lib.hid (NV.of h_x b0 p0)
  have P_r0 := Lib.hid p1
  have RW_x := Lib.hid h_x
  have HBW := Lib.hid b0
  clear b0 p0 p1 h_x
  go_enter Tryz.func93, Tryz.ntmps93
  obtain ⟨W, E⟩ : ∃ W, W = ((w.alloc (.cells #[.bool (decide (x < 0)), .slice A (natL x.natAbs).length c] 24)).alloc (.cells #[.bool false, .slice none 0 0] 24)) := ⟨_, rfl⟩
  go_upto_region 1 with fail
  rw [← E] at V_x P_r0 HBW ⊢
  clear E
  have h1 := nought_len HX.out
  obtain ⟨l_x, a_x, b_x, -, -⟩ := V_x.out.pair.facts
  obtain ⟨l_r0, a_r0, b_r0, f_r0, g_r0⟩ := P_r0.out.facts
  have HQ := Lib.hid (P_r0.out.store (.bool false) (.slice none 0 0))
  have HB := Lib.hid (below2 HBW.out (show w.heap.size ≤ w.heap.size + 1 by omega) (.bool false) (.slice none 0 0))
  have hq0 := HQ.out.facts
  go_wp2_with fail
  obtain ⟨_, k0, k1, _, _⟩ := HQ.out.facts
  exact bodyPost_ret (by simp [results, Tryz.results93, go_sem, k0, k1]) rfl ⟨.agg #[.bool false, .slice none 0 0], rfl, IntOwn.nought _ _, HB.out⟩

set_option maxRecDepth 100000 in
set_option maxHeartbeats 8000000 in
theorem exact_Root_same (x rr : Int) (A : Option Addr) (c : Nat) (w : World) (h_x : Raw w A c (natL x.natAbs)) (hx : lz x ≤ 60000) (hx0 : 0 < x) (hr : IsRootZ x rr) (hq : rr * rr = x) :
    Calls Tryz.prog 93 #[.agg #[.bool (decide (x < 0)), .slice A (natL x.natAbs).length c]] w (RetRoot w.heap.size w rr true) := by
  obtain ⟨k0, hk0⟩ : ∃ k : Nat, k = (bitsI (natL x.natAbs) + 1) / 2 := ⟨_, rfl⟩
  obtain ⟨kb, hkb⟩ : ∃ k : Int, k = ((bitsI (natL x.natAbs) : Nat) : Int) := ⟨_, rfl⟩
  obtain ⟨one, hone⟩ : ∃ k : Int, k = 1 := ⟨_, rfl⟩
  obtain ⟨r0, hr0⟩ : ∃ k : Int, k = ((2 ^ k0 : Nat) : Int) := ⟨_, rfl⟩
  have hbt := bits_two hx (by omega)
  have hs0 := root_startZ hx0 hk0
  rw [← hr0] at hs0
  have hl0 := lz_two k0
  rw [← hr0] at hl0
  have hp0 : 0 < r0 := by rw [hr0]; have := Nat.two_pow_pos k0; omega
  have HS0 := Lib.hid (show 0 < r0 ∧ x < (r0 + 1) * (r0 + 1) ∧ lz r0 ≤ 100000 from ⟨hp0, hs0, by omega⟩)
  have hkk : (kb + 1) / 2 = (k0 : Int) := by omega
  have hkb2 : kb ≤ 3200000 := by omega
  have hkt : (kb + 1).tdiv 2 = (k0 : Int) := by rw [Int.tdiv_eq_ediv_of_nonneg (by omega)]; exact hkk
  have hkb1 : 1 ≤ kb := by omega
  have C1 := Lib.hid (fun (V : World) => eof 1 one hone (by decide) (by decide) V)
  have C2 := Lib.hid (fun (V : World) (a : Raw V A c (natL x.natAbs)) => ebits x kb A c V a (by omega) hkb)
  have C3 := Lib.hid (fun (V : World) (A1 : Option Addr) (c1 : Nat) (a : Raw V A1 c1 (natL one.natAbs)) => edouble one r0 (k0 : Int) A1 c1 V a (by rw [hone]; decide) (by omega) (by omega) (by omega) (by rw [hone, hr0, Int.toNat_natCast, Int.one_mul]))
  have HX := Lib.hid hx0
  have HLX := Lib.hid hx
  have HR := Lib.hid hr
  have HQ := Lib.hid hq
  clear hx hx0 hr hq hk0 hkb hone hr0 hbt hs0 hl0 hp0
  have b0 := (((Below.refl w.heap.size w).alloc (Nat.le_refl _) (.cells #[.bool (decide (x < 0)), .slice A (natL x.natAbs).length c] 24)).alloc (by simp) (.cells #[.bool false, .slice none 0 0] 24))
  have p0 := (Pair.new w 24 (.bool (decide (x < 0))) (.slice A (natL x.natAbs).length c)).alloc (.cells #[.bool false, .slice none 0 0] 24)
  have p1 := Pair.new (w.alloc (.cells #[.bool (decide (x < 0)), .slice A (natL x.natAbs).length c] 24)) 24 (.bool false) (.slice none 0 0)
  simp only [World.size_alloc] at p1
  have V_x := Lib.hid (NV.of h_x b0 p0)
  have P_r0 := Lib.hid p1
  have RW_x := Lib.hid h_x
  have HBW := Lib.hid b0
  clear b0 p0 p1 h_x
  go_enter Tryz.func93, Tryz.ntmps93
  obtain ⟨W, E⟩ : ∃ W, W = ((w.alloc (.cells #[.bool (decide (x < 0)), .slice A (natL x.natAbs).length c] 24)).alloc (.cells #[.bool false, .slice none 0 0] 24)) := ⟨_, rfl⟩
  go_upto_region 1 with fail
  rw [← E] at V_x P_r0 HBW ⊢
  clear E
  have h1 := more_len (show x ≠ 0 by have := HX.out; omega)
  have hszW := P_r0.out.blk.lt
  obtain ⟨l_x, a_x, b_x, -, -⟩ := V_x.out.pair.facts
  go_upto_region 3 with fail
  clear h1
  clear l_x a_x b_x
  refine wp_region_free [.any false (fun u V => IntOwn V w.heap.size u one) [], .val (.agg #[.bool (decide (x < 0)), .slice A (natL x.natAbs).length c]) [], .val (.int .i64 kb) [], .val (.int .i64 (kb + 1)) [], .val (.int .i64 (k0 : Int)) [], .any false (fun u V => IntOwn V w.heap.size u r0) [0], .old (w.heap.size + 1) 24 #[.bool false, .slice none 0 0] 0 2 5 []] (w.heap.size + 1) W [24] (fun _ _ => False) _ mixedOrders2 (by omega) (Below.refl _ _) (KeptV.refl _ _ _) rfl (by kernel_rfl) (by kernel_rfl) (by kernel_rfl) (by kernel_rfl) (by kernel_rfl) (by kernel_rfl) (by kernel_rfl) (by kernel_rfl) rfl (by simp [oldsF]) ?_ ?_ ?_ ?_
  · simp only [StableF, and_true]
    exact ⟨fun u V V' h k => h.kept k (by decide), fun u V V' h k => h.kept k (by decide)⟩
  · simp only [OldsF, and_true]
    exact ⟨by omega, by omega, P_r0.out.blk, by simp⟩
  · simp (maxSteps := 4000000) [StepsF, DepF, freeAct, fill, pairs]
    repeat' (first | apply And.intro | (intro (u : Value)) | (intro (u : Nat)))
    all_goals try exact ⟨_, _, _, rfl, rfl, rfl, rfl, intInfo⟩
    all_goals first
    | (intro V hV hK
       have nx := (⟨⟨V_x.out.pair.blk.below hV (Nat.lt_succ_self _)⟩, RW_x.out.below (HBW.out.trans (hV.mono (by omega)))⟩ : NV V w.heap.size x A c)
       obtain ⟨-, a_x, b_x, -, -⟩ := nx.pair.facts
       have r_x := Lib.hid nx.raw
       have hsK := hK.size
       clear hV hK nx
       go_simp
       first
       | exact Below.refl _ _
       | exact ⟨by first | rfl | exact hkt | decide | go_num | (rw [IntKind.wrap_i64]; omega), Below.refl _ _⟩
       | ((with_reducible refine (C1.out V).mono ?_); rintro e w' ⟨v, rfl, hv, hb⟩; exact ⟨hv.base (by omega), hb⟩)
       | ((with_reducible refine (C2.out V r_x.out).mono ?_); rintro e w' ⟨rfl, hb⟩; exact ⟨rfl, hb⟩))
    | (intro V hV hK hu
       obtain ⟨A', c', rfl, hr⟩ := hu.raw
       have r2 := Lib.hid hr
       have hsK := hK.size
       clear hV hK hu hr
       go_simp
       (with_reducible refine (C3.out V A' c' r2.out).mono ?_)
       rintro e w' ⟨v, rfl, hv, hb⟩
       exact ⟨hv.base (by omega), hb⟩)
    | exact fun _ _ _ (h : IntOwn _ _ _ _) => h.cells
    | (intro V hV hK; clear hV hK; go_simp; trace_state; sorry)
  · simp [EndF, FactsF, freeAct, fill, pairs]
    intro u1 u2 V hV hK h1 h2 bq _ _ _
    obtain ⟨A1, c1, rfl, q1⟩ := h2.raw
    simp [setAll, Value.cells] at bq
    obtain ⟨br, hbr⟩ : ∃ br, br = w.heap.size + 1 := ⟨_, rfl⟩
    rw [← hbr] at bq ⊢
    have HR0 := Lib.hid (show RootAt w V w.heap.size br x A c r0 A1 c1 from ⟨(⟨⟨V_x.out.pair.blk.below hV (Nat.lt_succ_self _)⟩, RW_x.out.below (HBW.out.trans (hV.mono (by omega)))⟩ : NV V w.heap.size x A c).pair, ⟨bq⟩, h2, HBW.out.trans (hV.mono (by omega)), HS0.out.1, HS0.out.2.1, HS0.out.2.2⟩)
    have hszr : w.heap.size < br := by omega
    clear h1 h2 bq q1 hV hK hbr C1 C2 C3 HS0 V_x P_r0 hkk hkt hkb1 hkb2 HBW
    go_wp2_with fail
    go_loopg [] (r0.toNat) (fun k wr => Hid (∃ r A1 c1, k = r.toNat ∧ RootAt w wr w.heap.size br x A c r A1 c1))
    case atStart => exact Lib.hid ⟨r0, A1, c1, rfl, HR0.out⟩
    case round =>
      clear HR0
      obtain ⟨r, A1, c1, HGK, hra⟩ := hrel.out
      have HRA := Lib.hid hra
      have HGK := Lib.hid HGK
      clear hrel hra
      have O_r := Lib.hid HRA.out.own
      have HBW := Lib.hid HRA.out.low
      have HAB := Lib.hid HRA.out.above
      have V_x := Lib.hid (show NV wr w.heap.size x A c from ⟨HRA.out.px, RW_x.out.below HRA.out.low⟩)
      have V_r := Lib.hid (show NV wr br r A1 c1 from ⟨HRA.out.pr, HRA.out.own.rawAt⟩)
      obtain ⟨q, hq⟩ : ∃ q : Int, q = x.tdiv r := ⟨_, rfl⟩
      obtain ⟨m, hm⟩ : ∃ m : Int, m = x.tmod r := ⟨_, rfl⟩
      obtain ⟨s, hs⟩ : ∃ s : Int, s = r + q := ⟨_, rfl⟩
      obtain ⟨n, hn⟩ : ∃ n : Int, n = s / ((2 ^ (1 : Int).toNat : Nat) : Int) := ⟨_, rfl⟩
      have hst := root_stepZ HX.out HRA.out.pos hq (hs ▸ hn)
      have hlr := HRA.out.len
      have hlx : lz x ≤ 100000 := Nat.le_trans HLX.out (by decide)
      have hlq : lz q ≤ 100000 := Nat.le_trans (lz_mono (y := x) (by rw [hq, Int.natAbs_tdiv]; exact Nat.div_le_self _ _)) hlx
      have hls : lz s ≤ 100001 := by have := lz_add r q; rw [← hs] at this; omega
      have hn2 : n = s / 2 := hn
      have hln : lz n ≤ 100001 := Nat.le_trans (lz_mono (show n.natAbs ≤ s.natAbs by omega)) hls
      have HST := Lib.hid hst
      have HQE := Lib.hid (And.intro hq hm)
      have HSE := Lib.hid hs
      have HNE := Lib.hid hn
      have hpos := HRA.out.pos
      have HRX := Lib.hid (show r ≠ 0 by omega)
      have HPOS := Lib.hid (show 0 < r ∧ 0 < n from ⟨hpos, hst.2.1⟩)
      have hsz1 := V_r.out.pair.blk.lt
      clear hq hm hs hn hn2 hst hpos HRA
      obtain ⟨l_x, a_x, b_x, -, -⟩ := V_x.out.pair.facts
      obtain ⟨l_r, a_r, b_r, -, -⟩ := V_r.out.pair.facts
      go_wp2_with fail
      refine (edivide x r q m A A1 c c1 wr V_x.out.raw V_r.out.raw (by omega) (by omega) HRX.out HQE.out.1 HQE.out.2).mono ?_
      rintro e x1 ⟨v1, v2, rfl, hI, hb⟩
      obtain ⟨A2, c2, rfl, rq⟩ := hI.one.raw
      obtain ⟨A3, c3, rfl, rm⟩ := hI.two.raw
      clear l_x a_x b_x l_r a_r b_r
      have V_x := Lib.hid (V_x.out.below hb)
      have V_r := Lib.hid (V_r.out.below hb)
      have O_r := Lib.hid (O_r.out.below hb)
      have HBW := Lib.hid (belowTo HBW.out hb)
      have R_q := Lib.hid rq
      have R_m := Lib.hid rm
      clear hb rq rm hI
      go_upto_region 5 with fail
      have ha := (((Below.refl x1.heap.size x1).alloc (Nat.le_refl _) (.cells #[.bool (decide (q < 0)), .slice A2 (natL q.natAbs).length c2] 24)).alloc (by simp) (.cells #[.bool (decide (m < 0)), .slice A3 (natL m.natAbs).length c3] 24))
      have p_q := ((Pair.new x1 24 (.bool (decide (q < 0))) (.slice A2 (natL q.natAbs).length c2)).alloc (.cells #[.bool (decide (m < 0)), .slice A3 (natL m.natAbs).length c3] 24))
      have p_m := (Pair.new (x1.alloc (.cells #[.bool (decide (q < 0)), .slice A2 (natL q.natAbs).length c2] 24)) 24 (.bool (decide (m < 0))) (.slice A3 (natL m.natAbs).length c3))
      simp only [World.size_alloc] at p_m
      obtain ⟨y2, E⟩ : ∃ W, W = ((x1.alloc (.cells #[.bool (decide (q < 0)), .slice A2 (natL q.natAbs).length c2] 24)).alloc (.cells #[.bool (decide (m < 0)), .slice A3 (natL m.natAbs).length c3] 24)) := ⟨_, rfl⟩
      rw [← E] at ha p_q p_m ⊢
      have V_q := Lib.hid (NV.of R_q.out ha p_q)
      have V_m := Lib.hid (NV.of R_m.out ha p_m)
      have V_x := Lib.hid (V_x.out.below ha)
      have V_r := Lib.hid (V_r.out.below ha)
      have O_r := Lib.hid (O_r.out.below ha)
      have HBW := Lib.hid (belowTo HBW.out ha)
      obtain ⟨g2, hg⟩ : ∃ g, g = x1.heap.size := ⟨_, rfl⟩
      rw [← hg] at V_q V_m ⊢
      clear E ha hg p_q p_m
      clear V_m
      obtain ⟨l_r, a_r, b_r, -, -⟩ := V_r.out.pair.facts
      obtain ⟨l_q, a_q, b_q, -, -⟩ := V_q.out.pair.facts
      go_wp2_with fail
      refine (eplus r q s A1 A2 c1 c2 y2 V_r.out.raw V_q.out.raw (by omega) (by omega) HSE.out).mono ?_
      rintro e x3 ⟨v4, rfl, hI4, hb⟩
      obtain ⟨A4, c4, rfl, r4⟩ := hI4.raw
      clear hI4
      clear l_r a_r b_r l_q a_q b_q
      have V_x := Lib.hid (V_x.out.below hb)
      have V_r := Lib.hid (V_r.out.below hb)
      have V_q := Lib.hid (V_q.out.below hb)
      have O_r := Lib.hid (O_r.out.below hb)
      have HBW := Lib.hid (belowTo HBW.out hb)
      have R_s := Lib.hid r4
      clear hb r4
      clear V_q
      go_wp2_with fail
      refine (ehalved s n 1 A4 c4 x3 R_s.out (by omega) (by omega) (by omega) HNE.out).mono ?_
      rintro e x4 ⟨v5, rfl, hI5, hb⟩
      obtain ⟨A5, c5, rfl, r5⟩ := hI5.raw
      have hlow : w.heap.size ≤ x3.heap.size := HBW.out.size
      have V_x := Lib.hid (V_x.out.below hb)
      have V_r := Lib.hid (V_r.out.below hb)
      have R_s := Lib.hid (R_s.out.below hb)
      have O_r := Lib.hid (O_r.out.below hb)
      have HBW := Lib.hid (belowTo HBW.out hb)
      have R_n := Lib.hid r5
      have O_n := Lib.hid (hI5.base hlow)
      clear hb r5 hI5 R_s hlow
      go_upto_region 6 with fail
      have ha := ((Below.refl x4.heap.size x4).alloc (Nat.le_refl _) (.cells #[.bool (decide (n < 0)), .slice A5 (natL n.natAbs).length c5] 24))
      have p_n := (Pair.new x4 24 (.bool (decide (n < 0))) (.slice A5 (natL n.natAbs).length c5))
      obtain ⟨y5, E⟩ : ∃ W, W = (x4.alloc (.cells #[.bool (decide (n < 0)), .slice A5 (natL n.natAbs).length c5] 24)) := ⟨_, rfl⟩
      rw [← E] at ha p_n ⊢
      have V_n := Lib.hid (NV.of R_n.out ha p_n)
      have V_x := Lib.hid (V_x.out.below ha)
      have V_r := Lib.hid (V_r.out.below ha)
      have O_r := Lib.hid (O_r.out.below ha)
      have O_n := Lib.hid (O_n.out.below ha)
      have HBW := Lib.hid (belowTo HBW.out ha)
      obtain ⟨g5, hg⟩ : ∃ g, g = x4.heap.size := ⟨_, rfl⟩
      rw [← hg] at V_n ⊢
      clear E ha hg p_n
      obtain ⟨kc, hkc⟩ : ∃ k : Int, k = cmpz n r := ⟨_, rfl⟩
      have HKC := Lib.hid hkc
      by_cases hlt : n < r
      · skip
        obtain rfl : kc = -1 := by rw [hkc]; exact cmpz_lt hlt
        have HLT := Lib.hid hlt
        clear hkc hlt
        obtain ⟨l_n, a_n, b_n, -, -⟩ := V_n.out.pair.facts
        obtain ⟨l_r, a_r, b_r, -, -⟩ := V_r.out.pair.facts
        go_wp2_with fail
        refine (ecmp n r (-1) A5 A1 c5 c1 y5 V_n.out.raw V_r.out.raw (by omega) (by omega) HKC.out).mono ?_
        rintro e x6 ⟨rfl, hb⟩
        clear l_n a_n b_n l_r a_r b_r
        have V_x := Lib.hid (V_x.out.below hb)
        have V_r := Lib.hid (V_r.out.below hb)
        have V_n := Lib.hid (V_n.out.below hb)
        have O_r := Lib.hid (O_r.out.below hb)
        have O_n := Lib.hid (O_n.out.below hb)
        have HBW := Lib.hid (belowTo HBW.out hb)
        clear hb
        obtain ⟨l_n, a_n, b_n, -, -⟩ := V_n.out.pair.facts
        obtain ⟨l_r, a_r, b_r, -, -⟩ := V_r.out.pair.facts
        have qr := V_r.out.pair.facts
        have HN := Lib.hid (show RootAt w ((x6.setCell ⟨br, 0, none⟩ (.bool (decide (n < 0)))).setCell ⟨br, 1, none⟩ (.slice A5 (natL n.natAbs).length c5)) w.heap.size br x A c n A5 c5 from
          ⟨V_x.out.pair.far (by omega) _ _, V_r.out.pair.store _ _, O_n.out.pairT V_r.out.pair _ _, below2 HBW.out (by omega) _ _, HPOS.out.2, HST.out.2.2.1, Nat.le_trans (lz_mono (by have := HLT.out; have := HPOS.out; omega)) hlr⟩)
        have HM := Lib.hid (show n.toNat < r.toNat by have := HLT.out; have := HPOS.out; omega)
        go_wp2_with fail
        go_roundg (n.toNat)
        case measure => rw [HGK.out]; exact HM.out
        case rel => exact Lib.hid ⟨n, A5, c5, rfl, HN.out⟩
      · skip
        have hkc0 : decide (0 ≤ kc) = true := decide_eq_true (by rw [hkc]; unfold cmpz; rw [if_neg hlt]; split <;> omega)
        have HRR := Lib.hid (show r = rr from rootZ_one (Int.le_of_lt HX.out) ⟨Int.le_of_lt HPOS.out.1, HST.out.2.2.2 (by omega), HAB.out⟩ HR.out)
        clear hkc hlt
        obtain ⟨l_n, a_n, b_n, -, -⟩ := V_n.out.pair.facts
        obtain ⟨l_r, a_r, b_r, -, -⟩ := V_r.out.pair.facts
        go_wp2_with fail
        refine (ecmp n r kc A5 A1 c5 c1 y5 V_n.out.raw V_r.out.raw (by omega) (by omega) HKC.out).mono ?_
        rintro e x6 ⟨rfl, hb⟩
        clear l_n a_n b_n l_r a_r b_r
        have V_x := Lib.hid (V_x.out.below hb)
        have V_r := Lib.hid (V_r.out.below hb)
        have V_n := Lib.hid (V_n.out.below hb)
        have O_r := Lib.hid (O_r.out.below hb)
        have O_n := Lib.hid (O_n.out.below hb)
        have HBW := Lib.hid (belowTo HBW.out hb)
        clear hb
        clear V_n
        go_upto_region 7 with fail
        obtain ⟨pp, hpp⟩ : ∃ k : Int, k = r * r := ⟨_, rfl⟩
        obtain ⟨k2, hk2⟩ : ∃ k : Int, k = cmpz pp x := ⟨_, rfl⟩
        obtain rfl : k2 = 0 := by rw [hk2, hpp, HRR.out, HQ.out]; unfold cmpz; simp
        have hlp : lz pp ≤ 200000 := by have := lz_mul r r; rw [← hpp] at this; omega
        have HK2 := Lib.hid hk2
        have HPP := Lib.hid hpp
        clear hk2 hpp hkc0
        obtain ⟨W0, hW⟩ : ∃ W0, W0 = x6 := ⟨_, rfl⟩
        rw [← hW] at HBW O_r O_n V_x V_r  ⊢
        clear hW
        refine wp_region_free [.val (.agg #[.bool (decide (r < 0)), .slice A1 (natL r.natAbs).length c1]) [], .val (.agg #[.bool (decide (r < 0)), .slice A1 (natL r.natAbs).length c1]) [], .val (.agg #[.bool (decide (r < 0)), .slice A1 (natL r.natAbs).length c1]) [], .any false (fun u0 V => IntAt V u0 pp) [], .val (.agg #[.bool (decide (x < 0)), .slice A (natL x.natAbs).length c]) [], .val (.int .i64 (0)) [3], .val (.bool true) [], .val undef [], .val (.bool true) []] W0.heap.size W0 [] (fun _ _ => False) _ mixedOrders2 (Nat.le_refl _) (Below.refl _ _) (KeptV.refl _ _ _) rfl (by kernel_rfl) (by kernel_rfl) (by kernel_rfl) (by kernel_rfl) (by kernel_rfl) (by kernel_rfl) (by kernel_rfl) (by kernel_rfl) rfl (by simp [oldsF]) ?_ ?_ ?_ ?_
        · simp only [StableF, and_true]
          exact fun u0 V V' h k => h.keptNone k
        · simp only [OldsF]
        · simp (maxSteps := 4000000) [StepsF, DepF, freeAct, fill, pairs]
          repeat' (first | apply And.intro | (intro (u0 : Value)))
          all_goals first
          | (intro V hV hK
             obtain ⟨-, a_x, b_x, -, -⟩ := (V_x.out.below hV).pair.facts
             have r_x := Lib.hid (V_x.out.below hV).raw
             obtain ⟨-, a_r, b_r, -, -⟩ := (V_r.out.below hV).pair.facts
             have r_r := Lib.hid (V_r.out.below hV).raw
             have p9 := (V_r.out.below hV).pair
             obtain ⟨l9, -, -, f9, g9⟩ := p9.facts
             have hset := set_same2 p9
             clear p9
             clear hV hK
             go_simp
             first
             | exact Below.refl _ _
             | exact ⟨by first | rfl | decide | go_num, Below.refl _ _⟩
             | ((with_reducible refine (etimes r r pp A1 A1 c1 c1 V r_r.out r_r.out (by omega) (by omega) HPP.out).mono ?_); rintro e w' ⟨v, rfl, hv, hb⟩; exact ⟨hv.at_, hb⟩))
          | (intro V hV hK hu
             obtain ⟨A', c', rfl, hr⟩ := hu.form
             have r_x := Lib.hid (V_x.out.below hV).raw
             have r' := Lib.hid hr
             clear hV hK hu hr
             go_simp
             (with_reducible refine (ecmp pp x (0) A' A c' c V r'.out r_x.out (by omega) (by omega) HK2.out).mono ?_)
             rintro e w' ⟨rfl, hb⟩
             exact ⟨rfl, hb⟩)
        · simp [EndF, FactsF, freeAct, fill, pairs]
          intro u1 V hV hK _ _ _ _
          have V_x := Lib.hid (V_x.out.below hV)
          have V_r := Lib.hid (V_r.out.below hV)
          have O_r := Lib.hid (O_r.out.below hV)
          have O_n := Lib.hid (O_n.out.below hV)
          have HBW := Lib.hid (belowTo HBW.out hV)
          clear hV hK
          obtain ⟨v7, hV0⟩ : ∃ Y, Y = V := ⟨_, rfl⟩
          rw [← hV0] at HBW O_r O_n V_x V_r  ⊢
          clear hV0
          obtain ⟨l_r, a_r, b_r, -, -⟩ := V_r.out.pair.facts
          go_wp2_with fail
          exact bodyPost_ret (by simp [results, Tryz.results93, go_sem, a_r, b_r]) rfl ⟨.agg #[.bool (decide (r < 0)), .slice A1 (natL r.natAbs).length c1], rfl, by rw [← HRR.out]; exact O_r.out, HBW.out⟩

set_option maxRecDepth 100000 in
set_option maxHeartbeats 8000000 in
theorem exact_Root_less (x rr : Int) (A : Option Addr) (c : Nat) (w : World) (h_x : Raw w A c (natL x.natAbs)) (hx : lz x ≤ 60000) (hx0 : 0 < x) (hr : IsRootZ x rr) (hq : rr * rr ≠ x) :
    Calls Tryz.prog 93 #[.agg #[.bool (decide (x < 0)), .slice A (natL x.natAbs).length c]] w (RetRoot w.heap.size w rr false) := by
  obtain ⟨k0, hk0⟩ : ∃ k : Nat, k = (bitsI (natL x.natAbs) + 1) / 2 := ⟨_, rfl⟩
  obtain ⟨kb, hkb⟩ : ∃ k : Int, k = ((bitsI (natL x.natAbs) : Nat) : Int) := ⟨_, rfl⟩
  obtain ⟨one, hone⟩ : ∃ k : Int, k = 1 := ⟨_, rfl⟩
  obtain ⟨r0, hr0⟩ : ∃ k : Int, k = ((2 ^ k0 : Nat) : Int) := ⟨_, rfl⟩
  have hbt := bits_two hx (by omega)
  have hs0 := root_startZ hx0 hk0
  rw [← hr0] at hs0
  have hl0 := lz_two k0
  rw [← hr0] at hl0
  have hp0 : 0 < r0 := by rw [hr0]; have := Nat.two_pow_pos k0; omega
  have HS0 := Lib.hid (show 0 < r0 ∧ x < (r0 + 1) * (r0 + 1) ∧ lz r0 ≤ 100000 from ⟨hp0, hs0, by omega⟩)
  have hkk : (kb + 1) / 2 = (k0 : Int) := by omega
  have hkb2 : kb ≤ 3200000 := by omega
  have hkt : (kb + 1).tdiv 2 = (k0 : Int) := by rw [Int.tdiv_eq_ediv_of_nonneg (by omega)]; exact hkk
  have hkb1 : 1 ≤ kb := by omega
  have C1 := Lib.hid (fun (V : World) => eof 1 one hone (by decide) (by decide) V)
  have C2 := Lib.hid (fun (V : World) (a : Raw V A c (natL x.natAbs)) => ebits x kb A c V a (by omega) hkb)
  have C3 := Lib.hid (fun (V : World) (A1 : Option Addr) (c1 : Nat) (a : Raw V A1 c1 (natL one.natAbs)) => edouble one r0 (k0 : Int) A1 c1 V a (by rw [hone]; decide) (by omega) (by omega) (by omega) (by rw [hone, hr0, Int.toNat_natCast, Int.one_mul]))
  have HX := Lib.hid hx0
  have HLX := Lib.hid hx
  have HR := Lib.hid hr
  have HQ := Lib.hid hq
  clear hx hx0 hr hq hk0 hkb hone hr0 hbt hs0 hl0 hp0
  have b0 := (((Below.refl w.heap.size w).alloc (Nat.le_refl _) (.cells #[.bool (decide (x < 0)), .slice A (natL x.natAbs).length c] 24)).alloc (by simp) (.cells #[.bool false, .slice none 0 0] 24))
  have p0 := (Pair.new w 24 (.bool (decide (x < 0))) (.slice A (natL x.natAbs).length c)).alloc (.cells #[.bool false, .slice none 0 0] 24)
  have p1 := Pair.new (w.alloc (.cells #[.bool (decide (x < 0)), .slice A (natL x.natAbs).length c] 24)) 24 (.bool false) (.slice none 0 0)
  simp only [World.size_alloc] at p1
  have V_x := Lib.hid (NV.of h_x b0 p0)
  have P_r0 := Lib.hid p1
  have RW_x := Lib.hid h_x
  have HBW := Lib.hid b0
  clear b0 p0 p1 h_x
  go_enter Tryz.func93, Tryz.ntmps93
  obtain ⟨W, E⟩ : ∃ W, W = ((w.alloc (.cells #[.bool (decide (x < 0)), .slice A (natL x.natAbs).length c] 24)).alloc (.cells #[.bool false, .slice none 0 0] 24)) := ⟨_, rfl⟩
  go_upto_region 1 with fail
  rw [← E] at V_x P_r0 HBW ⊢
  clear E
  have h1 := more_len (show x ≠ 0 by have := HX.out; omega)
  have hszW := P_r0.out.blk.lt
  obtain ⟨l_x, a_x, b_x, -, -⟩ := V_x.out.pair.facts
  go_upto_region 3 with fail
  clear h1
  clear l_x a_x b_x
  refine wp_region_free [.any false (fun u V => IntOwn V w.heap.size u one) [], .val (.agg #[.bool (decide (x < 0)), .slice A (natL x.natAbs).length c]) [], .val (.int .i64 kb) [], .val (.int .i64 (kb + 1)) [], .val (.int .i64 (k0 : Int)) [], .any false (fun u V => IntOwn V w.heap.size u r0) [0], .old (w.heap.size + 1) 24 #[.bool false, .slice none 0 0] 0 2 5 []] (w.heap.size + 1) W [24] (fun _ _ => False) _ mixedOrders2 (by omega) (Below.refl _ _) (KeptV.refl _ _ _) rfl (by kernel_rfl) (by kernel_rfl) (by kernel_rfl) (by kernel_rfl) (by kernel_rfl) (by kernel_rfl) (by kernel_rfl) (by kernel_rfl) rfl (by simp [oldsF]) ?_ ?_ ?_ ?_
  · simp only [StableF, and_true]
    exact ⟨fun u V V' h k => h.kept k (by decide), fun u V V' h k => h.kept k (by decide)⟩
  · simp only [OldsF, and_true]
    exact ⟨by omega, by omega, P_r0.out.blk, by simp⟩
  · simp (maxSteps := 4000000) [StepsF, DepF, freeAct, fill, pairs]
    repeat' (first | apply And.intro | (intro (u : Value)) | (intro (u : Nat)))
    all_goals try exact ⟨_, _, _, rfl, rfl, rfl, rfl, intInfo⟩
    all_goals first
    | (intro V hV hK
       have nx := (⟨⟨V_x.out.pair.blk.below hV (Nat.lt_succ_self _)⟩, RW_x.out.below (HBW.out.trans (hV.mono (by omega)))⟩ : NV V w.heap.size x A c)
       obtain ⟨-, a_x, b_x, -, -⟩ := nx.pair.facts
       have r_x := Lib.hid nx.raw
       have hsK := hK.size
       clear hV hK nx
       go_simp
       first
       | exact Below.refl _ _
       | exact ⟨by first | rfl | exact hkt | decide | go_num | (rw [IntKind.wrap_i64]; omega), Below.refl _ _⟩
       | ((with_reducible refine (C1.out V).mono ?_); rintro e w' ⟨v, rfl, hv, hb⟩; exact ⟨hv.base (by omega), hb⟩)
       | ((with_reducible refine (C2.out V r_x.out).mono ?_); rintro e w' ⟨rfl, hb⟩; exact ⟨rfl, hb⟩))
    | (intro V hV hK hu
       obtain ⟨A', c', rfl, hr⟩ := hu.raw
       have r2 := Lib.hid hr
       have hsK := hK.size
       clear hV hK hu hr
       go_simp
       (with_reducible refine (C3.out V A' c' r2.out).mono ?_)
       rintro e w' ⟨v, rfl, hv, hb⟩
       exact ⟨hv.base (by omega), hb⟩)
    | exact fun _ _ _ (h : IntOwn _ _ _ _) => h.cells
    | (intro V hV hK; clear hV hK; go_simp; trace_state; sorry)
  · simp [EndF, FactsF, freeAct, fill, pairs]
    intro u1 u2 V hV hK h1 h2 bq _ _ _
    obtain ⟨A1, c1, rfl, q1⟩ := h2.raw
    simp [setAll, Value.cells] at bq
    obtain ⟨br, hbr⟩ : ∃ br, br = w.heap.size + 1 := ⟨_, rfl⟩
    rw [← hbr] at bq ⊢
    have HR0 := Lib.hid (show RootAt w V w.heap.size br x A c r0 A1 c1 from ⟨(⟨⟨V_x.out.pair.blk.below hV (Nat.lt_succ_self _)⟩, RW_x.out.below (HBW.out.trans (hV.mono (by omega)))⟩ : NV V w.heap.size x A c).pair, ⟨bq⟩, h2, HBW.out.trans (hV.mono (by omega)), HS0.out.1, HS0.out.2.1, HS0.out.2.2⟩)
    have hszr : w.heap.size < br := by omega
    clear h1 h2 bq q1 hV hK hbr C1 C2 C3 HS0 V_x P_r0 hkk hkt hkb1 hkb2 HBW
    go_wp2_with fail
    go_loopg [] (r0.toNat) (fun k wr => Hid (∃ r A1 c1, k = r.toNat ∧ RootAt w wr w.heap.size br x A c r A1 c1))
    case atStart => exact Lib.hid ⟨r0, A1, c1, rfl, HR0.out⟩
    case round =>
      clear HR0
      obtain ⟨r, A1, c1, HGK, hra⟩ := hrel.out
      have HRA := Lib.hid hra
      have HGK := Lib.hid HGK
      clear hrel hra
      have O_r := Lib.hid HRA.out.own
      have HBW := Lib.hid HRA.out.low
      have HAB := Lib.hid HRA.out.above
      have V_x := Lib.hid (show NV wr w.heap.size x A c from ⟨HRA.out.px, RW_x.out.below HRA.out.low⟩)
      have V_r := Lib.hid (show NV wr br r A1 c1 from ⟨HRA.out.pr, HRA.out.own.rawAt⟩)
      obtain ⟨q, hq⟩ : ∃ q : Int, q = x.tdiv r := ⟨_, rfl⟩
      obtain ⟨m, hm⟩ : ∃ m : Int, m = x.tmod r := ⟨_, rfl⟩
      obtain ⟨s, hs⟩ : ∃ s : Int, s = r + q := ⟨_, rfl⟩
      obtain ⟨n, hn⟩ : ∃ n : Int, n = s / ((2 ^ (1 : Int).toNat : Nat) : Int) := ⟨_, rfl⟩
      have hst := root_stepZ HX.out HRA.out.pos hq (hs ▸ hn)
      have hlr := HRA.out.len
      have hlx : lz x ≤ 100000 := Nat.le_trans HLX.out (by decide)
      have hlq : lz q ≤ 100000 := Nat.le_trans (lz_mono (y := x) (by rw [hq, Int.natAbs_tdiv]; exact Nat.div_le_self _ _)) hlx
      have hls : lz s ≤ 100001 := by have := lz_add r q; rw [← hs] at this; omega
      have hn2 : n = s / 2 := hn
      have hln : lz n ≤ 100001 := Nat.le_trans (lz_mono (show n.natAbs ≤ s.natAbs by omega)) hls
      have HST := Lib.hid hst
      have HQE := Lib.hid (And.intro hq hm)
      have HSE := Lib.hid hs
      have HNE := Lib.hid hn
      have hpos := HRA.out.pos
      have HRX := Lib.hid (show r ≠ 0 by omega)
      have HPOS := Lib.hid (show 0 < r ∧ 0 < n from ⟨hpos, hst.2.1⟩)
      have hsz1 := V_r.out.pair.blk.lt
      clear hq hm hs hn hn2 hst hpos HRA
      obtain ⟨l_x, a_x, b_x, -, -⟩ := V_x.out.pair.facts
      obtain ⟨l_r, a_r, b_r, -, -⟩ := V_r.out.pair.facts
      go_wp2_with fail
      refine (edivide x r q m A A1 c c1 wr V_x.out.raw V_r.out.raw (by omega) (by omega) HRX.out HQE.out.1 HQE.out.2).mono ?_
      rintro e x1 ⟨v1, v2, rfl, hI, hb⟩
      obtain ⟨A2, c2, rfl, rq⟩ := hI.one.raw
      obtain ⟨A3, c3, rfl, rm⟩ := hI.two.raw
      clear l_x a_x b_x l_r a_r b_r
      have V_x := Lib.hid (V_x.out.below hb)
      have V_r := Lib.hid (V_r.out.below hb)
      have O_r := Lib.hid (O_r.out.below hb)
      have HBW := Lib.hid (belowTo HBW.out hb)
      have R_q := Lib.hid rq
      have R_m := Lib.hid rm
      clear hb rq rm hI
      go_upto_region 5 with fail
      have ha := (((Below.refl x1.heap.size x1).alloc (Nat.le_refl _) (.cells #[.bool (decide (q < 0)), .slice A2 (natL q.natAbs).length c2] 24)).alloc (by simp) (.cells #[.bool (decide (m < 0)), .slice A3 (natL m.natAbs).length c3] 24))
      have p_q := ((Pair.new x1 24 (.bool (decide (q < 0))) (.slice A2 (natL q.natAbs).length c2)).alloc (.cells #[.bool (decide (m < 0)), .slice A3 (natL m.natAbs).length c3] 24))
      have p_m := (Pair.new (x1.alloc (.cells #[.bool (decide (q < 0)), .slice A2 (natL q.natAbs).length c2] 24)) 24 (.bool (decide (m < 0))) (.slice A3 (natL m.natAbs).length c3))
      simp only [World.size_alloc] at p_m
      obtain ⟨y2, E⟩ : ∃ W, W = ((x1.alloc (.cells #[.bool (decide (q < 0)), .slice A2 (natL q.natAbs).length c2] 24)).alloc (.cells #[.bool (decide (m < 0)), .slice A3 (natL m.natAbs).length c3] 24)) := ⟨_, rfl⟩
      rw [← E] at ha p_q p_m ⊢
      have V_q := Lib.hid (NV.of R_q.out ha p_q)
      have V_m := Lib.hid (NV.of R_m.out ha p_m)
      have V_x := Lib.hid (V_x.out.below ha)
      have V_r := Lib.hid (V_r.out.below ha)
      have O_r := Lib.hid (O_r.out.below ha)
      have HBW := Lib.hid (belowTo HBW.out ha)
      obtain ⟨g2, hg⟩ : ∃ g, g = x1.heap.size := ⟨_, rfl⟩
      rw [← hg] at V_q V_m ⊢
      clear E ha hg p_q p_m
      clear V_m
      obtain ⟨l_r, a_r, b_r, -, -⟩ := V_r.out.pair.facts
      obtain ⟨l_q, a_q, b_q, -, -⟩ := V_q.out.pair.facts
      go_wp2_with fail
      refine (eplus r q s A1 A2 c1 c2 y2 V_r.out.raw V_q.out.raw (by omega) (by omega) HSE.out).mono ?_
      rintro e x3 ⟨v4, rfl, hI4, hb⟩
      obtain ⟨A4, c4, rfl, r4⟩ := hI4.raw
      clear hI4
      clear l_r a_r b_r l_q a_q b_q
      have V_x := Lib.hid (V_x.out.below hb)
      have V_r := Lib.hid (V_r.out.below hb)
      have V_q := Lib.hid (V_q.out.below hb)
      have O_r := Lib.hid (O_r.out.below hb)
      have HBW := Lib.hid (belowTo HBW.out hb)
      have R_s := Lib.hid r4
      clear hb r4
      clear V_q
      go_wp2_with fail
      refine (ehalved s n 1 A4 c4 x3 R_s.out (by omega) (by omega) (by omega) HNE.out).mono ?_
      rintro e x4 ⟨v5, rfl, hI5, hb⟩
      obtain ⟨A5, c5, rfl, r5⟩ := hI5.raw
      have hlow : w.heap.size ≤ x3.heap.size := HBW.out.size
      have V_x := Lib.hid (V_x.out.below hb)
      have V_r := Lib.hid (V_r.out.below hb)
      have R_s := Lib.hid (R_s.out.below hb)
      have O_r := Lib.hid (O_r.out.below hb)
      have HBW := Lib.hid (belowTo HBW.out hb)
      have R_n := Lib.hid r5
      have O_n := Lib.hid (hI5.base hlow)
      clear hb r5 hI5 R_s hlow
      go_upto_region 6 with fail
      have ha := ((Below.refl x4.heap.size x4).alloc (Nat.le_refl _) (.cells #[.bool (decide (n < 0)), .slice A5 (natL n.natAbs).length c5] 24))
      have p_n := (Pair.new x4 24 (.bool (decide (n < 0))) (.slice A5 (natL n.natAbs).length c5))
      obtain ⟨y5, E⟩ : ∃ W, W = (x4.alloc (.cells #[.bool (decide (n < 0)), .slice A5 (natL n.natAbs).length c5] 24)) := ⟨_, rfl⟩
      rw [← E] at ha p_n ⊢
      have V_n := Lib.hid (NV.of R_n.out ha p_n)
      have V_x := Lib.hid (V_x.out.below ha)
      have V_r := Lib.hid (V_r.out.below ha)
      have O_r := Lib.hid (O_r.out.below ha)
      have O_n := Lib.hid (O_n.out.below ha)
      have HBW := Lib.hid (belowTo HBW.out ha)
      obtain ⟨g5, hg⟩ : ∃ g, g = x4.heap.size := ⟨_, rfl⟩
      rw [← hg] at V_n ⊢
      clear E ha hg p_n
      obtain ⟨kc, hkc⟩ : ∃ k : Int, k = cmpz n r := ⟨_, rfl⟩
      have HKC := Lib.hid hkc
      by_cases hlt : n < r
      · skip
        obtain rfl : kc = -1 := by rw [hkc]; exact cmpz_lt hlt
        have HLT := Lib.hid hlt
        clear hkc hlt
        obtain ⟨l_n, a_n, b_n, -, -⟩ := V_n.out.pair.facts
        obtain ⟨l_r, a_r, b_r, -, -⟩ := V_r.out.pair.facts
        go_wp2_with fail
        refine (ecmp n r (-1) A5 A1 c5 c1 y5 V_n.out.raw V_r.out.raw (by omega) (by omega) HKC.out).mono ?_
        rintro e x6 ⟨rfl, hb⟩
        clear l_n a_n b_n l_r a_r b_r
        have V_x := Lib.hid (V_x.out.below hb)
        have V_r := Lib.hid (V_r.out.below hb)
        have V_n := Lib.hid (V_n.out.below hb)
        have O_r := Lib.hid (O_r.out.below hb)
        have O_n := Lib.hid (O_n.out.below hb)
        have HBW := Lib.hid (belowTo HBW.out hb)
        clear hb
        obtain ⟨l_n, a_n, b_n, -, -⟩ := V_n.out.pair.facts
        obtain ⟨l_r, a_r, b_r, -, -⟩ := V_r.out.pair.facts
        have qr := V_r.out.pair.facts
        have HN := Lib.hid (show RootAt w ((x6.setCell ⟨br, 0, none⟩ (.bool (decide (n < 0)))).setCell ⟨br, 1, none⟩ (.slice A5 (natL n.natAbs).length c5)) w.heap.size br x A c n A5 c5 from
          ⟨V_x.out.pair.far (by omega) _ _, V_r.out.pair.store _ _, O_n.out.pairT V_r.out.pair _ _, below2 HBW.out (by omega) _ _, HPOS.out.2, HST.out.2.2.1, Nat.le_trans (lz_mono (by have := HLT.out; have := HPOS.out; omega)) hlr⟩)
        have HM := Lib.hid (show n.toNat < r.toNat by have := HLT.out; have := HPOS.out; omega)
        go_wp2_with fail
        go_roundg (n.toNat)
        case measure => rw [HGK.out]; exact HM.out
        case rel => exact Lib.hid ⟨n, A5, c5, rfl, HN.out⟩
      · skip
        have hkc0 : decide (0 ≤ kc) = true := decide_eq_true (by rw [hkc]; unfold cmpz; rw [if_neg hlt]; split <;> omega)
        have HRR := Lib.hid (show r = rr from rootZ_one (Int.le_of_lt HX.out) ⟨Int.le_of_lt HPOS.out.1, HST.out.2.2.2 (by omega), HAB.out⟩ HR.out)
        clear hkc hlt
        obtain ⟨l_n, a_n, b_n, -, -⟩ := V_n.out.pair.facts
        obtain ⟨l_r, a_r, b_r, -, -⟩ := V_r.out.pair.facts
        go_wp2_with fail
        refine (ecmp n r kc A5 A1 c5 c1 y5 V_n.out.raw V_r.out.raw (by omega) (by omega) HKC.out).mono ?_
        rintro e x6 ⟨rfl, hb⟩
        clear l_n a_n b_n l_r a_r b_r
        have V_x := Lib.hid (V_x.out.below hb)
        have V_r := Lib.hid (V_r.out.below hb)
        have V_n := Lib.hid (V_n.out.below hb)
        have O_r := Lib.hid (O_r.out.below hb)
        have O_n := Lib.hid (O_n.out.below hb)
        have HBW := Lib.hid (belowTo HBW.out hb)
        clear hb
        clear V_n
        go_upto_region 7 with fail
        obtain ⟨pp, hpp⟩ : ∃ k : Int, k = r * r := ⟨_, rfl⟩
        obtain ⟨k2, hk2⟩ : ∃ k : Int, k = cmpz pp x := ⟨_, rfl⟩
        obtain rfl : k2 = -1 := by rw [hk2, hpp, HRR.out]; exact cmpz_lt (by have := HR.out.2.1; have := HQ.out; omega)
        have hlp : lz pp ≤ 200000 := by have := lz_mul r r; rw [← hpp] at this; omega
        have HK2 := Lib.hid hk2
        have HPP := Lib.hid hpp
        clear hk2 hpp hkc0
        obtain ⟨W0, hW⟩ : ∃ W0, W0 = x6 := ⟨_, rfl⟩
        rw [← hW] at HBW O_r O_n V_x V_r  ⊢
        clear hW
        refine wp_region_free [.val (.agg #[.bool (decide (r < 0)), .slice A1 (natL r.natAbs).length c1]) [], .val (.agg #[.bool (decide (r < 0)), .slice A1 (natL r.natAbs).length c1]) [], .val (.agg #[.bool (decide (r < 0)), .slice A1 (natL r.natAbs).length c1]) [], .any false (fun u0 V => IntAt V u0 pp) [], .val (.agg #[.bool (decide (x < 0)), .slice A (natL x.natAbs).length c]) [], .val (.int .i64 (-1)) [3], .val (.bool false) [], .val undef [], .val (.bool false) []] W0.heap.size W0 [] (fun _ _ => False) _ mixedOrders2 (Nat.le_refl _) (Below.refl _ _) (KeptV.refl _ _ _) rfl (by kernel_rfl) (by kernel_rfl) (by kernel_rfl) (by kernel_rfl) (by kernel_rfl) (by kernel_rfl) (by kernel_rfl) (by kernel_rfl) rfl (by simp [oldsF]) ?_ ?_ ?_ ?_
        · simp only [StableF, and_true]
          exact fun u0 V V' h k => h.keptNone k
        · simp only [OldsF]
        · simp (maxSteps := 4000000) [StepsF, DepF, freeAct, fill, pairs]
          repeat' (first | apply And.intro | (intro (u0 : Value)))
          all_goals first
          | (intro V hV hK
             obtain ⟨-, a_x, b_x, -, -⟩ := (V_x.out.below hV).pair.facts
             have r_x := Lib.hid (V_x.out.below hV).raw
             obtain ⟨-, a_r, b_r, -, -⟩ := (V_r.out.below hV).pair.facts
             have r_r := Lib.hid (V_r.out.below hV).raw
             have p9 := (V_r.out.below hV).pair
             obtain ⟨l9, -, -, f9, g9⟩ := p9.facts
             have hset := set_same2 p9
             clear p9
             clear hV hK
             go_simp
             first
             | exact Below.refl _ _
             | exact ⟨by first | rfl | decide | go_num, Below.refl _ _⟩
             | ((with_reducible refine (etimes r r pp A1 A1 c1 c1 V r_r.out r_r.out (by omega) (by omega) HPP.out).mono ?_); rintro e w' ⟨v, rfl, hv, hb⟩; exact ⟨hv.at_, hb⟩))
          | (intro V hV hK hu
             obtain ⟨A', c', rfl, hr⟩ := hu.form
             have r_x := Lib.hid (V_x.out.below hV).raw
             have r' := Lib.hid hr
             clear hV hK hu hr
             go_simp
             (with_reducible refine (ecmp pp x (-1) A' A c' c V r'.out r_x.out (by omega) (by omega) HK2.out).mono ?_)
             rintro e w' ⟨rfl, hb⟩
             exact ⟨rfl, hb⟩)
        · simp [EndF, FactsF, freeAct, fill, pairs]
          intro u1 V hV hK _ _ _ _
          have V_x := Lib.hid (V_x.out.below hV)
          have V_r := Lib.hid (V_r.out.below hV)
          have O_r := Lib.hid (O_r.out.below hV)
          have O_n := Lib.hid (O_n.out.below hV)
          have HBW := Lib.hid (belowTo HBW.out hV)
          clear hV hK
          obtain ⟨v7, hV0⟩ : ∃ Y, Y = V := ⟨_, rfl⟩
          rw [← hV0] at HBW O_r O_n V_x V_r  ⊢
          clear hV0
          obtain ⟨l_r, a_r, b_r, -, -⟩ := V_r.out.pair.facts
          go_wp2_with fail
          exact bodyPost_ret (by simp [results, Tryz.results93, go_sem, a_r, b_r]) rfl ⟨.agg #[.bool (decide (r < 0)), .slice A1 (natL r.natAbs).length c1], rfl, by rw [← HRR.out]; exact O_r.out, HBW.out⟩
end Go.Proofs.YtpcdiijmhllejaaGreatDoor

/- Root of the references: Newton's steps from above. (Written by wip/exact/genroot.py.) -/
namespace Go.Proofs.YtpcdiijmhllejaaGreatDoor
open Go.RowKit

set_option maxRecDepth 100000 in
set_option maxHeartbeats 2000000 in
theorem ref_Root_nought (x : Int) (A : Option Addr) (c : Nat) (w : World) (h_x : Raw w A c (natL x.natAbs)) (hx0 : x = 0) :
    Calls Tryz.prog 98 #[.agg #[.bool (decide (x < 0)), .slice A (natL x.natAbs).length c]] w (RetRoot w.heap.size w 0 true) := by
  have HX := Lib.hid hx0
  clear hx0
  have b0 := (((Below.refl w.heap.size w).alloc (Nat.le_refl _) (.cells #[.bool (decide (x < 0)), .slice A (natL x.natAbs).length c] 24)).alloc (by simp) (.cells #[.bool false, .slice none 0 0] 24))
  have p0 := (Pair.new w 24 (.bool (decide (x < 0))) (.slice A (natL x.natAbs).length c)).alloc (.cells #[.bool false, .slice none 0 0] 24)
  have p1 := Pair.new (w.alloc (.cells #[.bool (decide (x < 0)), .slice A (natL x.natAbs).length c] 24)) 24 (.bool false) (.slice none 0 0)
  simp only [World.size_alloc] at p1
  have V_x := Lib.hid (NV.of h_x b0 p0)
  have P_r0 := Lib.hid p1
  have RW_x := Lib.hid h_x
  have HBW := Lib.hid b0
  clear b0 p0 p1 h_x
  go_enter Tryz.func98, Tryz.ntmps98
  obtain ⟨W, E⟩ : ∃ W, W = ((w.alloc (.cells #[.bool (decide (x < 0)), .slice A (natL x.natAbs).length c] 24)).alloc (.cells #[.bool false, .slice none 0 0] 24)) := ⟨_, rfl⟩
  go_upto_region 1 with fail
  rw [← E] at V_x P_r0 HBW ⊢
  clear E
  have h1 := nought_len HX.out
  obtain ⟨l_x, a_x, b_x, -, -⟩ := V_x.out.pair.facts
  obtain ⟨l_r0, a_r0, b_r0, f_r0, g_r0⟩ := P_r0.out.facts
  have HQ := Lib.hid (P_r0.out.store (.bool false) (.slice none 0 0))
  have HB := Lib.hid (below2 HBW.out (show w.heap.size ≤ w.heap.size + 1 by omega) (.bool false) (.slice none 0 0))
  have hq0 := HQ.out.facts
  go_wp2_with fail
  obtain ⟨_, k0, k1, _, _⟩ := HQ.out.facts
  exact bodyPost_ret (by simp [results, Tryz.results98, go_sem, k0, k1]) rfl ⟨.agg #[.bool false, .slice none 0 0], rfl, IntOwn.nought _ _, HB.out⟩

set_option maxRecDepth 100000 in
set_option maxHeartbeats 8000000 in
theorem ref_Root_same (x rr : Int) (A : Option Addr) (c : Nat) (w : World) (h_x : Raw w A c (natL x.natAbs)) (hx : lz x ≤ 60000) (hx0 : 0 < x) (hr : IsRootZ x rr) (hq : rr * rr = x) :
    Calls Tryz.prog 98 #[.agg #[.bool (decide (x < 0)), .slice A (natL x.natAbs).length c]] w (RetRoot w.heap.size w rr true) := by
  obtain ⟨k0, hk0⟩ : ∃ k : Nat, k = (bitsI (natL x.natAbs) + 1) / 2 := ⟨_, rfl⟩
  obtain ⟨kb, hkb⟩ : ∃ k : Int, k = ((bitsI (natL x.natAbs) : Nat) : Int) := ⟨_, rfl⟩
  obtain ⟨one, hone⟩ : ∃ k : Int, k = 1 := ⟨_, rfl⟩
  obtain ⟨r0, hr0⟩ : ∃ k : Int, k = ((2 ^ k0 : Nat) : Int) := ⟨_, rfl⟩
  have hbt := bits_two hx (by omega)
  have hs0 := root_startZ hx0 hk0
  rw [← hr0] at hs0
  have hl0 := lz_two k0
  rw [← hr0] at hl0
  have hp0 : 0 < r0 := by rw [hr0]; have := Nat.two_pow_pos k0; omega
  have HS0 := Lib.hid (show 0 < r0 ∧ x < (r0 + 1) * (r0 + 1) ∧ lz r0 ≤ 100000 from ⟨hp0, hs0, by omega⟩)
  have hkk : (kb + 1) / 2 = (k0 : Int) := by omega
  have hkb2 : kb ≤ 3200000 := by omega
  have hkt : (kb + 1).tdiv 2 = (k0 : Int) := by rw [Int.tdiv_eq_ediv_of_nonneg (by omega)]; exact hkk
  have hkb1 : 1 ≤ kb := by omega
  have C1 := Lib.hid (fun (V : World) => rof 1 one hone (by decide) (by decide) V)
  have C2 := Lib.hid (fun (V : World) (a : Raw V A c (natL x.natAbs)) => rbits x kb A c V a (by omega) hkb)
  have C3 := Lib.hid (fun (V : World) (A1 : Option Addr) (c1 : Nat) (a : Raw V A1 c1 (natL one.natAbs)) => rdouble one r0 (k0 : Int) A1 c1 V a (by rw [hone]; decide) (by omega) (by omega) (by omega) (by rw [hone, hr0, Int.toNat_natCast, Int.one_mul]))
  have HX := Lib.hid hx0
  have HLX := Lib.hid hx
  have HR := Lib.hid hr
  have HQ := Lib.hid hq
  clear hx hx0 hr hq hk0 hkb hone hr0 hbt hs0 hl0 hp0
  have b0 := (((Below.refl w.heap.size w).alloc (Nat.le_refl _) (.cells #[.bool (decide (x < 0)), .slice A (natL x.natAbs).length c] 24)).alloc (by simp) (.cells #[.bool false, .slice none 0 0] 24))
  have p0 := (Pair.new w 24 (.bool (decide (x < 0))) (.slice A (natL x.natAbs).length c)).alloc (.cells #[.bool false, .slice none 0 0] 24)
  have p1 := Pair.new (w.alloc (.cells #[.bool (decide (x < 0)), .slice A (natL x.natAbs).length c] 24)) 24 (.bool false) (.slice none 0 0)
  simp only [World.size_alloc] at p1
  have V_x := Lib.hid (NV.of h_x b0 p0)
  have P_r0 := Lib.hid p1
  have RW_x := Lib.hid h_x
  have HBW := Lib.hid b0
  clear b0 p0 p1 h_x
  go_enter Tryz.func98, Tryz.ntmps98
  obtain ⟨W, E⟩ : ∃ W, W = ((w.alloc (.cells #[.bool (decide (x < 0)), .slice A (natL x.natAbs).length c] 24)).alloc (.cells #[.bool false, .slice none 0 0] 24)) := ⟨_, rfl⟩
  go_upto_region 1 with fail
  rw [← E] at V_x P_r0 HBW ⊢
  clear E
  have h1 := more_len (show x ≠ 0 by have := HX.out; omega)
  have hszW := P_r0.out.blk.lt
  obtain ⟨l_x, a_x, b_x, -, -⟩ := V_x.out.pair.facts
  go_upto_region 3 with fail
  clear h1
  clear l_x a_x b_x
  refine wp_region_free [.any false (fun u V => IntOwn V w.heap.size u one) [], .val (.agg #[.bool (decide (x < 0)), .slice A (natL x.natAbs).length c]) [], .val (.int .i64 kb) [], .val (.int .i64 (kb + 1)) [], .val (.int .i64 (k0 : Int)) [], .any false (fun u V => IntOwn V w.heap.size u r0) [0], .new 24 2, .put 24 2 6 5 []] W.heap.size W [24] (fun _ _ => False) _ mixedOrders2 (by omega) (Below.refl _ _) (KeptV.refl _ _ _) rfl (by kernel_rfl) (by kernel_rfl) (by kernel_rfl) (by kernel_rfl) (by kernel_rfl) (by kernel_rfl) (by kernel_rfl) (by kernel_rfl) rfl (by simp [oldsF]) ?_ ?_ ?_ ?_
  · simp only [StableF, and_true]
    exact ⟨fun u V V' h k => h.kept k (by decide), fun u V V' h k => h.kept k (by decide)⟩
  · simp only [OldsF]
  · simp (maxSteps := 4000000) [StepsF, DepF, freeAct, fill, pairs]
    repeat' (first | apply And.intro | (intro (u : Value)) | (intro (u : Nat)))
    all_goals try exact ⟨_, _, _, rfl, rfl, rfl, rfl, intInfo⟩
    all_goals try exact allocInt rfl
    all_goals first
    | (intro V hV hK
       have nx := (V_x.out.below hV)
       obtain ⟨-, a_x, b_x, -, -⟩ := nx.pair.facts
       have r_x := Lib.hid nx.raw
       have hsK := hK.size
       clear hV hK nx
       go_simp
       first
       | exact Below.refl _ _
       | exact ⟨by first | rfl | exact hkt | decide | go_num | (rw [IntKind.wrap_i64]; omega), Below.refl _ _⟩
       | ((with_reducible refine (C1.out V).mono ?_); rintro e w' ⟨v, rfl, hv, hb⟩; exact ⟨hv.base (by omega), hb⟩)
       | ((with_reducible refine (C2.out V r_x.out).mono ?_); rintro e w' ⟨rfl, hb⟩; exact ⟨rfl, hb⟩))
    | (intro V hV hK hu
       obtain ⟨A', c', rfl, hr⟩ := hu.raw
       have r2 := Lib.hid hr
       have hsK := hK.size
       clear hV hK hu hr
       go_simp
       (with_reducible refine (C3.out V A' c' r2.out).mono ?_)
       rintro e w' ⟨v, rfl, hv, hb⟩
       exact ⟨hv.base (by omega), hb⟩)
    | exact fun _ _ _ (h : IntOwn _ _ _ _) => h.cells
    | (intro V hV hK; clear hV hK; go_simp; trace_state; sorry)
  · simp [EndF, FactsF, freeAct, fill, pairs]
    intro u1 u2 br hbr V hV hK h1 h2 bq _ _ _
    obtain ⟨A1, c1, rfl, q1⟩ := h2.raw
    have HR0 := Lib.hid (show RootAt w V w.heap.size br x A c r0 A1 c1 from ⟨(V_x.out.below hV).pair, ⟨bq⟩, h2, belowTo HBW.out hV, HS0.out.1, HS0.out.2.1, HS0.out.2.2⟩)
    have HPR := Lib.hid (P_r0.out.below hV)
    have hszr : w.heap.size + 1 < br := by omega
    clear h1 h2 bq q1 hV hK C1 C2 C3 HS0 V_x P_r0 hkk hkt hkb1 hkb2 HBW
    go_wp2_with fail
    go_loopg [] (r0.toNat) (fun k wr => Hid (∃ r A1 c1, k = r.toNat ∧ RootAt w wr w.heap.size br x A c r A1 c1 ∧ Pair wr (w.heap.size + 1) 24 (.bool false) (.slice none 0 0)))
    case atStart => exact Lib.hid ⟨r0, A1, c1, rfl, HR0.out, HPR.out⟩
    case round =>
      clear HR0 HPR
      obtain ⟨r, A1, c1, HGK, hra, hpr⟩ := hrel.out
      have HRA := Lib.hid hra
      have HGK := Lib.hid HGK
      clear hrel hra
      have O_r := Lib.hid HRA.out.own
      have HBW := Lib.hid HRA.out.low
      have HAB := Lib.hid HRA.out.above
      have V_x := Lib.hid (show NV wr w.heap.size x A c from ⟨HRA.out.px, RW_x.out.below HRA.out.low⟩)
      have V_r := Lib.hid (show NV wr br r A1 c1 from ⟨HRA.out.pr, HRA.out.own.rawAt⟩)
      obtain ⟨q, hq⟩ : ∃ q : Int, q = x.tdiv r := ⟨_, rfl⟩
      obtain ⟨m, hm⟩ : ∃ m : Int, m = x.tmod r := ⟨_, rfl⟩
      obtain ⟨s, hs⟩ : ∃ s : Int, s = r + q := ⟨_, rfl⟩
      obtain ⟨n, hn⟩ : ∃ n : Int, n = s / ((2 ^ (1 : Int).toNat : Nat) : Int) := ⟨_, rfl⟩
      have hst := root_stepZ HX.out HRA.out.pos hq (hs ▸ hn)
      have hlr := HRA.out.len
      have hlx : lz x ≤ 100000 := Nat.le_trans HLX.out (by decide)
      have hlq : lz q ≤ 100000 := Nat.le_trans (lz_mono (y := x) (by rw [hq, Int.natAbs_tdiv]; exact Nat.div_le_self _ _)) hlx
      have hls : lz s ≤ 100001 := by have := lz_add r q; rw [← hs] at this; omega
      have hn2 : n = s / 2 := hn
      have hln : lz n ≤ 100001 := Nat.le_trans (lz_mono (show n.natAbs ≤ s.natAbs by omega)) hls
      have HST := Lib.hid hst
      have HQE := Lib.hid (And.intro hq hm)
      have HSE := Lib.hid hs
      have HNE := Lib.hid hn
      have hpos := HRA.out.pos
      have HRX := Lib.hid (show r ≠ 0 by omega)
      have HPOS := Lib.hid (show 0 < r ∧ 0 < n from ⟨hpos, hst.2.1⟩)
      have hsz1 := V_r.out.pair.blk.lt
      clear hq hm hs hn hn2 hst hpos HRA
      have HPR := Lib.hid hpr
      clear hpr
      obtain ⟨l_x, a_x, b_x, -, -⟩ := V_x.out.pair.facts
      obtain ⟨l_r, a_r, b_r, -, -⟩ := V_r.out.pair.facts
      go_wp2_with fail
      refine (rdivide x r q m A A1 c c1 wr V_x.out.raw V_r.out.raw (by omega) (by omega) HRX.out HQE.out.1 HQE.out.2).mono ?_
      rintro e x1 ⟨v1, v2, rfl, hI1, hI2, hb⟩
      obtain ⟨A2, c2, rfl, rq⟩ := hI1.raw
      obtain ⟨A3, c3, rfl, rm⟩ := hI2.raw
      clear l_x a_x b_x l_r a_r b_r
      have V_x := Lib.hid (V_x.out.below hb)
      have V_r := Lib.hid (V_r.out.below hb)
      have O_r := Lib.hid (O_r.out.below hb)
      have HPR := Lib.hid (HPR.out.below hb)
      have HBW := Lib.hid (belowTo HBW.out hb)
      have R_q := Lib.hid rq
      have R_m := Lib.hid rm
      clear hb rq rm hI1 hI2
      go_upto_region 5 with fail
      have ha := (((Below.refl x1.heap.size x1).alloc (Nat.le_refl _) (.cells #[.bool (decide (q < 0)), .slice A2 (natL q.natAbs).length c2] 24)).alloc (by simp) (.cells #[.bool (decide (m < 0)), .slice A3 (natL m.natAbs).length c3] 24))
      have p_q := ((Pair.new x1 24 (.bool (decide (q < 0))) (.slice A2 (natL q.natAbs).length c2)).alloc (.cells #[.bool (decide (m < 0)), .slice A3 (natL m.natAbs).length c3] 24))
      have p_m := (Pair.new (x1.alloc (.cells #[.bool (decide (q < 0)), .slice A2 (natL q.natAbs).length c2] 24)) 24 (.bool (decide (m < 0))) (.slice A3 (natL m.natAbs).length c3))
      simp only [World.size_alloc] at p_m
      obtain ⟨y2, E⟩ : ∃ W, W = ((x1.alloc (.cells #[.bool (decide (q < 0)), .slice A2 (natL q.natAbs).length c2] 24)).alloc (.cells #[.bool (decide (m < 0)), .slice A3 (natL m.natAbs).length c3] 24)) := ⟨_, rfl⟩
      rw [← E] at ha p_q p_m ⊢
      have V_q := Lib.hid (NV.of R_q.out ha p_q)
      have V_m := Lib.hid (NV.of R_m.out ha p_m)
      have V_x := Lib.hid (V_x.out.below ha)
      have V_r := Lib.hid (V_r.out.below ha)
      have O_r := Lib.hid (O_r.out.below ha)
      have HPR := Lib.hid (HPR.out.below ha)
      have HBW := Lib.hid (belowTo HBW.out ha)
      obtain ⟨g2, hg⟩ : ∃ g, g = x1.heap.size := ⟨_, rfl⟩
      rw [← hg] at V_q V_m ⊢
      clear E ha hg p_q p_m
      clear V_m
      obtain ⟨l_r, a_r, b_r, -, -⟩ := V_r.out.pair.facts
      obtain ⟨l_q, a_q, b_q, -, -⟩ := V_q.out.pair.facts
      go_wp2_with fail
      refine (rplus r q s A1 A2 c1 c2 y2 V_r.out.raw V_q.out.raw (by omega) (by omega) HSE.out).mono ?_
      rintro e x3 ⟨v4, rfl, hI4, hb⟩
      obtain ⟨A4, c4, rfl, r4⟩ := hI4.raw
      clear hI4
      clear l_r a_r b_r l_q a_q b_q
      have V_x := Lib.hid (V_x.out.below hb)
      have V_r := Lib.hid (V_r.out.below hb)
      have V_q := Lib.hid (V_q.out.below hb)
      have O_r := Lib.hid (O_r.out.below hb)
      have HPR := Lib.hid (HPR.out.below hb)
      have HBW := Lib.hid (belowTo HBW.out hb)
      have R_s := Lib.hid r4
      clear hb r4
      clear V_q
      have hfd : ∀ V : World, (Instr.field 24 (.agg #[.bool (decide (s < 0)), .slice A4 (natL s.natAbs).length c4]) 1).run Tryz.prog V = .ok (.slice A4 (natL s.natAbs).length c4) V := fun V => by kernel_rfl
      have hsn : n = (((val (natL s.natAbs)) / 2 : Nat) : Int) := by have h1 := HPOS.out.1; have h2 := HST.out.1; have h3 := HSE.out; have h4 := HNE.out; rw [val_natL, h4, show (1 : Int).toNat = 1 by rfl, Nat.pow_one]; omega
      have HSN := Lib.hid hsn
      clear hsn
      go_wp2_with fail
      clear hfd
      refine (ref_half A4 c4 (natL s.natAbs) (by unfold lz at hls; omega) x3 R_s.out).mono ?_
      rintro e wh ⟨v4, rfl, hv4, hb⟩
      have hlow : w.heap.size ≤ x3.heap.size := HBW.out.size
      have V_x := Lib.hid (V_x.out.below hb)
      have V_r := Lib.hid (V_r.out.below hb)
      have R_s := Lib.hid (R_s.out.below hb)
      have O_r := Lib.hid (O_r.out.below hb)
      have HPR := Lib.hid (HPR.out.below hb)
      have HBW := Lib.hid (belowTo HBW.out hb)
      have O_4 := Lib.hid hv4
      clear hb hv4
      go_wp2_with fail
      refine (ref_signed_own false v4 _ _ _ wh (O_4.out.ownL (Nat.le_refl _))).mono ?_
      rintro e x4 ⟨v5, rfl, hI5, hb⟩
      rw [if_neg (show ¬ (false = true) by decide), ← HSN.out] at hI5
      obtain ⟨A5, c5, rfl, r5⟩ := hI5.raw
      clear O_4
      have V_x := Lib.hid (V_x.out.below hb)
      have V_r := Lib.hid (V_r.out.below hb)
      have R_s := Lib.hid (R_s.out.below hb)
      have O_r := Lib.hid (O_r.out.below hb)
      have HPR := Lib.hid (HPR.out.below hb)
      have HBW := Lib.hid (belowTo HBW.out hb)
      have R_n := Lib.hid r5
      have O_n := Lib.hid (hI5.base hlow)
      clear hb r5 hI5 R_s hlow
      go_upto_region 6 with fail
      have ha := ((Below.refl x4.heap.size x4).alloc (Nat.le_refl _) (.cells #[.bool (decide (n < 0)), .slice A5 (natL n.natAbs).length c5] 24))
      have p_n := (Pair.new x4 24 (.bool (decide (n < 0))) (.slice A5 (natL n.natAbs).length c5))
      obtain ⟨y5, E⟩ : ∃ W, W = (x4.alloc (.cells #[.bool (decide (n < 0)), .slice A5 (natL n.natAbs).length c5] 24)) := ⟨_, rfl⟩
      rw [← E] at ha p_n ⊢
      have V_n := Lib.hid (NV.of R_n.out ha p_n)
      have V_x := Lib.hid (V_x.out.below ha)
      have V_r := Lib.hid (V_r.out.below ha)
      have O_r := Lib.hid (O_r.out.below ha)
      have HPR := Lib.hid (HPR.out.below ha)
      have O_n := Lib.hid (O_n.out.below ha)
      have HBW := Lib.hid (belowTo HBW.out ha)
      obtain ⟨g5, hg⟩ : ∃ g, g = x4.heap.size := ⟨_, rfl⟩
      rw [← hg] at V_n ⊢
      clear E ha hg p_n
      obtain ⟨kc, hkc⟩ : ∃ k : Int, k = cmpz n r := ⟨_, rfl⟩
      have HKC := Lib.hid hkc
      by_cases hlt : n < r
      · skip
        obtain rfl : kc = -1 := by rw [hkc]; exact cmpz_lt hlt
        have HLT := Lib.hid hlt
        clear hkc hlt
        obtain ⟨l_n, a_n, b_n, -, -⟩ := V_n.out.pair.facts
        obtain ⟨l_r, a_r, b_r, -, -⟩ := V_r.out.pair.facts
        go_wp2_with fail
        refine (rcmp n r (-1) A5 A1 c5 c1 y5 V_n.out.raw V_r.out.raw (by omega) (by omega) HKC.out).mono ?_
        rintro e x6 ⟨rfl, hb⟩
        clear l_n a_n b_n l_r a_r b_r
        have V_x := Lib.hid (V_x.out.below hb)
        have V_r := Lib.hid (V_r.out.below hb)
        have V_n := Lib.hid (V_n.out.below hb)
        have O_r := Lib.hid (O_r.out.below hb)
        have HPR := Lib.hid (HPR.out.below hb)
        have O_n := Lib.hid (O_n.out.below hb)
        have HBW := Lib.hid (belowTo HBW.out hb)
        clear hb
        obtain ⟨l_n, a_n, b_n, -, -⟩ := V_n.out.pair.facts
        obtain ⟨l_r, a_r, b_r, -, -⟩ := V_r.out.pair.facts
        have qr := V_r.out.pair.facts
        have HN := Lib.hid (show RootAt w ((x6.setCell ⟨br, 0, none⟩ (.bool (decide (n < 0)))).setCell ⟨br, 1, none⟩ (.slice A5 (natL n.natAbs).length c5)) w.heap.size br x A c n A5 c5 from
          ⟨V_x.out.pair.far (by omega) _ _, V_r.out.pair.store _ _, O_n.out.pairT V_r.out.pair _ _, below2 HBW.out (by omega) _ _, HPOS.out.2, HST.out.2.2.1, Nat.le_trans (lz_mono (by have := HLT.out; have := HPOS.out; omega)) hlr⟩)
        have HPN := Lib.hid (HPR.out.far (show w.heap.size + 1 ≠ br by omega) (.bool (decide (n < 0))) (.slice A5 (natL n.natAbs).length c5))
        have HM := Lib.hid (show n.toNat < r.toNat by have := HLT.out; have := HPOS.out; omega)
        go_wp2_with fail
        go_roundg (n.toNat)
        case measure => rw [HGK.out]; exact HM.out
        case rel => exact Lib.hid ⟨n, A5, c5, rfl, HN.out, HPN.out⟩
      · skip
        have hkc0 : decide (0 ≤ kc) = true := decide_eq_true (by rw [hkc]; unfold cmpz; rw [if_neg hlt]; split <;> omega)
        have HRR := Lib.hid (show r = rr from rootZ_one (Int.le_of_lt HX.out) ⟨Int.le_of_lt HPOS.out.1, HST.out.2.2.2 (by omega), HAB.out⟩ HR.out)
        clear hkc hlt
        obtain ⟨l_n, a_n, b_n, -, -⟩ := V_n.out.pair.facts
        obtain ⟨l_r, a_r, b_r, -, -⟩ := V_r.out.pair.facts
        go_wp2_with fail
        refine (rcmp n r kc A5 A1 c5 c1 y5 V_n.out.raw V_r.out.raw (by omega) (by omega) HKC.out).mono ?_
        rintro e x6 ⟨rfl, hb⟩
        clear l_n a_n b_n l_r a_r b_r
        have V_x := Lib.hid (V_x.out.below hb)
        have V_r := Lib.hid (V_r.out.below hb)
        have V_n := Lib.hid (V_n.out.below hb)
        have O_r := Lib.hid (O_r.out.below hb)
        have HPR := Lib.hid (HPR.out.below hb)
        have O_n := Lib.hid (O_n.out.below hb)
        have HBW := Lib.hid (belowTo HBW.out hb)
        clear hb
        clear V_n
        go_upto_region 7 with fail
        obtain ⟨pp, hpp⟩ : ∃ k : Int, k = r * r := ⟨_, rfl⟩
        obtain ⟨k2, hk2⟩ : ∃ k : Int, k = cmpz pp x := ⟨_, rfl⟩
        obtain rfl : k2 = 0 := by rw [hk2, hpp, HRR.out, HQ.out]; unfold cmpz; simp
        have hlp : lz pp ≤ 200000 := by have := lz_mul r r; rw [← hpp] at this; omega
        have HK2 := Lib.hid hk2
        have HPP := Lib.hid hpp
        clear hk2 hpp hkc0
        have hbrl := V_r.out.pair.blk.lt
        refine wp_region_free [.val (.agg #[.bool (decide (r < 0)), .slice A1 (natL r.natAbs).length c1]) [999], .val (.agg #[.bool (decide (r < 0)), .slice A1 (natL r.natAbs).length c1]) [999], .val (.agg #[.bool (decide (r < 0)), .slice A1 (natL r.natAbs).length c1]) [999], .any false (fun u V => IntOwn V 0 u pp) [999], .val (.agg #[.bool (decide (x < 0)), .slice A (natL x.natAbs).length c]) [999], .val (.int .i64 (0)) [3, 999], .val (.bool true) [], .old (w.heap.size + 1) 24 #[.bool false, .slice none 0 0] 0 2 0 [], .val (.bool true) []] (w.heap.size + 1) x6 [24] (fun _ _ => False) _ mixedOrders2 (by omega) (Below.refl _ _) (KeptV.refl _ _ _) rfl (by kernel_rfl) (by kernel_rfl) (by kernel_rfl) (by kernel_rfl) (by kernel_rfl) (by kernel_rfl) (by kernel_rfl) (by kernel_rfl) rfl (by simp [oldsF]) ?_ ?_ ?_ ?_
        · simp only [StableF, and_true]
          exact fun u V V' h k => h.kept k (by decide)
        · simp only [OldsF, and_true]
          exact ⟨Nat.le_refl _, by omega, HPR.out.blk, by simp⟩
        · simp (maxSteps := 4000000) [StepsF, DepF, oldsF, freeAct, fill, pairs]
          repeat' (first | apply And.intro | (intro (u : Value)) | (intro (u : Nat)))
          all_goals try exact ⟨_, _, _, rfl, rfl, rfl, rfl, intInfo⟩
          all_goals first
          | exact fun _ _ _ => ⟨rfl, by simp [Value.cells, Value.oneCell']⟩
          | (intro V hV hK ho
             have pr9 : Pair V br 24 (.bool (decide (r < 0))) (.slice A1 (natL r.natAbs).length c1) := ⟨(ho br hbrl (by omega)).trans V_r.out.pair.blk⟩
             obtain ⟨-, a_r, b_r, -, -⟩ := pr9.facts
             have px9 : Pair V w.heap.size 24 (.bool (decide (x < 0))) (.slice A (natL x.natAbs).length c) := ⟨V_x.out.pair.blk.below hV (Nat.lt_succ_self _)⟩
             obtain ⟨-, a_x, b_x, -, -⟩ := px9.facts
             have r_r := Lib.hid (O_r.out.kept hK (by decide)).rawAt
             have r_x := Lib.hid (RW_x.out.below (HBW.out.trans (hV.mono (by omega))))
             clear hV hK ho pr9 px9
             go_simp
             first
             | exact Below.refl _ _
             | ((with_reducible refine (rtimes r r pp A1 A1 c1 c1 V r_r.out r_r.out (by omega) (by omega) HPP.out).mono ?_); rintro e w' ⟨v, rfl, hv, hb⟩; exact ⟨hv.base (Nat.zero_le _), hb⟩))
          | (intro V hV hK hu ho
             obtain ⟨A', c', rfl, hr⟩ := hu.raw
             have r' := Lib.hid hr
             have pr9 : Pair V br 24 (.bool (decide (r < 0))) (.slice A1 (natL r.natAbs).length c1) := ⟨(ho br hbrl (by omega)).trans V_r.out.pair.blk⟩
             obtain ⟨-, a_r, b_r, -, -⟩ := pr9.facts
             have px9 : Pair V w.heap.size 24 (.bool (decide (x < 0))) (.slice A (natL x.natAbs).length c) := ⟨V_x.out.pair.blk.below hV (Nat.lt_succ_self _)⟩
             obtain ⟨-, a_x, b_x, -, -⟩ := px9.facts
             have r_r := Lib.hid (O_r.out.kept hK (by decide)).rawAt
             have r_x := Lib.hid (RW_x.out.below (HBW.out.trans (hV.mono (by omega))))
             clear hV hK ho pr9 px9 hu hr
             go_simp
             (with_reducible refine (rcmp pp x (0) A' A c' c V r'.out r_x.out (by omega) (by omega) HK2.out).mono ?_)
             rintro e w' ⟨rfl, hb⟩
             exact ⟨rfl, hb⟩)
          | (intro V hV hK
             clear hV hK
             go_simp
             exact Below.refl _ _)
          | (trace_state; sorry)
        · simp [EndF, FactsF, freeAct, fill, pairs, setAll, Value.cells]
          intro u1 V hV hK h1 bq _ _ _
          have k0 := bq.cell 0
          have k1 := bq.cell 1
          simp at k0 k1
          have HO := Lib.hid (O_r.out.kept hK (by decide))
          have HB := Lib.hid (HBW.out.trans (hV.mono (by omega)))
          clear h1 hV hK
          go_wp2_with fail
          exact bodyPost_ret (by simp [results, Tryz.results98, go_sem, k0, k1]) rfl ⟨.agg #[.bool (decide (r < 0)), .slice A1 (natL r.natAbs).length c1], rfl, by rw [← HRR.out]; exact HO.out, HB.out⟩

set_option maxRecDepth 100000 in
set_option maxHeartbeats 8000000 in
theorem ref_Root_less (x rr : Int) (A : Option Addr) (c : Nat) (w : World) (h_x : Raw w A c (natL x.natAbs)) (hx : lz x ≤ 60000) (hx0 : 0 < x) (hr : IsRootZ x rr) (hq : rr * rr ≠ x) :
    Calls Tryz.prog 98 #[.agg #[.bool (decide (x < 0)), .slice A (natL x.natAbs).length c]] w (RetRoot w.heap.size w rr false) := by
  obtain ⟨k0, hk0⟩ : ∃ k : Nat, k = (bitsI (natL x.natAbs) + 1) / 2 := ⟨_, rfl⟩
  obtain ⟨kb, hkb⟩ : ∃ k : Int, k = ((bitsI (natL x.natAbs) : Nat) : Int) := ⟨_, rfl⟩
  obtain ⟨one, hone⟩ : ∃ k : Int, k = 1 := ⟨_, rfl⟩
  obtain ⟨r0, hr0⟩ : ∃ k : Int, k = ((2 ^ k0 : Nat) : Int) := ⟨_, rfl⟩
  have hbt := bits_two hx (by omega)
  have hs0 := root_startZ hx0 hk0
  rw [← hr0] at hs0
  have hl0 := lz_two k0
  rw [← hr0] at hl0
  have hp0 : 0 < r0 := by rw [hr0]; have := Nat.two_pow_pos k0; omega
  have HS0 := Lib.hid (show 0 < r0 ∧ x < (r0 + 1) * (r0 + 1) ∧ lz r0 ≤ 100000 from ⟨hp0, hs0, by omega⟩)
  have hkk : (kb + 1) / 2 = (k0 : Int) := by omega
  have hkb2 : kb ≤ 3200000 := by omega
  have hkt : (kb + 1).tdiv 2 = (k0 : Int) := by rw [Int.tdiv_eq_ediv_of_nonneg (by omega)]; exact hkk
  have hkb1 : 1 ≤ kb := by omega
  have C1 := Lib.hid (fun (V : World) => rof 1 one hone (by decide) (by decide) V)
  have C2 := Lib.hid (fun (V : World) (a : Raw V A c (natL x.natAbs)) => rbits x kb A c V a (by omega) hkb)
  have C3 := Lib.hid (fun (V : World) (A1 : Option Addr) (c1 : Nat) (a : Raw V A1 c1 (natL one.natAbs)) => rdouble one r0 (k0 : Int) A1 c1 V a (by rw [hone]; decide) (by omega) (by omega) (by omega) (by rw [hone, hr0, Int.toNat_natCast, Int.one_mul]))
  have HX := Lib.hid hx0
  have HLX := Lib.hid hx
  have HR := Lib.hid hr
  have HQ := Lib.hid hq
  clear hx hx0 hr hq hk0 hkb hone hr0 hbt hs0 hl0 hp0
  have b0 := (((Below.refl w.heap.size w).alloc (Nat.le_refl _) (.cells #[.bool (decide (x < 0)), .slice A (natL x.natAbs).length c] 24)).alloc (by simp) (.cells #[.bool false, .slice none 0 0] 24))
  have p0 := (Pair.new w 24 (.bool (decide (x < 0))) (.slice A (natL x.natAbs).length c)).alloc (.cells #[.bool false, .slice none 0 0] 24)
  have p1 := Pair.new (w.alloc (.cells #[.bool (decide (x < 0)), .slice A (natL x.natAbs).length c] 24)) 24 (.bool false) (.slice none 0 0)
  simp only [World.size_alloc] at p1
  have V_x := Lib.hid (NV.of h_x b0 p0)
  have P_r0 := Lib.hid p1
  have RW_x := Lib.hid h_x
  have HBW := Lib.hid b0
  clear b0 p0 p1 h_x
  go_enter Tryz.func98, Tryz.ntmps98
  obtain ⟨W, E⟩ : ∃ W, W = ((w.alloc (.cells #[.bool (decide (x < 0)), .slice A (natL x.natAbs).length c] 24)).alloc (.cells #[.bool false, .slice none 0 0] 24)) := ⟨_, rfl⟩
  go_upto_region 1 with fail
  rw [← E] at V_x P_r0 HBW ⊢
  clear E
  have h1 := more_len (show x ≠ 0 by have := HX.out; omega)
  have hszW := P_r0.out.blk.lt
  obtain ⟨l_x, a_x, b_x, -, -⟩ := V_x.out.pair.facts
  go_upto_region 3 with fail
  clear h1
  clear l_x a_x b_x
  refine wp_region_free [.any false (fun u V => IntOwn V w.heap.size u one) [], .val (.agg #[.bool (decide (x < 0)), .slice A (natL x.natAbs).length c]) [], .val (.int .i64 kb) [], .val (.int .i64 (kb + 1)) [], .val (.int .i64 (k0 : Int)) [], .any false (fun u V => IntOwn V w.heap.size u r0) [0], .new 24 2, .put 24 2 6 5 []] W.heap.size W [24] (fun _ _ => False) _ mixedOrders2 (by omega) (Below.refl _ _) (KeptV.refl _ _ _) rfl (by kernel_rfl) (by kernel_rfl) (by kernel_rfl) (by kernel_rfl) (by kernel_rfl) (by kernel_rfl) (by kernel_rfl) (by kernel_rfl) rfl (by simp [oldsF]) ?_ ?_ ?_ ?_
  · simp only [StableF, and_true]
    exact ⟨fun u V V' h k => h.kept k (by decide), fun u V V' h k => h.kept k (by decide)⟩
  · simp only [OldsF]
  · simp (maxSteps := 4000000) [StepsF, DepF, freeAct, fill, pairs]
    repeat' (first | apply And.intro | (intro (u : Value)) | (intro (u : Nat)))
    all_goals try exact ⟨_, _, _, rfl, rfl, rfl, rfl, intInfo⟩
    all_goals try exact allocInt rfl
    all_goals first
    | (intro V hV hK
       have nx := (V_x.out.below hV)
       obtain ⟨-, a_x, b_x, -, -⟩ := nx.pair.facts
       have r_x := Lib.hid nx.raw
       have hsK := hK.size
       clear hV hK nx
       go_simp
       first
       | exact Below.refl _ _
       | exact ⟨by first | rfl | exact hkt | decide | go_num | (rw [IntKind.wrap_i64]; omega), Below.refl _ _⟩
       | ((with_reducible refine (C1.out V).mono ?_); rintro e w' ⟨v, rfl, hv, hb⟩; exact ⟨hv.base (by omega), hb⟩)
       | ((with_reducible refine (C2.out V r_x.out).mono ?_); rintro e w' ⟨rfl, hb⟩; exact ⟨rfl, hb⟩))
    | (intro V hV hK hu
       obtain ⟨A', c', rfl, hr⟩ := hu.raw
       have r2 := Lib.hid hr
       have hsK := hK.size
       clear hV hK hu hr
       go_simp
       (with_reducible refine (C3.out V A' c' r2.out).mono ?_)
       rintro e w' ⟨v, rfl, hv, hb⟩
       exact ⟨hv.base (by omega), hb⟩)
    | exact fun _ _ _ (h : IntOwn _ _ _ _) => h.cells
    | (intro V hV hK; clear hV hK; go_simp; trace_state; sorry)
  · simp [EndF, FactsF, freeAct, fill, pairs]
    intro u1 u2 br hbr V hV hK h1 h2 bq _ _ _
    obtain ⟨A1, c1, rfl, q1⟩ := h2.raw
    have HR0 := Lib.hid (show RootAt w V w.heap.size br x A c r0 A1 c1 from ⟨(V_x.out.below hV).pair, ⟨bq⟩, h2, belowTo HBW.out hV, HS0.out.1, HS0.out.2.1, HS0.out.2.2⟩)
    have HPR := Lib.hid (P_r0.out.below hV)
    have hszr : w.heap.size + 1 < br := by omega
    clear h1 h2 bq q1 hV hK C1 C2 C3 HS0 V_x P_r0 hkk hkt hkb1 hkb2 HBW
    go_wp2_with fail
    go_loopg [] (r0.toNat) (fun k wr => Hid (∃ r A1 c1, k = r.toNat ∧ RootAt w wr w.heap.size br x A c r A1 c1 ∧ Pair wr (w.heap.size + 1) 24 (.bool false) (.slice none 0 0)))
    case atStart => exact Lib.hid ⟨r0, A1, c1, rfl, HR0.out, HPR.out⟩
    case round =>
      clear HR0 HPR
      obtain ⟨r, A1, c1, HGK, hra, hpr⟩ := hrel.out
      have HRA := Lib.hid hra
      have HGK := Lib.hid HGK
      clear hrel hra
      have O_r := Lib.hid HRA.out.own
      have HBW := Lib.hid HRA.out.low
      have HAB := Lib.hid HRA.out.above
      have V_x := Lib.hid (show NV wr w.heap.size x A c from ⟨HRA.out.px, RW_x.out.below HRA.out.low⟩)
      have V_r := Lib.hid (show NV wr br r A1 c1 from ⟨HRA.out.pr, HRA.out.own.rawAt⟩)
      obtain ⟨q, hq⟩ : ∃ q : Int, q = x.tdiv r := ⟨_, rfl⟩
      obtain ⟨m, hm⟩ : ∃ m : Int, m = x.tmod r := ⟨_, rfl⟩
      obtain ⟨s, hs⟩ : ∃ s : Int, s = r + q := ⟨_, rfl⟩
      obtain ⟨n, hn⟩ : ∃ n : Int, n = s / ((2 ^ (1 : Int).toNat : Nat) : Int) := ⟨_, rfl⟩
      have hst := root_stepZ HX.out HRA.out.pos hq (hs ▸ hn)
      have hlr := HRA.out.len
      have hlx : lz x ≤ 100000 := Nat.le_trans HLX.out (by decide)
      have hlq : lz q ≤ 100000 := Nat.le_trans (lz_mono (y := x) (by rw [hq, Int.natAbs_tdiv]; exact Nat.div_le_self _ _)) hlx
      have hls : lz s ≤ 100001 := by have := lz_add r q; rw [← hs] at this; omega
      have hn2 : n = s / 2 := hn
      have hln : lz n ≤ 100001 := Nat.le_trans (lz_mono (show n.natAbs ≤ s.natAbs by omega)) hls
      have HST := Lib.hid hst
      have HQE := Lib.hid (And.intro hq hm)
      have HSE := Lib.hid hs
      have HNE := Lib.hid hn
      have hpos := HRA.out.pos
      have HRX := Lib.hid (show r ≠ 0 by omega)
      have HPOS := Lib.hid (show 0 < r ∧ 0 < n from ⟨hpos, hst.2.1⟩)
      have hsz1 := V_r.out.pair.blk.lt
      clear hq hm hs hn hn2 hst hpos HRA
      have HPR := Lib.hid hpr
      clear hpr
      obtain ⟨l_x, a_x, b_x, -, -⟩ := V_x.out.pair.facts
      obtain ⟨l_r, a_r, b_r, -, -⟩ := V_r.out.pair.facts
      go_wp2_with fail
      refine (rdivide x r q m A A1 c c1 wr V_x.out.raw V_r.out.raw (by omega) (by omega) HRX.out HQE.out.1 HQE.out.2).mono ?_
      rintro e x1 ⟨v1, v2, rfl, hI1, hI2, hb⟩
      obtain ⟨A2, c2, rfl, rq⟩ := hI1.raw
      obtain ⟨A3, c3, rfl, rm⟩ := hI2.raw
      clear l_x a_x b_x l_r a_r b_r
      have V_x := Lib.hid (V_x.out.below hb)
      have V_r := Lib.hid (V_r.out.below hb)
      have O_r := Lib.hid (O_r.out.below hb)
      have HPR := Lib.hid (HPR.out.below hb)
      have HBW := Lib.hid (belowTo HBW.out hb)
      have R_q := Lib.hid rq
      have R_m := Lib.hid rm
      clear hb rq rm hI1 hI2
      go_upto_region 5 with fail
      have ha := (((Below.refl x1.heap.size x1).alloc (Nat.le_refl _) (.cells #[.bool (decide (q < 0)), .slice A2 (natL q.natAbs).length c2] 24)).alloc (by simp) (.cells #[.bool (decide (m < 0)), .slice A3 (natL m.natAbs).length c3] 24))
      have p_q := ((Pair.new x1 24 (.bool (decide (q < 0))) (.slice A2 (natL q.natAbs).length c2)).alloc (.cells #[.bool (decide (m < 0)), .slice A3 (natL m.natAbs).length c3] 24))
      have p_m := (Pair.new (x1.alloc (.cells #[.bool (decide (q < 0)), .slice A2 (natL q.natAbs).length c2] 24)) 24 (.bool (decide (m < 0))) (.slice A3 (natL m.natAbs).length c3))
      simp only [World.size_alloc] at p_m
      obtain ⟨y2, E⟩ : ∃ W, W = ((x1.alloc (.cells #[.bool (decide (q < 0)), .slice A2 (natL q.natAbs).length c2] 24)).alloc (.cells #[.bool (decide (m < 0)), .slice A3 (natL m.natAbs).length c3] 24)) := ⟨_, rfl⟩
      rw [← E] at ha p_q p_m ⊢
      have V_q := Lib.hid (NV.of R_q.out ha p_q)
      have V_m := Lib.hid (NV.of R_m.out ha p_m)
      have V_x := Lib.hid (V_x.out.below ha)
      have V_r := Lib.hid (V_r.out.below ha)
      have O_r := Lib.hid (O_r.out.below ha)
      have HPR := Lib.hid (HPR.out.below ha)
      have HBW := Lib.hid (belowTo HBW.out ha)
      obtain ⟨g2, hg⟩ : ∃ g, g = x1.heap.size := ⟨_, rfl⟩
      rw [← hg] at V_q V_m ⊢
      clear E ha hg p_q p_m
      clear V_m
      obtain ⟨l_r, a_r, b_r, -, -⟩ := V_r.out.pair.facts
      obtain ⟨l_q, a_q, b_q, -, -⟩ := V_q.out.pair.facts
      go_wp2_with fail
      refine (rplus r q s A1 A2 c1 c2 y2 V_r.out.raw V_q.out.raw (by omega) (by omega) HSE.out).mono ?_
      rintro e x3 ⟨v4, rfl, hI4, hb⟩
      obtain ⟨A4, c4, rfl, r4⟩ := hI4.raw
      clear hI4
      clear l_r a_r b_r l_q a_q b_q
      have V_x := Lib.hid (V_x.out.below hb)
      have V_r := Lib.hid (V_r.out.below hb)
      have V_q := Lib.hid (V_q.out.below hb)
      have O_r := Lib.hid (O_r.out.below hb)
      have HPR := Lib.hid (HPR.out.below hb)
      have HBW := Lib.hid (belowTo HBW.out hb)
      have R_s := Lib.hid r4
      clear hb r4
      clear V_q
      have hfd : ∀ V : World, (Instr.field 24 (.agg #[.bool (decide (s < 0)), .slice A4 (natL s.natAbs).length c4]) 1).run Tryz.prog V = .ok (.slice A4 (natL s.natAbs).length c4) V := fun V => by kernel_rfl
      have hsn : n = (((val (natL s.natAbs)) / 2 : Nat) : Int) := by have h1 := HPOS.out.1; have h2 := HST.out.1; have h3 := HSE.out; have h4 := HNE.out; rw [val_natL, h4, show (1 : Int).toNat = 1 by rfl, Nat.pow_one]; omega
      have HSN := Lib.hid hsn
      clear hsn
      go_wp2_with fail
      clear hfd
      refine (ref_half A4 c4 (natL s.natAbs) (by unfold lz at hls; omega) x3 R_s.out).mono ?_
      rintro e wh ⟨v4, rfl, hv4, hb⟩
      have hlow : w.heap.size ≤ x3.heap.size := HBW.out.size
      have V_x := Lib.hid (V_x.out.below hb)
      have V_r := Lib.hid (V_r.out.below hb)
      have R_s := Lib.hid (R_s.out.below hb)
      have O_r := Lib.hid (O_r.out.below hb)
      have HPR := Lib.hid (HPR.out.below hb)
      have HBW := Lib.hid (belowTo HBW.out hb)
      have O_4 := Lib.hid hv4
      clear hb hv4
      go_wp2_with fail
      refine (ref_signed_own false v4 _ _ _ wh (O_4.out.ownL (Nat.le_refl _))).mono ?_
      rintro e x4 ⟨v5, rfl, hI5, hb⟩
      rw [if_neg (show ¬ (false = true) by decide), ← HSN.out] at hI5
      obtain ⟨A5, c5, rfl, r5⟩ := hI5.raw
      clear O_4
      have V_x := Lib.hid (V_x.out.below hb)
      have V_r := Lib.hid (V_r.out.below hb)
      have R_s := Lib.hid (R_s.out.below hb)
      have O_r := Lib.hid (O_r.out.below hb)
      have HPR := Lib.hid (HPR.out.below hb)
      have HBW := Lib.hid (belowTo HBW.out hb)
      have R_n := Lib.hid r5
      have O_n := Lib.hid (hI5.base hlow)
      clear hb r5 hI5 R_s hlow
      go_upto_region 6 with fail
      have ha := ((Below.refl x4.heap.size x4).alloc (Nat.le_refl _) (.cells #[.bool (decide (n < 0)), .slice A5 (natL n.natAbs).length c5] 24))
      have p_n := (Pair.new x4 24 (.bool (decide (n < 0))) (.slice A5 (natL n.natAbs).length c5))
      obtain ⟨y5, E⟩ : ∃ W, W = (x4.alloc (.cells #[.bool (decide (n < 0)), .slice A5 (natL n.natAbs).length c5] 24)) := ⟨_, rfl⟩
      rw [← E] at ha p_n ⊢
      have V_n := Lib.hid (NV.of R_n.out ha p_n)
      have V_x := Lib.hid (V_x.out.below ha)
      have V_r := Lib.hid (V_r.out.below ha)
      have O_r := Lib.hid (O_r.out.below ha)
      have HPR := Lib.hid (HPR.out.below ha)
      have O_n := Lib.hid (O_n.out.below ha)
      have HBW := Lib.hid (belowTo HBW.out ha)
      obtain ⟨g5, hg⟩ : ∃ g, g = x4.heap.size := ⟨_, rfl⟩
      rw [← hg] at V_n ⊢
      clear E ha hg p_n
      obtain ⟨kc, hkc⟩ : ∃ k : Int, k = cmpz n r := ⟨_, rfl⟩
      have HKC := Lib.hid hkc
      by_cases hlt : n < r
      · skip
        obtain rfl : kc = -1 := by rw [hkc]; exact cmpz_lt hlt
        have HLT := Lib.hid hlt
        clear hkc hlt
        obtain ⟨l_n, a_n, b_n, -, -⟩ := V_n.out.pair.facts
        obtain ⟨l_r, a_r, b_r, -, -⟩ := V_r.out.pair.facts
        go_wp2_with fail
        refine (rcmp n r (-1) A5 A1 c5 c1 y5 V_n.out.raw V_r.out.raw (by omega) (by omega) HKC.out).mono ?_
        rintro e x6 ⟨rfl, hb⟩
        clear l_n a_n b_n l_r a_r b_r
        have V_x := Lib.hid (V_x.out.below hb)
        have V_r := Lib.hid (V_r.out.below hb)
        have V_n := Lib.hid (V_n.out.below hb)
        have O_r := Lib.hid (O_r.out.below hb)
        have HPR := Lib.hid (HPR.out.below hb)
        have O_n := Lib.hid (O_n.out.below hb)
        have HBW := Lib.hid (belowTo HBW.out hb)
        clear hb
        obtain ⟨l_n, a_n, b_n, -, -⟩ := V_n.out.pair.facts
        obtain ⟨l_r, a_r, b_r, -, -⟩ := V_r.out.pair.facts
        have qr := V_r.out.pair.facts
        have HN := Lib.hid (show RootAt w ((x6.setCell ⟨br, 0, none⟩ (.bool (decide (n < 0)))).setCell ⟨br, 1, none⟩ (.slice A5 (natL n.natAbs).length c5)) w.heap.size br x A c n A5 c5 from
          ⟨V_x.out.pair.far (by omega) _ _, V_r.out.pair.store _ _, O_n.out.pairT V_r.out.pair _ _, below2 HBW.out (by omega) _ _, HPOS.out.2, HST.out.2.2.1, Nat.le_trans (lz_mono (by have := HLT.out; have := HPOS.out; omega)) hlr⟩)
        have HPN := Lib.hid (HPR.out.far (show w.heap.size + 1 ≠ br by omega) (.bool (decide (n < 0))) (.slice A5 (natL n.natAbs).length c5))
        have HM := Lib.hid (show n.toNat < r.toNat by have := HLT.out; have := HPOS.out; omega)
        go_wp2_with fail
        go_roundg (n.toNat)
        case measure => rw [HGK.out]; exact HM.out
        case rel => exact Lib.hid ⟨n, A5, c5, rfl, HN.out, HPN.out⟩
      · skip
        have hkc0 : decide (0 ≤ kc) = true := decide_eq_true (by rw [hkc]; unfold cmpz; rw [if_neg hlt]; split <;> omega)
        have HRR := Lib.hid (show r = rr from rootZ_one (Int.le_of_lt HX.out) ⟨Int.le_of_lt HPOS.out.1, HST.out.2.2.2 (by omega), HAB.out⟩ HR.out)
        clear hkc hlt
        obtain ⟨l_n, a_n, b_n, -, -⟩ := V_n.out.pair.facts
        obtain ⟨l_r, a_r, b_r, -, -⟩ := V_r.out.pair.facts
        go_wp2_with fail
        refine (rcmp n r kc A5 A1 c5 c1 y5 V_n.out.raw V_r.out.raw (by omega) (by omega) HKC.out).mono ?_
        rintro e x6 ⟨rfl, hb⟩
        clear l_n a_n b_n l_r a_r b_r
        have V_x := Lib.hid (V_x.out.below hb)
        have V_r := Lib.hid (V_r.out.below hb)
        have V_n := Lib.hid (V_n.out.below hb)
        have O_r := Lib.hid (O_r.out.below hb)
        have HPR := Lib.hid (HPR.out.below hb)
        have O_n := Lib.hid (O_n.out.below hb)
        have HBW := Lib.hid (belowTo HBW.out hb)
        clear hb
        clear V_n
        go_upto_region 7 with fail
        obtain ⟨pp, hpp⟩ : ∃ k : Int, k = r * r := ⟨_, rfl⟩
        obtain ⟨k2, hk2⟩ : ∃ k : Int, k = cmpz pp x := ⟨_, rfl⟩
        obtain rfl : k2 = -1 := by rw [hk2, hpp, HRR.out]; exact cmpz_lt (by have := HR.out.2.1; have := HQ.out; omega)
        have hlp : lz pp ≤ 200000 := by have := lz_mul r r; rw [← hpp] at this; omega
        have HK2 := Lib.hid hk2
        have HPP := Lib.hid hpp
        clear hk2 hpp hkc0
        have hbrl := V_r.out.pair.blk.lt
        refine wp_region_free [.val (.agg #[.bool (decide (r < 0)), .slice A1 (natL r.natAbs).length c1]) [999], .val (.agg #[.bool (decide (r < 0)), .slice A1 (natL r.natAbs).length c1]) [999], .val (.agg #[.bool (decide (r < 0)), .slice A1 (natL r.natAbs).length c1]) [999], .any false (fun u V => IntOwn V 0 u pp) [999], .val (.agg #[.bool (decide (x < 0)), .slice A (natL x.natAbs).length c]) [999], .val (.int .i64 (-1)) [3, 999], .val (.bool false) [], .old (w.heap.size + 1) 24 #[.bool false, .slice none 0 0] 0 2 0 [], .val (.bool false) []] (w.heap.size + 1) x6 [24] (fun _ _ => False) _ mixedOrders2 (by omega) (Below.refl _ _) (KeptV.refl _ _ _) rfl (by kernel_rfl) (by kernel_rfl) (by kernel_rfl) (by kernel_rfl) (by kernel_rfl) (by kernel_rfl) (by kernel_rfl) (by kernel_rfl) rfl (by simp [oldsF]) ?_ ?_ ?_ ?_
        · simp only [StableF, and_true]
          exact fun u V V' h k => h.kept k (by decide)
        · simp only [OldsF, and_true]
          exact ⟨Nat.le_refl _, by omega, HPR.out.blk, by simp⟩
        · simp (maxSteps := 4000000) [StepsF, DepF, oldsF, freeAct, fill, pairs]
          repeat' (first | apply And.intro | (intro (u : Value)) | (intro (u : Nat)))
          all_goals try exact ⟨_, _, _, rfl, rfl, rfl, rfl, intInfo⟩
          all_goals first
          | exact fun _ _ _ => ⟨rfl, by simp [Value.cells, Value.oneCell']⟩
          | (intro V hV hK ho
             have pr9 : Pair V br 24 (.bool (decide (r < 0))) (.slice A1 (natL r.natAbs).length c1) := ⟨(ho br hbrl (by omega)).trans V_r.out.pair.blk⟩
             obtain ⟨-, a_r, b_r, -, -⟩ := pr9.facts
             have px9 : Pair V w.heap.size 24 (.bool (decide (x < 0))) (.slice A (natL x.natAbs).length c) := ⟨V_x.out.pair.blk.below hV (Nat.lt_succ_self _)⟩
             obtain ⟨-, a_x, b_x, -, -⟩ := px9.facts
             have r_r := Lib.hid (O_r.out.kept hK (by decide)).rawAt
             have r_x := Lib.hid (RW_x.out.below (HBW.out.trans (hV.mono (by omega))))
             clear hV hK ho pr9 px9
             go_simp
             first
             | exact Below.refl _ _
             | ((with_reducible refine (rtimes r r pp A1 A1 c1 c1 V r_r.out r_r.out (by omega) (by omega) HPP.out).mono ?_); rintro e w' ⟨v, rfl, hv, hb⟩; exact ⟨hv.base (Nat.zero_le _), hb⟩))
          | (intro V hV hK hu ho
             obtain ⟨A', c', rfl, hr⟩ := hu.raw
             have r' := Lib.hid hr
             have pr9 : Pair V br 24 (.bool (decide (r < 0))) (.slice A1 (natL r.natAbs).length c1) := ⟨(ho br hbrl (by omega)).trans V_r.out.pair.blk⟩
             obtain ⟨-, a_r, b_r, -, -⟩ := pr9.facts
             have px9 : Pair V w.heap.size 24 (.bool (decide (x < 0))) (.slice A (natL x.natAbs).length c) := ⟨V_x.out.pair.blk.below hV (Nat.lt_succ_self _)⟩
             obtain ⟨-, a_x, b_x, -, -⟩ := px9.facts
             have r_r := Lib.hid (O_r.out.kept hK (by decide)).rawAt
             have r_x := Lib.hid (RW_x.out.below (HBW.out.trans (hV.mono (by omega))))
             clear hV hK ho pr9 px9 hu hr
             go_simp
             (with_reducible refine (rcmp pp x (-1) A' A c' c V r'.out r_x.out (by omega) (by omega) HK2.out).mono ?_)
             rintro e w' ⟨rfl, hb⟩
             exact ⟨rfl, hb⟩)
          | (intro V hV hK
             clear hV hK
             go_simp
             exact Below.refl _ _)
          | (trace_state; sorry)
        · simp [EndF, FactsF, freeAct, fill, pairs, setAll, Value.cells]
          intro u1 V hV hK h1 bq _ _ _
          have k0 := bq.cell 0
          have k1 := bq.cell 1
          simp at k0 k1
          have HO := Lib.hid (O_r.out.kept hK (by decide))
          have HB := Lib.hid (HBW.out.trans (hV.mono (by omega)))
          clear h1 hV hK
          go_wp2_with fail
          exact bodyPost_ret (by simp [results, Tryz.results98, go_sem, k0, k1]) rfl ⟨.agg #[.bool (decide (r < 0)), .slice A1 (natL r.natAbs).length c1], rfl, by rw [← HRR.out]; exact HO.out, HB.out⟩
end Go.Proofs.YtpcdiijmhllejaaGreatDoor

/- Halved of the references: divided by 2^n and rounded down. (Written by wip/exact/genrefhalved.py.) -/
namespace Go.Proofs.YtpcdiijmhllejaaGreatDoor
open Go.RowKit

set_option maxRecDepth 100000 in
set_option maxHeartbeats 2000000 in
theorem ref_Halved_all_neg (x z k : Int) (A : Option Addr) (c : Nat) (w : World) (h_x : Raw w A c (natL x.natAbs)) (hx : lz x ≤ 1000000) (_ : 0 ≤ k) (_ : k ≤ 1048576) (hge : 32 * (lz x : Int) ≤ k) (hs : x < 0) (hz : z = -1) :
    Calls Tryz.prog 100 #[.agg #[.bool (decide (x < 0)), .slice A (natL x.natAbs).length c], .int .i64 k] w (RetInt w.heap.size w z) := by
  have hge2 : 32 * ((natL x.natAbs).length : Int) ≤ k := hge
  have hl2 : ((natL x.natAbs).length : Int) ≤ 1000000 := by unfold lz at hx; omega
  have hng : decide (x < 0) = true := decide_eq_true hs
  have HZ := Lib.hid hz
  have HNG := Lib.hid hng
  clear hx hge hs hz hng
  have b0 := (((Below.refl w.heap.size w).alloc (Nat.le_refl _) (.cells #[.bool (decide (x < 0)), .slice A (natL x.natAbs).length c] 24)).alloc (by simp) (.cells #[.bool false, .slice none 0 0] 24))
  have p0 := (Pair.new w 24 (.bool (decide (x < 0))) (.slice A (natL x.natAbs).length c)).alloc (.cells #[.bool false, .slice none 0 0] 24)
  have p1 := Pair.new (w.alloc (.cells #[.bool (decide (x < 0)), .slice A (natL x.natAbs).length c] 24)) 24 (.bool false) (.slice none 0 0)
  simp only [World.size_alloc] at p1
  have V_x := Lib.hid (NV.of h_x b0 p0)
  have P_r0 := Lib.hid p1
  have RW_x := Lib.hid h_x
  have HBW := Lib.hid b0
  clear b0 p0 p1 h_x
  go_enter Tryz.func100, Tryz.ntmps100
  obtain ⟨W, E⟩ : ∃ W, W = ((w.alloc (.cells #[.bool (decide (x < 0)), .slice A (natL x.natAbs).length c] 24)).alloc (.cells #[.bool false, .slice none 0 0] 24)) := ⟨_, rfl⟩
  go_upto_region 1 with fail
  rw [← E] at V_x P_r0 HBW ⊢
  clear E
  have hng := HNG.out
  obtain ⟨l_x, a_x, b_x, -, -⟩ := V_x.out.pair.facts
  go_wp2_with fail
  refine (rof (-1) z HZ.out (by decide) (by decide) W).mono ?_
  rintro e w9 ⟨v, rfl, hI, hb⟩
  clear l_x a_x b_x
  have hsz := P_r0.out.blk.lt
  obtain ⟨b9, A9, k9, c9, rfl⟩ := hI.shape
  have pr := P_r0.out.below hb
  obtain ⟨q1, q2, q3, q4, q5⟩ := pr.facts
  have HI := Lib.hid (hI.pair (g := w.heap.size + 1) (a := .bool b9) (b := .slice A9 k9 c9) (by omega))
  have HB := Lib.hid (below2 (belowTo HBW.out hb) (show w.heap.size ≤ w.heap.size + 1 by omega) (.bool b9) (.slice A9 k9 c9))
  have HQ := Lib.hid (pr.store (.bool b9) (.slice A9 k9 c9))
  clear hI hb pr
  go_wp2_with fail
  obtain ⟨_, k0, k1, _, _⟩ := HQ.out.facts
  exact bodyPost_ret (by simp [results, Tryz.results100, go_sem, k0, k1]) rfl ⟨_, rfl, HI.out.base (by omega), HB.out⟩

set_option maxRecDepth 100000 in
set_option maxHeartbeats 2000000 in
theorem ref_Halved_all_pos (x z k : Int) (A : Option Addr) (c : Nat) (w : World) (h_x : Raw w A c (natL x.natAbs)) (hx : lz x ≤ 1000000) (_ : 0 ≤ k) (_ : k ≤ 1048576) (hge : 32 * (lz x : Int) ≤ k) (hs : 0 ≤ x) (hz : z = 0) :
    Calls Tryz.prog 100 #[.agg #[.bool (decide (x < 0)), .slice A (natL x.natAbs).length c], .int .i64 k] w (RetInt w.heap.size w z) := by
  have hge2 : 32 * ((natL x.natAbs).length : Int) ≤ k := hge
  have hl2 : ((natL x.natAbs).length : Int) ≤ 1000000 := by unfold lz at hx; omega
  have hng : decide (x < 0) = false := decide_eq_false (by omega)
  have HZ := Lib.hid hz
  have HNG := Lib.hid hng
  clear hx hge hs hz hng
  have b0 := (((Below.refl w.heap.size w).alloc (Nat.le_refl _) (.cells #[.bool (decide (x < 0)), .slice A (natL x.natAbs).length c] 24)).alloc (by simp) (.cells #[.bool false, .slice none 0 0] 24))
  have p0 := (Pair.new w 24 (.bool (decide (x < 0))) (.slice A (natL x.natAbs).length c)).alloc (.cells #[.bool false, .slice none 0 0] 24)
  have p1 := Pair.new (w.alloc (.cells #[.bool (decide (x < 0)), .slice A (natL x.natAbs).length c] 24)) 24 (.bool false) (.slice none 0 0)
  simp only [World.size_alloc] at p1
  have V_x := Lib.hid (NV.of h_x b0 p0)
  have P_r0 := Lib.hid p1
  have RW_x := Lib.hid h_x
  have HBW := Lib.hid b0
  clear b0 p0 p1 h_x
  go_enter Tryz.func100, Tryz.ntmps100
  obtain ⟨W, E⟩ : ∃ W, W = ((w.alloc (.cells #[.bool (decide (x < 0)), .slice A (natL x.natAbs).length c] 24)).alloc (.cells #[.bool false, .slice none 0 0] 24)) := ⟨_, rfl⟩
  go_upto_region 1 with fail
  rw [← E] at V_x P_r0 HBW ⊢
  clear E
  have hng := HNG.out
  obtain ⟨l_x, a_x, b_x, -, -⟩ := V_x.out.pair.facts
  obtain ⟨l_r0, a_r0, b_r0, f_r0, g_r0⟩ := P_r0.out.facts
  have HQ := Lib.hid (P_r0.out.store (.bool false) (.slice none 0 0))
  have HB := Lib.hid (below2 HBW.out (show w.heap.size ≤ w.heap.size + 1 by omega) (.bool false) (.slice none 0 0))
  have hq0 := HQ.out.facts
  go_wp2_with fail
  obtain ⟨_, k0, k1, _, _⟩ := HQ.out.facts
  exact bodyPost_ret (by simp [results, Tryz.results100, go_sem, k0, k1]) rfl ⟨.agg #[.bool false, .slice none 0 0], rfl, by rw [HZ.out]; exact IntOwn.nought _ _, HB.out⟩

theorem part_any (xs : List Nat) (i : Nat) (h : i < xs.length) (b : Bool) (hb : b = decide (val (xs.take i) ≠ 0)) : (b || decide (xs[i] ≠ 0)) = decide (val (xs.take (i + 1)) ≠ 0) := by
  rw [hb, List.take_succ_eq_append_getElem h, val_append]
  have hv : val [xs[i]] = xs[i] := by simp [val]
  rw [hv]
  have hp : 0 < 4294967296 ^ (xs.take i).length := Nat.pow_pos (by omega)
  by_cases h0 : xs[i] = 0
  · rw [h0]; simp
  · have h1 : 0 < 4294967296 ^ (xs.take i).length * xs[i] := Nat.mul_pos hp (by omega)
    rw [decide_eq_true h0, Bool.or_true, eq_comm]
    exact decide_eq_true (by omega)

set_option maxRecDepth 100000 in
set_option maxHeartbeats 4000000 in
theorem ref_Halved_pos (x z k : Int) (A : Option Addr) (c : Nat) (w : World) (h_x : Raw w A c (natL x.natAbs)) (hx : lz x ≤ 1000000) (hk0 : 0 ≤ k) (hk : k ≤ 1048576) (hlt : k < 32 * (lz x : Int)) (hs : 0 ≤ x) (hz : z = x / ((2 ^ k.toNat : Nat) : Int)) :
    Calls Tryz.prog 100 #[.agg #[.bool (decide (x < 0)), .slice A (natL x.natAbs).length c], .int .i64 k] w (RetInt w.heap.size w z) := by
  obtain ⟨n, rfl⟩ := Int.eq_ofNat_of_zero_le hk0
  rw [Int.toNat_natCast] at *
  obtain ⟨m, hm⟩ : ∃ m, m = n / 32 := ⟨_, rfl⟩
  obtain ⟨r, hr⟩ : ∃ r, r = n % 32 := ⟨_, rfl⟩
  obtain ⟨xs, hxs⟩ : ∃ xs, xs = natL x.natAbs := ⟨_, rfl⟩
  obtain ⟨L, hL⟩ : ∃ L, L = xs.length - m := ⟨_, rfl⟩
  unfold lz at hx hlt
  rw [← hxs] at hx hlt h_x ⊢
  have hmi : (n : Int) / 32 = (m : Int) := by omega
  have hri : (n : Int) % 32 = (r : Int) := by omega
  have hrt : (n : Int).tmod 32 = (r : Int) := by rw [Int.tmod_eq_emod_of_nonneg (by omega)]; exact hri
  have hm2 : m < xs.length := by omega
  have hr2 : r ≤ 31 := by omega
  have HLX := Lib.hid (show lz x ≤ 1000000 from by unfold lz; rw [← hxs]; exact hx)
  have HNM := Lib.hid (show n = 32 * m + r by omega)
  have hne : 0 < xs.length := by omega
  have hlm := h_x.limbs
  have hcap := h_x.cap
  have hmost := h_x.most
  have hm3 : (m : Int) < (xs.length : Int) := by omega
  have hm4 : (0 : Int) ≤ (m : Int) := by omega
  have hn1 : (n : Int) ≤ 1048576 := hk
  have hl1 : (xs.length : Int) ≤ 1000000 := by omega
  have g1 : (n : Int) < 32 * (xs.length : Int) := by omega
  have hcm : ¬ c = m := by omega
  have hLi : (xs.length : Int) - (m : Int) = (L : Int) := by omega
  have hv : val xs = x.natAbs := by rw [hxs, val_natL]
  have HV := Lib.hid hv
  have hfl := half_val hlm (Nat.le_of_lt hm2) HNM.out
  have HHV := Lib.hid hfl
  have hrest := half_rest hlm (Nat.le_of_lt hm2) HNM.out
  have HRS := Lib.hid hrest
  have HZ := Lib.hid hz
  have HS := Lib.hid hs
  have hng : decide (x < 0) = false := decide_eq_false (by omega)
  obtain ⟨ad, rfl, -, -⟩ := h_x.reads.2 hne
  have p0 := (Pair.new w 24 (.bool (decide (x < 0))) (.slice (some ad) xs.length c)).alloc (.cells #[.bool false, .slice none 0 0] 24)
  have p1 := Pair.new (w.alloc (.cells #[.bool (decide (x < 0)), .slice (some ad) xs.length c] 24)) 24 (.bool false) (.slice none 0 0)
  have b0 := ((Below.refl w.heap.size w).alloc (Nat.le_refl _) (.cells #[.bool (decide (x < 0)), .slice (some ad) xs.length c] 24)).alloc (by simp) (.cells #[.bool false, .slice none 0 0] 24)
  have rx := (h_x.alloc (.cells #[.bool (decide (x < 0)), .slice (some ad) xs.length c] 24)).alloc (.cells #[.bool false, .slice none 0 0] 24)
  simp only [World.size_alloc] at p1
  rw [hng] at p0 p1 b0 rx ⊢
  have P_x := Lib.hid p0
  have P_r0 := Lib.hid p1
  have HBW := Lib.hid b0
  have RX := Lib.hid rx
  have HLM := Lib.hid hlm
  clear p0 p1 b0 rx h_x hs hz hlm hv hfl hrest hL hm hr hx hlt hk0 hk hxs
  go_enter Tryz.func100, Tryz.ntmps100
  obtain ⟨W, E⟩ : ∃ W, W = (w.alloc (.cells #[.bool false, .slice (some ad) xs.length c] 24)).alloc (.cells #[.bool false, .slice none 0 0] 24) := ⟨_, rfl⟩
  go_upto_region 1 with fail
  rw [← E] at P_x P_r0 HBW RX ⊢
  clear E
  obtain ⟨l_x, a_x, b_x, -, -⟩ := P_x.out.facts
  go_wp2_with fail
  go_loop [6, 7] (fun v6 v7 => ∃ (i : Nat) (b : Bool), v6 = .bool b ∧ v7 = .int .i64 i ∧ i ≤ m ∧ Hid (b = decide (val (xs.take i) ≠ 0))) (fun _ v7 => m - (intOf v7).toNat)
  case atStart => exact ⟨0, false, rfl, rfl, Nat.zero_le _, Lib.hid (by simp [val])⟩
  case round =>
    obtain ⟨i, b, rfl, rfl, hi, HB⟩ := hrel
    by_cases him : i < m
    · have i1 : (i : Int) < (m : Int) := by omega
      have i2 : (i : Int) < (xs.length : Int) := by omega
      have i0 : (0 : Int) ≤ (i : Int) := by omega
      have hil : i < xs.length := by omega
      have HN := Lib.hid (part_any xs i hil b HB.out)
      obtain ⟨ad2, e2, had2, hc2⟩ := RX.out.reads.get hil
      obtain rfl := Option.some.inj e2
      obtain ⟨u, hu⟩ : ∃ u : Int, u = ((xs[i] : Nat) : Int) := ⟨_, rfl⟩
      rw [← hu] at hc2
      have HUB := Lib.hid (show decide (xs[i] ≠ 0) = (u != 0) from by rw [hu, Bool.eq_iff_iff]; simp)
      clear hu e2
      cases b
      · by_cases hu0 : u = 0
        · have hub : (u != 0) = false := by rw [hu0]; rfl
          have HN2 := Lib.hid (show false = decide (val (xs.take (i + 1)) ≠ 0) from by have h1 := HN.out; rw [HUB.out, hub] at h1; exact h1)
          subst hu0
          clear hub
          go_wp2_with fail
          go_round
          case rel => exact ⟨i + 1, false, rfl, by go_num, by omega, HN2⟩
          case measure => simp [intOf]; omega
        · have hub : (u != 0) = true := by simpa using hu0
          have HN2 := Lib.hid (show true = decide (val (xs.take (i + 1)) ≠ 0) from by have h1 := HN.out; rw [HUB.out, hub] at h1; exact h1)
          clear hu0
          go_wp2_with fail
          go_round
          case rel => exact ⟨i + 1, true, rfl, by go_num, by omega, HN2⟩
          case measure => simp [intOf]; omega
      · have HN2 := Lib.hid (show true = decide (val (xs.take (i + 1)) ≠ 0) from by have h1 := HN.out; rw [Bool.true_or] at h1; exact h1)
        go_wp2_with fail
        go_round
        case rel => exact ⟨i + 1, true, rfl, by go_num, by omega, HN2⟩
        case measure => simp [intOf]; omega
    · obtain rfl : i = m := by omega
      have HLO := Lib.hid HB.out
      clear HB
      go_wp2_with fail
      go_loop [8, 9] (fun v6 v7 => ∃ k f : Nat, v6 = .int .u32 f ∧ v7 = .int .i64 k ∧ k ≤ r ∧ f < 4294967296 ∧ Hid (f = 2 ^ k)) (fun _ v7 => r - (intOf v7).toNat)
      case atStart => exact ⟨0, 1, rfl, rfl, Nat.zero_le _, by omega, Lib.hid rfl⟩
      case round =>
        obtain ⟨k, f, rfl, rfl, hk, hf, HF⟩ := hrel
        by_cases hkr : k < r
        · have h2f : 2 * f < 4294967296 := by
            have e : 2 * f = 2 ^ (k + 1) := by rw [HF.out, Nat.pow_succ, Nat.mul_comm]
            rw [e]
            exact Nat.lt_of_le_of_lt (Nat.pow_le_pow_right (by omega) (show k + 1 ≤ 31 by omega)) (by decide)
          have hki : (k : Int) < (r : Int) := by omega
          have h2i : (2 * (f : Int)) % 4294967296 = ((2 * f : Nat) : Int) := by omega
          have HF2 := Lib.hid (show 2 * f = 2 ^ (k + 1) by rw [HF.out, Nat.pow_succ, Nat.mul_comm])
          clear HF
          go_wp2_with fail
          go_round
          case rel => exact ⟨k + 1, 2 * f, by first | rfl | go_num, by go_num, hkr, h2f, HF2⟩
          case measure => simp [intOf]; omega
        · obtain rfl : k = r := by omega
          have hf0 : 0 < f := by rw [HF.out]; exact Nat.two_pow_pos _
          have C1 := Lib.hid (fun (V : World) (hV : Raw V (some (ad.add i)) (c - i) (xs.drop i)) => ref_short (some (ad.add i)) (c - i) f (xs.drop i) hf0 hf (by rw [List.length_drop]; omega) V hV)
          have hll : (xs.drop i).length = xs.length - i := by rw [List.length_drop]
          rw [hll] at C1
          have HQ := Lib.hid (show val (xs.drop i) / f = x.natAbs / 2 ^ n from by rw [HF.out, ← HHV.out, HV.out])
          rw [HQ.out] at C1
          obtain ⟨rs, hrs⟩ : ∃ rs, rs = val (xs.drop i) % f := ⟨_, rfl⟩
          rw [← hrs] at C1
          have HRR := Lib.hid (show (x.natAbs % 2 ^ n = 0 ↔ b = false ∧ rs = 0) from by
            have h1 := HRS.out
            rw [HV.out, ← HF.out, ← hrs] at h1
            rw [h1, HLO.out]
            simp)
          clear hll hrs hf0
          go_wp2_with fail
          refine (C1.out W (RX.out.drop hm2)).mono ?_
          rintro e w1 ⟨v1, rfl, ho, hb⟩
          have hsz1 := P_r0.out.blk.lt
          have P_x := Lib.hid (P_x.out.below hb)
          have P_r0 := Lib.hid (P_r0.out.below hb)
          have hszW := HBW.out.size
          have HBW := Lib.hid (belowTo HBW.out hb)
          have HO := Lib.hid (ho.base (b' := w.heap.size + 2) (by omega))
          have hsz := P_r0.out.blk.lt
          clear hb ho C1 l_x a_x b_x
          obtain ⟨l_x, a_x, b_x, -, -⟩ := P_x.out.facts
          have HS1 := Lib.hid (show Calls Tryz.prog 107 #[.bool false, v1] w1 (RetInt (w.heap.size + 2) w1 z) from by
            have := ref_signed_own false v1 (x.natAbs / 2 ^ n) _ (w.heap.size + 2) w1 (HO.out.ownL (Nat.le_refl _))
            rw [HZ.out]
            obtain ⟨t, rfl⟩ := Int.eq_ofNat_of_zero_le HS.out
            rw [floor_pos]
            exact this)
          go_wp2_with fail
          refine (HS1.out).mono ?_
          rintro e w9 ⟨v, rfl, hI, hb⟩
          obtain ⟨b9, A9, k9, c9, rfl⟩ := hI.shape
          have pr := P_r0.out.below hb
          have q1 := pr.facts
          have HI := Lib.hid (hI.pair (g := w.heap.size + 1) (a := .bool b9) (b := .slice A9 k9 c9) (by omega))
          have HB := Lib.hid (below2 (belowTo HBW.out hb) (show w.heap.size ≤ w.heap.size + 1 by omega) (.bool b9) (.slice A9 k9 c9))
          have HQ2 := Lib.hid (pr.store (.bool b9) (.slice A9 k9 c9))
          clear hI hb pr
          go_wp2_with fail
          obtain ⟨_, k0, k1, _, _⟩ := HQ2.out.facts
          exact bodyPost_ret (by simp [results, Tryz.results100, go_sem, k0, k1]) rfl ⟨_, rfl, HI.out.base (by omega), HB.out⟩

set_option maxRecDepth 100000 in
set_option maxHeartbeats 4000000 in
theorem ref_Halved_exact (x z k : Int) (A : Option Addr) (c : Nat) (w : World) (h_x : Raw w A c (natL x.natAbs)) (hx : lz x ≤ 1000000) (hk0 : 0 ≤ k) (hk : k ≤ 1048576) (hlt : k < 32 * (lz x : Int)) (hs : x < 0) (hr0 : x.natAbs % 2 ^ k.toNat = 0) (hz : z = x / ((2 ^ k.toNat : Nat) : Int)) :
    Calls Tryz.prog 100 #[.agg #[.bool (decide (x < 0)), .slice A (natL x.natAbs).length c], .int .i64 k] w (RetInt w.heap.size w z) := by
  obtain ⟨n, rfl⟩ := Int.eq_ofNat_of_zero_le hk0
  rw [Int.toNat_natCast] at *
  obtain ⟨m, hm⟩ : ∃ m, m = n / 32 := ⟨_, rfl⟩
  obtain ⟨r, hr⟩ : ∃ r, r = n % 32 := ⟨_, rfl⟩
  obtain ⟨xs, hxs⟩ : ∃ xs, xs = natL x.natAbs := ⟨_, rfl⟩
  obtain ⟨L, hL⟩ : ∃ L, L = xs.length - m := ⟨_, rfl⟩
  unfold lz at hx hlt
  rw [← hxs] at hx hlt h_x ⊢
  have hmi : (n : Int) / 32 = (m : Int) := by omega
  have hri : (n : Int) % 32 = (r : Int) := by omega
  have hrt : (n : Int).tmod 32 = (r : Int) := by rw [Int.tmod_eq_emod_of_nonneg (by omega)]; exact hri
  have hm2 : m < xs.length := by omega
  have hr2 : r ≤ 31 := by omega
  have HLX := Lib.hid (show lz x ≤ 1000000 from by unfold lz; rw [← hxs]; exact hx)
  have HNM := Lib.hid (show n = 32 * m + r by omega)
  have hne : 0 < xs.length := by omega
  have hlm := h_x.limbs
  have hcap := h_x.cap
  have hmost := h_x.most
  have hm3 : (m : Int) < (xs.length : Int) := by omega
  have hm4 : (0 : Int) ≤ (m : Int) := by omega
  have hn1 : (n : Int) ≤ 1048576 := hk
  have hl1 : (xs.length : Int) ≤ 1000000 := by omega
  have g1 : (n : Int) < 32 * (xs.length : Int) := by omega
  have hcm : ¬ c = m := by omega
  have hLi : (xs.length : Int) - (m : Int) = (L : Int) := by omega
  have hv : val xs = x.natAbs := by rw [hxs, val_natL]
  have HV := Lib.hid hv
  have hfl := half_val hlm (Nat.le_of_lt hm2) HNM.out
  have HHV := Lib.hid hfl
  have hrest := half_rest hlm (Nat.le_of_lt hm2) HNM.out
  have HRS := Lib.hid hrest
  have HZ := Lib.hid hz
  have HS := Lib.hid hs
  have HR0 := Lib.hid hr0
  have hng : decide (x < 0) = true := decide_eq_true hs
  obtain ⟨ad, rfl, -, -⟩ := h_x.reads.2 hne
  have p0 := (Pair.new w 24 (.bool (decide (x < 0))) (.slice (some ad) xs.length c)).alloc (.cells #[.bool false, .slice none 0 0] 24)
  have p1 := Pair.new (w.alloc (.cells #[.bool (decide (x < 0)), .slice (some ad) xs.length c] 24)) 24 (.bool false) (.slice none 0 0)
  have b0 := ((Below.refl w.heap.size w).alloc (Nat.le_refl _) (.cells #[.bool (decide (x < 0)), .slice (some ad) xs.length c] 24)).alloc (by simp) (.cells #[.bool false, .slice none 0 0] 24)
  have rx := (h_x.alloc (.cells #[.bool (decide (x < 0)), .slice (some ad) xs.length c] 24)).alloc (.cells #[.bool false, .slice none 0 0] 24)
  simp only [World.size_alloc] at p1
  rw [hng] at p0 p1 b0 rx ⊢
  have P_x := Lib.hid p0
  have P_r0 := Lib.hid p1
  have HBW := Lib.hid b0
  have RX := Lib.hid rx
  have HLM := Lib.hid hlm
  clear p0 p1 b0 rx h_x hs hz hlm hv hfl hrest hL hm hr hx hlt hk0 hk hxs hr0
  go_enter Tryz.func100, Tryz.ntmps100
  obtain ⟨W, E⟩ : ∃ W, W = (w.alloc (.cells #[.bool true, .slice (some ad) xs.length c] 24)).alloc (.cells #[.bool false, .slice none 0 0] 24) := ⟨_, rfl⟩
  go_upto_region 1 with fail
  rw [← E] at P_x P_r0 HBW RX ⊢
  clear E
  obtain ⟨l_x, a_x, b_x, -, -⟩ := P_x.out.facts
  go_wp2_with fail
  go_loop [6, 7] (fun v6 v7 => ∃ (i : Nat) (b : Bool), v6 = .bool b ∧ v7 = .int .i64 i ∧ i ≤ m ∧ Hid (b = decide (val (xs.take i) ≠ 0))) (fun _ v7 => m - (intOf v7).toNat)
  case atStart => exact ⟨0, false, rfl, rfl, Nat.zero_le _, Lib.hid (by simp [val])⟩
  case round =>
    obtain ⟨i, b, rfl, rfl, hi, HB⟩ := hrel
    by_cases him : i < m
    · have i1 : (i : Int) < (m : Int) := by omega
      have i2 : (i : Int) < (xs.length : Int) := by omega
      have i0 : (0 : Int) ≤ (i : Int) := by omega
      have hil : i < xs.length := by omega
      have HN := Lib.hid (part_any xs i hil b HB.out)
      obtain ⟨ad2, e2, had2, hc2⟩ := RX.out.reads.get hil
      obtain rfl := Option.some.inj e2
      obtain ⟨u, hu⟩ : ∃ u : Int, u = ((xs[i] : Nat) : Int) := ⟨_, rfl⟩
      rw [← hu] at hc2
      have HUB := Lib.hid (show decide (xs[i] ≠ 0) = (u != 0) from by rw [hu, Bool.eq_iff_iff]; simp)
      clear hu e2
      cases b
      · by_cases hu0 : u = 0
        · have hub : (u != 0) = false := by rw [hu0]; rfl
          have HN2 := Lib.hid (show false = decide (val (xs.take (i + 1)) ≠ 0) from by have h1 := HN.out; rw [HUB.out, hub] at h1; exact h1)
          subst hu0
          clear hub
          go_wp2_with fail
          go_round
          case rel => exact ⟨i + 1, false, rfl, by go_num, by omega, HN2⟩
          case measure => simp [intOf]; omega
        · have hub : (u != 0) = true := by simpa using hu0
          have HN2 := Lib.hid (show true = decide (val (xs.take (i + 1)) ≠ 0) from by have h1 := HN.out; rw [HUB.out, hub] at h1; exact h1)
          clear hu0
          go_wp2_with fail
          go_round
          case rel => exact ⟨i + 1, true, rfl, by go_num, by omega, HN2⟩
          case measure => simp [intOf]; omega
      · have HN2 := Lib.hid (show true = decide (val (xs.take (i + 1)) ≠ 0) from by have h1 := HN.out; rw [Bool.true_or] at h1; exact h1)
        go_wp2_with fail
        go_round
        case rel => exact ⟨i + 1, true, rfl, by go_num, by omega, HN2⟩
        case measure => simp [intOf]; omega
    · obtain rfl : i = m := by omega
      have HLO := Lib.hid HB.out
      clear HB
      go_wp2_with fail
      go_loop [8, 9] (fun v6 v7 => ∃ k f : Nat, v6 = .int .u32 f ∧ v7 = .int .i64 k ∧ k ≤ r ∧ f < 4294967296 ∧ Hid (f = 2 ^ k)) (fun _ v7 => r - (intOf v7).toNat)
      case atStart => exact ⟨0, 1, rfl, rfl, Nat.zero_le _, by omega, Lib.hid rfl⟩
      case round =>
        obtain ⟨k, f, rfl, rfl, hk, hf, HF⟩ := hrel
        by_cases hkr : k < r
        · have h2f : 2 * f < 4294967296 := by
            have e : 2 * f = 2 ^ (k + 1) := by rw [HF.out, Nat.pow_succ, Nat.mul_comm]
            rw [e]
            exact Nat.lt_of_le_of_lt (Nat.pow_le_pow_right (by omega) (show k + 1 ≤ 31 by omega)) (by decide)
          have hki : (k : Int) < (r : Int) := by omega
          have h2i : (2 * (f : Int)) % 4294967296 = ((2 * f : Nat) : Int) := by omega
          have HF2 := Lib.hid (show 2 * f = 2 ^ (k + 1) by rw [HF.out, Nat.pow_succ, Nat.mul_comm])
          clear HF
          go_wp2_with fail
          go_round
          case rel => exact ⟨k + 1, 2 * f, by first | rfl | go_num, by go_num, hkr, h2f, HF2⟩
          case measure => simp [intOf]; omega
        · obtain rfl : k = r := by omega
          have hf0 : 0 < f := by rw [HF.out]; exact Nat.two_pow_pos _
          have C1 := Lib.hid (fun (V : World) (hV : Raw V (some (ad.add i)) (c - i) (xs.drop i)) => ref_short (some (ad.add i)) (c - i) f (xs.drop i) hf0 hf (by rw [List.length_drop]; omega) V hV)
          have hll : (xs.drop i).length = xs.length - i := by rw [List.length_drop]
          rw [hll] at C1
          have HQ := Lib.hid (show val (xs.drop i) / f = x.natAbs / 2 ^ n from by rw [HF.out, ← HHV.out, HV.out])
          rw [HQ.out] at C1
          obtain ⟨rs, hrs⟩ : ∃ rs, rs = val (xs.drop i) % f := ⟨_, rfl⟩
          rw [← hrs] at C1
          have HRR := Lib.hid (show (x.natAbs % 2 ^ n = 0 ↔ b = false ∧ rs = 0) from by
            have h1 := HRS.out
            rw [HV.out, ← HF.out, ← hrs] at h1
            rw [h1, HLO.out]
            simp)
          clear hll hrs hf0
          go_wp2_with fail
          refine (C1.out W (RX.out.drop hm2)).mono ?_
          rintro e w1 ⟨v1, rfl, ho, hb⟩
          have hsz1 := P_r0.out.blk.lt
          have P_x := Lib.hid (P_x.out.below hb)
          have P_r0 := Lib.hid (P_r0.out.below hb)
          have hszW := HBW.out.size
          have HBW := Lib.hid (belowTo HBW.out hb)
          have HO := Lib.hid (ho.base (b' := w.heap.size + 2) (by omega))
          have hsz := P_r0.out.blk.lt
          clear hb ho C1 l_x a_x b_x
          obtain ⟨l_x, a_x, b_x, -, -⟩ := P_x.out.facts
          obtain ⟨rfl, rfl⟩ := HRR.out.1 HR0.out
          have HS1 := Lib.hid (show Calls Tryz.prog 107 #[.bool true, v1] w1 (RetInt (w.heap.size + 2) w1 z) from by
            have := ref_signed_own true v1 (x.natAbs / 2 ^ n) _ (w.heap.size + 2) w1 (HO.out.ownL (Nat.le_refl _))
            rw [HZ.out]
            have e : x = -((x.natAbs : Nat) : Int) := by have := HS.out; omega
            rw [show x / ((2 ^ n : Nat) : Int) = -((x.natAbs / 2 ^ n : Nat) : Int) from by
              conv => lhs; rw [e]
              rw [floor_neg (Nat.two_pow_pos n), if_pos HR0.out]]
            exact this)
          go_wp2_with fail
          refine (HS1.out).mono ?_
          rintro e w9 ⟨v, rfl, hI, hb⟩
          obtain ⟨b9, A9, k9, c9, rfl⟩ := hI.shape
          have pr := P_r0.out.below hb
          have q1 := pr.facts
          have HI := Lib.hid (hI.pair (g := w.heap.size + 1) (a := .bool b9) (b := .slice A9 k9 c9) (by omega))
          have HB := Lib.hid (below2 (belowTo HBW.out hb) (show w.heap.size ≤ w.heap.size + 1 by omega) (.bool b9) (.slice A9 k9 c9))
          have HQ2 := Lib.hid (pr.store (.bool b9) (.slice A9 k9 c9))
          clear hI hb pr
          go_wp2_with fail
          obtain ⟨_, k0, k1, _, _⟩ := HQ2.out.facts
          exact bodyPost_ret (by simp [results, Tryz.results100, go_sem, k0, k1]) rfl ⟨_, rfl, HI.out.base (by omega), HB.out⟩

set_option maxRecDepth 100000 in
set_option maxHeartbeats 4000000 in
theorem ref_Halved_lost (x z k : Int) (A : Option Addr) (c : Nat) (w : World) (h_x : Raw w A c (natL x.natAbs)) (hx : lz x ≤ 1000000) (hk0 : 0 ≤ k) (hk : k ≤ 1048576) (hlt : k < 32 * (lz x : Int)) (hs : x < 0) (hr0 : x.natAbs % 2 ^ k.toNat ≠ 0) (hz : z = x / ((2 ^ k.toNat : Nat) : Int)) :
    Calls Tryz.prog 100 #[.agg #[.bool (decide (x < 0)), .slice A (natL x.natAbs).length c], .int .i64 k] w (RetInt w.heap.size w z) := by
  obtain ⟨n, rfl⟩ := Int.eq_ofNat_of_zero_le hk0
  rw [Int.toNat_natCast] at *
  obtain ⟨m, hm⟩ : ∃ m, m = n / 32 := ⟨_, rfl⟩
  obtain ⟨r, hr⟩ : ∃ r, r = n % 32 := ⟨_, rfl⟩
  obtain ⟨xs, hxs⟩ : ∃ xs, xs = natL x.natAbs := ⟨_, rfl⟩
  obtain ⟨L, hL⟩ : ∃ L, L = xs.length - m := ⟨_, rfl⟩
  unfold lz at hx hlt
  rw [← hxs] at hx hlt h_x ⊢
  have hmi : (n : Int) / 32 = (m : Int) := by omega
  have hri : (n : Int) % 32 = (r : Int) := by omega
  have hrt : (n : Int).tmod 32 = (r : Int) := by rw [Int.tmod_eq_emod_of_nonneg (by omega)]; exact hri
  have hm2 : m < xs.length := by omega
  have hr2 : r ≤ 31 := by omega
  have HLX := Lib.hid (show lz x ≤ 1000000 from by unfold lz; rw [← hxs]; exact hx)
  have HNM := Lib.hid (show n = 32 * m + r by omega)
  have hne : 0 < xs.length := by omega
  have hlm := h_x.limbs
  have hcap := h_x.cap
  have hmost := h_x.most
  have hm3 : (m : Int) < (xs.length : Int) := by omega
  have hm4 : (0 : Int) ≤ (m : Int) := by omega
  have hn1 : (n : Int) ≤ 1048576 := hk
  have hl1 : (xs.length : Int) ≤ 1000000 := by omega
  have g1 : (n : Int) < 32 * (xs.length : Int) := by omega
  have hcm : ¬ c = m := by omega
  have hLi : (xs.length : Int) - (m : Int) = (L : Int) := by omega
  have hv : val xs = x.natAbs := by rw [hxs, val_natL]
  have HV := Lib.hid hv
  have hfl := half_val hlm (Nat.le_of_lt hm2) HNM.out
  have HHV := Lib.hid hfl
  have hrest := half_rest hlm (Nat.le_of_lt hm2) HNM.out
  have HRS := Lib.hid hrest
  have HZ := Lib.hid hz
  have HS := Lib.hid hs
  have HR0 := Lib.hid hr0
  have hng : decide (x < 0) = true := decide_eq_true hs
  obtain ⟨ad, rfl, -, -⟩ := h_x.reads.2 hne
  have p0 := (Pair.new w 24 (.bool (decide (x < 0))) (.slice (some ad) xs.length c)).alloc (.cells #[.bool false, .slice none 0 0] 24)
  have p1 := Pair.new (w.alloc (.cells #[.bool (decide (x < 0)), .slice (some ad) xs.length c] 24)) 24 (.bool false) (.slice none 0 0)
  have b0 := ((Below.refl w.heap.size w).alloc (Nat.le_refl _) (.cells #[.bool (decide (x < 0)), .slice (some ad) xs.length c] 24)).alloc (by simp) (.cells #[.bool false, .slice none 0 0] 24)
  have rx := (h_x.alloc (.cells #[.bool (decide (x < 0)), .slice (some ad) xs.length c] 24)).alloc (.cells #[.bool false, .slice none 0 0] 24)
  simp only [World.size_alloc] at p1
  rw [hng] at p0 p1 b0 rx ⊢
  have P_x := Lib.hid p0
  have P_r0 := Lib.hid p1
  have HBW := Lib.hid b0
  have RX := Lib.hid rx
  have HLM := Lib.hid hlm
  clear p0 p1 b0 rx h_x hs hz hlm hv hfl hrest hL hm hr hx hlt hk0 hk hxs hr0
  go_enter Tryz.func100, Tryz.ntmps100
  obtain ⟨W, E⟩ : ∃ W, W = (w.alloc (.cells #[.bool true, .slice (some ad) xs.length c] 24)).alloc (.cells #[.bool false, .slice none 0 0] 24) := ⟨_, rfl⟩
  go_upto_region 1 with fail
  rw [← E] at P_x P_r0 HBW RX ⊢
  clear E
  obtain ⟨l_x, a_x, b_x, -, -⟩ := P_x.out.facts
  go_wp2_with fail
  go_loop [6, 7] (fun v6 v7 => ∃ (i : Nat) (b : Bool), v6 = .bool b ∧ v7 = .int .i64 i ∧ i ≤ m ∧ Hid (b = decide (val (xs.take i) ≠ 0))) (fun _ v7 => m - (intOf v7).toNat)
  case atStart => exact ⟨0, false, rfl, rfl, Nat.zero_le _, Lib.hid (by simp [val])⟩
  case round =>
    obtain ⟨i, b, rfl, rfl, hi, HB⟩ := hrel
    by_cases him : i < m
    · have i1 : (i : Int) < (m : Int) := by omega
      have i2 : (i : Int) < (xs.length : Int) := by omega
      have i0 : (0 : Int) ≤ (i : Int) := by omega
      have hil : i < xs.length := by omega
      have HN := Lib.hid (part_any xs i hil b HB.out)
      obtain ⟨ad2, e2, had2, hc2⟩ := RX.out.reads.get hil
      obtain rfl := Option.some.inj e2
      obtain ⟨u, hu⟩ : ∃ u : Int, u = ((xs[i] : Nat) : Int) := ⟨_, rfl⟩
      rw [← hu] at hc2
      have HUB := Lib.hid (show decide (xs[i] ≠ 0) = (u != 0) from by rw [hu, Bool.eq_iff_iff]; simp)
      clear hu e2
      cases b
      · by_cases hu0 : u = 0
        · have hub : (u != 0) = false := by rw [hu0]; rfl
          have HN2 := Lib.hid (show false = decide (val (xs.take (i + 1)) ≠ 0) from by have h1 := HN.out; rw [HUB.out, hub] at h1; exact h1)
          subst hu0
          clear hub
          go_wp2_with fail
          go_round
          case rel => exact ⟨i + 1, false, rfl, by go_num, by omega, HN2⟩
          case measure => simp [intOf]; omega
        · have hub : (u != 0) = true := by simpa using hu0
          have HN2 := Lib.hid (show true = decide (val (xs.take (i + 1)) ≠ 0) from by have h1 := HN.out; rw [HUB.out, hub] at h1; exact h1)
          clear hu0
          go_wp2_with fail
          go_round
          case rel => exact ⟨i + 1, true, rfl, by go_num, by omega, HN2⟩
          case measure => simp [intOf]; omega
      · have HN2 := Lib.hid (show true = decide (val (xs.take (i + 1)) ≠ 0) from by have h1 := HN.out; rw [Bool.true_or] at h1; exact h1)
        go_wp2_with fail
        go_round
        case rel => exact ⟨i + 1, true, rfl, by go_num, by omega, HN2⟩
        case measure => simp [intOf]; omega
    · obtain rfl : i = m := by omega
      have HLO := Lib.hid HB.out
      clear HB
      go_wp2_with fail
      go_loop [8, 9] (fun v6 v7 => ∃ k f : Nat, v6 = .int .u32 f ∧ v7 = .int .i64 k ∧ k ≤ r ∧ f < 4294967296 ∧ Hid (f = 2 ^ k)) (fun _ v7 => r - (intOf v7).toNat)
      case atStart => exact ⟨0, 1, rfl, rfl, Nat.zero_le _, by omega, Lib.hid rfl⟩
      case round =>
        obtain ⟨k, f, rfl, rfl, hk, hf, HF⟩ := hrel
        by_cases hkr : k < r
        · have h2f : 2 * f < 4294967296 := by
            have e : 2 * f = 2 ^ (k + 1) := by rw [HF.out, Nat.pow_succ, Nat.mul_comm]
            rw [e]
            exact Nat.lt_of_le_of_lt (Nat.pow_le_pow_right (by omega) (show k + 1 ≤ 31 by omega)) (by decide)
          have hki : (k : Int) < (r : Int) := by omega
          have h2i : (2 * (f : Int)) % 4294967296 = ((2 * f : Nat) : Int) := by omega
          have HF2 := Lib.hid (show 2 * f = 2 ^ (k + 1) by rw [HF.out, Nat.pow_succ, Nat.mul_comm])
          clear HF
          go_wp2_with fail
          go_round
          case rel => exact ⟨k + 1, 2 * f, by first | rfl | go_num, by go_num, hkr, h2f, HF2⟩
          case measure => simp [intOf]; omega
        · obtain rfl : k = r := by omega
          have hf0 : 0 < f := by rw [HF.out]; exact Nat.two_pow_pos _
          have C1 := Lib.hid (fun (V : World) (hV : Raw V (some (ad.add i)) (c - i) (xs.drop i)) => ref_short (some (ad.add i)) (c - i) f (xs.drop i) hf0 hf (by rw [List.length_drop]; omega) V hV)
          have hll : (xs.drop i).length = xs.length - i := by rw [List.length_drop]
          rw [hll] at C1
          have HQ := Lib.hid (show val (xs.drop i) / f = x.natAbs / 2 ^ n from by rw [HF.out, ← HHV.out, HV.out])
          rw [HQ.out] at C1
          obtain ⟨rs, hrs⟩ : ∃ rs, rs = val (xs.drop i) % f := ⟨_, rfl⟩
          rw [← hrs] at C1
          have HRR := Lib.hid (show (x.natAbs % 2 ^ n = 0 ↔ b = false ∧ rs = 0) from by
            have h1 := HRS.out
            rw [HV.out, ← HF.out, ← hrs] at h1
            rw [h1, HLO.out]
            simp)
          clear hll hrs hf0
          go_wp2_with fail
          refine (C1.out W (RX.out.drop hm2)).mono ?_
          rintro e w1 ⟨v1, rfl, ho, hb⟩
          have hsz1 := P_r0.out.blk.lt
          have P_x := Lib.hid (P_x.out.below hb)
          have P_r0 := Lib.hid (P_r0.out.below hb)
          have hszW := HBW.out.size
          have HBW := Lib.hid (belowTo HBW.out hb)
          have HO := Lib.hid (ho.base (b' := w.heap.size + 2) (by omega))
          have hsz := P_r0.out.blk.lt
          clear hb ho C1 l_x a_x b_x
          obtain ⟨l_x, a_x, b_x, -, -⟩ := P_x.out.facts
          obtain ⟨z1, hz1⟩ : ∃ z1 : Int, z1 = -((x.natAbs / 2 ^ n : Nat) : Int) := ⟨_, rfl⟩
          obtain ⟨one, hone⟩ : ∃ z1 : Int, z1 = 1 := ⟨_, rfl⟩
          have hll : lz z1 ≤ 1000000 := by
            refine Nat.le_trans (lz_mono (y := x) ?_) HLX.out
            rw [hz1, Int.natAbs_neg, Int.natAbs_natCast]
            exact Nat.div_le_self _ _
          have hl1' : lz one ≤ 2 := by rw [hone]; decide
          have HS1 := Lib.hid (show Calls Tryz.prog 107 #[.bool true, v1] w1 (RetInt w.heap.size w1 z1) from by
            have := ref_signed_own true v1 (x.natAbs / 2 ^ n) _ (w.heap.size) w1 ((HO.out.base (b' := w.heap.size) (by omega)).ownL (Nat.le_refl _))
            rw [hz1]
            exact this)
          have HZ2 := Lib.hid (show z = z1 - one from by
            rw [HZ.out, hz1, hone]
            have e : x = -((x.natAbs : Nat) : Int) := by have := HS.out; omega
            conv => lhs; rw [e]
            rw [floor_neg (Nat.two_pow_pos n), if_neg HR0.out]
            omega)
          have HC2 := Lib.hid (fun V : World => rof 1 one hone (by decide) (by decide) V)
          have hrb : (b || decide (0 < rs)) = true := by
            have h1 := HRR.out
            cases b
            · rw [Bool.false_or]; exact decide_eq_true (by have h2 := HR0.out; rcases Nat.eq_zero_or_pos rs with h3 | h3; exact absurd (h1.2 ⟨rfl, h3⟩) h2; exact h3)
            · rfl
          clear hz1 hone
          cases b
          case' false => have hrs0 : 0 < rs := by simpa using hrb
          all_goals clear hrb
          all_goals go_wp2_with fail
          all_goals
            refine HS1.out.mono ?_
            rintro e w2 ⟨v2, rfl, hI2, hb2⟩
            obtain ⟨A2, c2, rfl, r2⟩ := hI2.raw
            have P_r0 := Lib.hid (P_r0.out.below hb2)
            have HBW := Lib.hid (belowTo HBW.out hb2)
            have R2 := Lib.hid r2
            clear hI2 hb2 r2 l_x a_x b_x HS1
            go_wp2_with fail
            refine (HC2.out w2).mono ?_
            rintro e w3 ⟨v3, rfl, hI3, hb3⟩
            obtain ⟨A3, c3, rfl, r3⟩ := hI3.raw
            have P_r0 := Lib.hid (P_r0.out.below hb3)
            have HBW := Lib.hid (belowTo HBW.out hb3)
            have R2 := Lib.hid (R2.out.below hb3)
            have R3 := Lib.hid r3
            have hsz3 := P_r0.out.blk.lt
            clear hI3 hb3 r3 HC2
            go_wp2_with fail
            refine (rminus z1 one z A2 A3 c2 c3 w3 R2.out R3.out (by omega) (by omega) HZ2.out).mono ?_
            rintro e w9 ⟨v, rfl, hI, hb⟩
            obtain ⟨b9, A9, k9, c9, rfl⟩ := hI.shape
            have pr := P_r0.out.below hb
            have q1 := pr.facts
            have HI := Lib.hid (hI.pair (g := w.heap.size + 1) (a := .bool b9) (b := .slice A9 k9 c9) (by omega))
            have HB := Lib.hid (below2 (belowTo HBW.out hb) (show w.heap.size ≤ w.heap.size + 1 by omega) (.bool b9) (.slice A9 k9 c9))
            have HQ2 := Lib.hid (pr.store (.bool b9) (.slice A9 k9 c9))
            clear hI hb pr
            go_wp2_with fail
            obtain ⟨_, k0, k1, _, _⟩ := HQ2.out.facts
            exact bodyPost_ret (by simp [results, Tryz.results100, go_sem, k0, k1]) rfl ⟨_, rfl, HI.out.base (by omega), HB.out⟩

theorem rhalved (x z k : Int) (A : Option Addr) (c : Nat) (w : World) (h : Raw w A c (natL x.natAbs)) (hx : lz x ≤ 1000000) (hk0 : 0 ≤ k) (hk : k ≤ 1048576) (hz : z = x / ((2 ^ k.toNat : Nat) : Int)) :
    Calls Tryz.prog 100 #[.agg #[.bool (decide (x < 0)), .slice A (natL x.natAbs).length c], .int .i64 k] w (RetInt w.heap.size w z) := by
  rcases (by omega : k < 32 * (lz x : Int) ∨ 32 * (lz x : Int) ≤ k) with hlt | hge
  · rcases (by omega : 0 ≤ x ∨ x < 0) with hs | hs
    · exact ref_Halved_pos x z k A c w h hx hk0 hk hlt hs hz
    · by_cases hr0 : x.natAbs % 2 ^ k.toNat = 0
      · exact ref_Halved_exact x z k A c w h hx hk0 hk hlt hs hr0 hz
      · exact ref_Halved_lost x z k A c w h hx hk0 hk hlt hs hr0 hz
  · have hl : x.natAbs < 2 ^ k.toNat := by
      have h1 := lz_lt x
      rw [show (4294967296 : Nat) = 2 ^ 32 by decide, ← Nat.pow_mul] at h1
      exact Nat.lt_of_lt_of_le h1 (Nat.pow_le_pow_right (by omega) (by omega))
    rcases (by omega : 0 ≤ x ∨ x < 0) with hs | hs
    · refine ref_Halved_all_pos x z k A c w h hx hk0 hk hge hs ?_
      obtain ⟨t, rfl⟩ := Int.eq_ofNat_of_zero_le hs
      rw [hz, floor_pos, Nat.div_eq_of_lt (by simpa using hl)]; rfl
    · refine ref_Halved_all_neg x z k A c w h hx hk0 hk hge hs ?_
      rw [hz]
      have e : x = -((x.natAbs : Nat) : Int) := by omega
      rw [e]
      exact floor_all (by omega) (by simpa using hl)
end Go.Proofs.YtpcdiijmhllejaaGreatDoor
