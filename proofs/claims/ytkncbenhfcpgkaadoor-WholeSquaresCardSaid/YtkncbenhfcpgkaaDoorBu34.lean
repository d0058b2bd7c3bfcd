/- Several texts in one: RootLawq1, Rootq1, RootExq1. -/
import Derived.Test.YtkncbenhfcpgkaaDoorBu25
import Derived.Lib.Hide
import Derived.Test.YtkncbenhfcpgkaaDoorBu26
import Derived.Test.YtkncbenhfcpgkaaDoorBuHd
import Derived.Test.YtkncbenhfcpgkaaDoorBu33
import Derived.Test.YtkncbenhfcpgkaaDoorBu19
import Derived.Test.YtkncbenhfcpgkaaDoorBu21
import Derived.Test.YtkncbenhfcpgkaaDoorBu32
import Derived.Test.YtkncbenhfcpgkaaDoorBu22
import Derived.Test.YtkncbenhfcpgkaaDoorBu17
import Derived.Test.YtkncbenhfcpgkaaDoorBu18
import Derived.Test.YtkncbenhfcpgkaaDoorBu09
import Derived.Test.YtkncbenhfcpgkaaDoorBu13
import Derived.Test.YtkncbenhfcpgkaaDoorBu04
import Derived.Test.YtkncbenhfcpgkaaDoorBu03
import Derived.Test.YtkncbenhfcpgkaaDoorBu02
import Derived.Test.YtkncbenhfcpgkaaDoorBu01
import Derived.Test.YtkncbenhfcpgkaaDoorBu11
import Derived.Test.YtkncbenhfcpgkaaDoorBu12
import Derived.Test.YtkncbenhfcpgkaaDoorBu06
import Derived.Test.YtkncbenhfcpgkaaDoorBu05
import Derived.Test.YtkncbenhfcpgkaaDoorBu10
import Derived.Test.YtkncbenhfcpgkaaDoorBu08
import Derived.Test.YtkncbenhfcpgkaaDoorBu16
import Derived.Test.YtkncbenhfcpgkaaDoorBu14
import Derived.Test.YtkncbenhfcpgkaaDoorBu15
import Derived.Test.YtkncbenhfcpgkaaDoorBu07
import Derived.Test.YtkncbenhfcpgkaaDoorBu23
import Derived.Test.YtkncbenhfcpgkaaDoorBu24
import Derived.Deep.LoopGhost
import Derived.Test.YtkncbenhfcpgkaaDoorBu27
set_option maxRecDepth 100000
set_option maxHeartbeats 8000000
/- The root by Newton's steps: plain Lean. -/
namespace Go.Proofs.YtkncbenhfcpgkaaDoor

theorem root_above {x r n : Nat} (hr : 0 < r) (h : n = (r + x / r) / 2) : x < (n + 1) * (n + 1) := by
  obtain ⟨q, hq⟩ : ∃ q, q = x / r := ⟨_, rfl⟩
  rw [← hq] at h
  have h1 : x < r * (q + 1) := by
    rw [hq]; exact Nat.lt_mul_div_succ x hr
  have h2 : r + (q + 1) ≤ 2 * (n + 1) := by omega
  have h3 : 4 * (r * (q + 1)) ≤ (r + (q + 1)) * (r + (q + 1)) := by
    generalize q + 1 = s
    have e : ((r : Int) - s) * (r - s) ≥ 0 := by
      rcases Int.le_total 0 ((r : Int) - s) with h | h
      · exact Int.mul_nonneg h h
      · exact Int.mul_nonneg_of_nonpos_of_nonpos h h
    have e2 : (4 * ((r : Int) * s)) ≤ ((r : Int) + s) * (r + s) := by grind
    exact_mod_cast e2
  have h4 : (r + (q + 1)) * (r + (q + 1)) ≤ (2 * (n + 1)) * (2 * (n + 1)) := Nat.mul_le_mul h2 h2
  have h5 : (2 * (n + 1)) * (2 * (n + 1)) = 4 * ((n + 1) * (n + 1)) := by grind
  omega
theorem root_stop {x r n : Nat} (h : n = (r + x / r) / 2) (hn : r ≤ n) : r * r ≤ x := by
  have h1 : r ≤ x / r := by omega
  calc r * r ≤ r * (x / r) := Nat.mul_le_mul_left _ h1
    _ ≤ x := Nat.mul_div_le x r
theorem root_pos {x r n : Nat} (hx : 0 < x) (hr : 0 < r) (h : n = (r + x / r) / 2) : 0 < n := by
  rcases (by omega : r = 1 ∨ 2 ≤ r) with h1 | h1
  · subst h1; rw [Nat.div_one] at h; omega
  · generalize x / r = q at h
    omega
theorem root_one {x r s : Nat} (h : IsRoot x r) (g : IsRoot x s) : r = s := by
  have lem : ∀ a b : Nat, IsRoot x a → IsRoot x b → a ≤ b := fun a b ha hb => by
    rcases Nat.lt_or_ge b a with hl | hl
    · have h1 := Nat.mul_le_mul hl hl
      have h2 := ha.1
      have h3 := hb.2
      have h4 : (b + 1) * (b + 1) = b.succ * b.succ := rfl
      omega
    · exact hl
  exact Nat.le_antisymm (lem r s h g) (lem s r g h)
theorem root_start {x b k : Nat} (h : x < 2 ^ b) (hk : b ≤ 2 * k) : x < (2 ^ k + 1) * (2 ^ k + 1) := by
  have h1 : 2 ^ b ≤ 2 ^ (2 * k) := Nat.pow_le_pow_right (by omega) hk
  have h2 : 2 ^ (2 * k) = 2 ^ k * 2 ^ k := by rw [Nat.two_mul, Nat.pow_add]
  have h3 : 2 ^ k * 2 ^ k ≤ (2 ^ k + 1) * (2 ^ k + 1) := Nat.mul_le_mul (Nat.le_succ _) (Nat.le_succ _)
  omega
/- Root of package exact: Newton's steps from above. (Written by wip/exact/genroot.py.) -/
open Go.RowKit

theorem isRootZ {x r : Int} (hx : 0 ≤ x) : IsRootZ x r ↔ 0 ≤ r ∧ IsRoot x.toNat r.toNat := by
  unfold IsRootZ IsRoot
  constructor
  · rintro ⟨h0, h1, h2⟩
    obtain ⟨n, rfl⟩ := Int.eq_ofNat_of_zero_le h0
    obtain ⟨m, rfl⟩ := Int.eq_ofNat_of_zero_le hx
    refine ⟨h0, ?_, ?_⟩
    · simp only [Int.toNat_natCast]; exact_mod_cast h1
    · simp only [Int.toNat_natCast]; exact_mod_cast h2
  · rintro ⟨h0, h1, h2⟩
    obtain ⟨n, rfl⟩ := Int.eq_ofNat_of_zero_le h0
    obtain ⟨m, rfl⟩ := Int.eq_ofNat_of_zero_le hx
    simp only [Int.toNat_natCast] at h1 h2
    refine ⟨h0, ?_, ?_⟩
    · exact_mod_cast h1
    · exact_mod_cast h2
theorem rootZ_one {x r s : Int} (hx : 0 ≤ x) (h : IsRootZ x r) (g : IsRootZ x s) : r = s := by
  have h1 := ((isRootZ hx).1 h)
  have h2 := ((isRootZ hx).1 g)
  have := root_one h1.2 h2.2
  omega
theorem root_stepZ {x r q n : Int} (hx : 0 < x) (hr : 0 < r) (hq : q = x.tdiv r) (hn : n = (r + q) / ((2 ^ (1 : Int).toNat : Nat) : Int)) :
    0 ≤ q ∧ 0 < n ∧ x < (n + 1) * (n + 1) ∧ (r ≤ n → r * r ≤ x) := by
  obtain ⟨a, rfl⟩ := Int.eq_ofNat_of_zero_le (Int.le_of_lt hx)
  obtain ⟨b, rfl⟩ := Int.eq_ofNat_of_zero_le (Int.le_of_lt hr)
  have e1 : q = ((a / b : Nat) : Int) := by rw [hq, Int.ofNat_tdiv]
  have e2 : n = (((b + a / b) / 2 : Nat) : Int) := by
    rw [hn, e1, show (1 : Int).toNat = 1 by rfl, Nat.pow_one]
    generalize a / b = t
    omega
  have hb : 0 < b := by omega
  have h1 := root_above (x := a) hb rfl
  have h2 := root_pos (x := a) (by omega) hb rfl
  refine ⟨by rw [e1]; exact Int.natCast_nonneg _, by omega, ?_, fun h => ?_⟩
  · rw [e2]; exact_mod_cast h1
  · have h3 := root_stop (x := a) (r := b) rfl (by omega)
    exact_mod_cast h3
theorem root_startZ {x : Int} (hx : 0 < x) {k : Nat} (hk : k = (bitsI (natL x.natAbs) + 1) / 2) : x < (((2 ^ k : Nat) : Int) + 1) * (((2 ^ k : Nat) : Int) + 1) := by
  obtain ⟨a, rfl⟩ := Int.eq_ofNat_of_zero_le (Int.le_of_lt hx)
  obtain ⟨h1, h2, h3⟩ := bits_val (n := a) (by omega)
  have := root_start (k := k) h3 (by rw [hk]; simp only [Int.natAbs_natCast]; omega)
  exact_mod_cast this
theorem lz_two (k : Nat) : lz ((2 ^ k : Nat) : Int) ≤ k / 32 + 1 := by
  rw [lz_le, Int.natAbs_natCast, show (4294967296 : Nat) = 2 ^ 32 by decide, ← Nat.pow_mul]
  exact Nat.pow_lt_pow_right (by omega) (by omega)
theorem exact_Root_nought (x : Int) (A : Option Addr) (c : Nat) (w : World) (h_x : Raw w A c (natL x.natAbs)) (hx0 : x = 0) :
    Calls Tryd.prog 19 #[.agg #[.bool (decide (x < 0)), .slice A (natL x.natAbs).length c]] w (RetRoot w.heap.size w 0 true) := by
  have HX := Hd hx0
  clear hx0
  have b0 := (((Below.refl w.heap.size w).alloc (Nat.le_refl _) (.cells #[.bool (decide (x < 0)), .slice A (natL x.natAbs).length c] 24)).alloc (by simp) (.cells #[.bool false, .slice none 0 0] 24))
  have p0 := (Pair.new w 24 (.bool (decide (x < 0))) (.slice A (natL x.natAbs).length c)).alloc (.cells #[.bool false, .slice none 0 0] 24)
  have p1 := Pair.new (w.alloc (.cells #[.bool (decide (x < 0)), .slice A (natL x.natAbs).length c] 24)) 24 (.bool false) (.slice none 0 0)
  simp only [World.size_alloc] at p1
  have V_x := Hd (NV.of h_x b0 p0)
  have P_r0 := Hd p1
  have RW_x := Hd h_x
  have HBW := Hd b0
  clear b0 p0 p1 h_x
  go_enter Tryd.func19, Tryd.ntmps19
  obtain ⟨W, E⟩ : ∃ W, W = ((w.alloc (.cells #[.bool (decide (x < 0)), .slice A (natL x.natAbs).length c] 24)).alloc (.cells #[.bool false, .slice none 0 0] 24)) := ⟨_, rfl⟩
  go_upto_region 1 with fail
  rw [← E] at V_x P_r0 HBW ⊢
  clear E
  have h1 := nought_len HX.out
  obtain ⟨l_x, a_x, b_x, -, -⟩ := V_x.out.pair.facts
  obtain ⟨l_r0, a_r0, b_r0, f_r0, g_r0⟩ := P_r0.out.facts
  have HQ := Hd (P_r0.out.store (.bool false) (.slice none 0 0))
  have HB := Hd (below2 HBW.out (show w.heap.size ≤ w.heap.size + 1 by omega) (.bool false) (.slice none 0 0))
  have hq0 := HQ.out.facts
  go_wp2_with fail
  obtain ⟨_, k0, k1, _, _⟩ := HQ.out.facts
  exact bodyPost_ret (by simp [results, Tryd.results19, go_sem, k0, k1]) rfl ⟨.agg #[.bool false, .slice none 0 0], rfl, IntOwn.nought _ _, HB.out⟩

theorem exact_Root_same (x rr : Int) (A : Option Addr) (c : Nat) (w : World) (h_x : Raw w A c (natL x.natAbs)) (hx : lz x ≤ 60000) (hx0 : 0 < x) (hr : IsRootZ x rr) (hq : rr * rr = x) :
    Calls Tryd.prog 19 #[.agg #[.bool (decide (x < 0)), .slice A (natL x.natAbs).length c]] w (RetRoot w.heap.size w rr true) := by
  obtain ⟨k0, hk0⟩ : ∃ k : Nat, k = (bitsI (natL x.natAbs) + 1) / 2 := ⟨_, rfl⟩
  obtain ⟨kb, hkb⟩ : ∃ k : Int, k = ((bitsI (natL x.natAbs) : Nat) : Int) := ⟨_, rfl⟩
  obtain ⟨one, hone⟩ : ∃ k : Int, k = 1 := ⟨_, rfl⟩
  obtain ⟨r0, hr0⟩ : ∃ k : Int, k = ((2 ^ k0 : Nat) : Int) := ⟨_, rfl⟩
  have hbt := bits_two hx (by omega)
  have hs0 := root_startZ hx0 hk0
  rw [← hr0] at hs0
  have hl0 := lz_two k0
  rw [← hr0] at hl0
  have hp0 : 0 < r0 := by rw [hr0]; have := Nat.two_pow_pos k0; omega
  have HS0 := Hd (show 0 < r0 ∧ x < (r0 + 1) * (r0 + 1) ∧ lz r0 ≤ 100000 from ⟨hp0, hs0, by omega⟩)
  have hkk : (kb + 1) / 2 = (k0 : Int) := by omega
  have hkb2 : kb ≤ 3200000 := by omega
  have hkt : (kb + 1).tdiv 2 = (k0 : Int) := by rw [Int.tdiv_eq_ediv_of_nonneg (by omega)]; exact hkk
  have hkb1 : 1 ≤ kb := by omega
  have C1 := Hd (fun (V : World) => eof 1 one hone (by decide) (by decide) V)
  have C2 := Hd (fun (V : World) (a : Raw V A c (natL x.natAbs)) => ebits x kb A c V a (by omega) hkb)
  have C3 := Hd (fun (V : World) (A1 : Option Addr) (c1 : Nat) (a : Raw V A1 c1 (natL one.natAbs)) => edouble one r0 (k0 : Int) A1 c1 V a (by rw [hone]; decide) (by omega) (by omega) (by omega) (by rw [hone, hr0, Int.toNat_natCast, Int.one_mul]))
  have HX := Hd hx0
  have HLX := Hd hx
  have HR := Hd hr
  have HQ := Hd hq
  clear hx hx0 hr hq hk0 hkb hone hr0 hbt hs0 hl0 hp0
  have b0 := (((Below.refl w.heap.size w).alloc (Nat.le_refl _) (.cells #[.bool (decide (x < 0)), .slice A (natL x.natAbs).length c] 24)).alloc (by simp) (.cells #[.bool false, .slice none 0 0] 24))
  have p0 := (Pair.new w 24 (.bool (decide (x < 0))) (.slice A (natL x.natAbs).length c)).alloc (.cells #[.bool false, .slice none 0 0] 24)
  have p1 := Pair.new (w.alloc (.cells #[.bool (decide (x < 0)), .slice A (natL x.natAbs).length c] 24)) 24 (.bool false) (.slice none 0 0)
  simp only [World.size_alloc] at p1
  have V_x := Hd (NV.of h_x b0 p0)
  have P_r0 := Hd p1
  have RW_x := Hd h_x
  have HBW := Hd b0
  clear b0 p0 p1 h_x
  go_enter Tryd.func19, Tryd.ntmps19
  obtain ⟨W, E⟩ : ∃ W, W = ((w.alloc (.cells #[.bool (decide (x < 0)), .slice A (natL x.natAbs).length c] 24)).alloc (.cells #[.bool false, .slice none 0 0] 24)) := ⟨_, rfl⟩
  go_upto_region 1 with fail
  rw [← E] at V_x P_r0 HBW ⊢
  clear E
  have h1 := more_len (show x ≠ 0 by have := HX.out; omega)
  have hszW := P_r0.out.blk.lt
  obtain ⟨l_x, a_x, b_x, -, -⟩ := V_x.out.pair.facts
  go_upto_region 3 with fail
  clear h1
  clear l_x a_x b_x
  refine wp_region_free [.any false (fun u V => IntOwn V w.heap.size u one) [], .val (.agg #[.bool (decide (x < 0)), .slice A (natL x.natAbs).length c]) [], .val (.int .i64 kb) [], .val (.int .i64 (kb + 1)) [], .val (.int .i64 (k0 : Int)) [], .any false (fun u V => IntOwn V w.heap.size u r0) [0], .old (w.heap.size + 1) 24 #[.bool false, .slice none 0 0] 0 2 5 []] (w.heap.size + 1) W [24] (fun _ _ => False) _ mixedOrders2 (by omega) (Below.refl _ _) (KeptV.refl _ _ _) rfl (by kernel_rfl) (by kernel_rfl) (by kernel_rfl) (by kernel_rfl) (by kernel_rfl) (by kernel_rfl) (by kernel_rfl) (by kernel_rfl) rfl (by simp [oldsF]) ?_ ?_ ?_ ?_
  · simp only [StableF, and_true]
    exact ⟨fun u V V' h k => h.kept k (by decide), fun u V V' h k => h.kept k (by decide)⟩
  · simp only [OldsF, and_true]
    exact ⟨by omega, by omega, P_r0.out.blk, by simp⟩
  · simp (maxSteps := 4000000) [StepsF, DepF, freeAct, fill, pairs]
    repeat' (first | apply And.intro | (intro (u : Value)) | (intro (u : Nat)))
    all_goals try exact ⟨_, _, _, rfl, rfl, rfl, rfl, intInfo⟩
    all_goals first
    | (intro V hV hK
       have nx := (⟨⟨V_x.out.pair.blk.below hV (Nat.lt_succ_self _)⟩, RW_x.out.below (HBW.out.trans (hV.mono (by omega)))⟩ : NV V w.heap.size x A c)
       obtain ⟨-, a_x, b_x, -, -⟩ := nx.pair.facts
       have r_x := Hd nx.raw
       have hsK := hK.size
       clear hV hK nx
       go_simp
       first
       | exact Below.refl _ _
       | exact ⟨by first | rfl | exact hkt | decide | go_num | (rw [IntKind.wrap_i64]; omega), Below.refl _ _⟩
       | ((with_reducible refine (C1.out V).mono ?_); rintro e w' ⟨v, rfl, hv, hb⟩; exact ⟨hv.base (by omega), hb⟩)
       | ((with_reducible refine (C2.out V r_x.out).mono ?_); rintro e w' ⟨rfl, hb⟩; exact ⟨rfl, hb⟩))
    | (intro V hV hK hu
       obtain ⟨A', c', rfl, hr⟩ := hu.raw
       have r2 := Hd hr
       have hsK := hK.size
       clear hV hK hu hr
       go_simp
       (with_reducible refine (C3.out V A' c' r2.out).mono ?_)
       rintro e w' ⟨v, rfl, hv, hb⟩
       exact ⟨hv.base (by omega), hb⟩)
    | exact fun _ _ _ (h : IntOwn _ _ _ _) => h.cells
  · simp [EndF, FactsF, freeAct, fill, pairs]
    intro u1 u2 V hV hK h1 h2 bq _ _ _
    obtain ⟨A1, c1, rfl, q1⟩ := h2.raw
    simp [setAll, Value.cells] at bq
    obtain ⟨br, hbr⟩ : ∃ br, br = w.heap.size + 1 := ⟨_, rfl⟩
    rw [← hbr] at bq ⊢
    have HR0 := Hd (show RootAt w V w.heap.size br x A c r0 A1 c1 from ⟨(⟨⟨V_x.out.pair.blk.below hV (Nat.lt_succ_self _)⟩, RW_x.out.below (HBW.out.trans (hV.mono (by omega)))⟩ : NV V w.heap.size x A c).pair, ⟨bq⟩, h2, HBW.out.trans (hV.mono (by omega)), HS0.out.1, HS0.out.2.1, HS0.out.2.2⟩)
    have hszr : w.heap.size < br := by omega
    clear h1 h2 bq q1 hV hK hbr C1 C2 C3 HS0 V_x P_r0 hkk hkt hkb1 hkb2 HBW
    go_wp2_with fail
    go_loopg [] (r0.toNat) (fun k wr => Hid (∃ r A1 c1, k = r.toNat ∧ RootAt w wr w.heap.size br x A c r A1 c1))
    case atStart => exact Hd ⟨r0, A1, c1, rfl, HR0.out⟩
    case round =>
      clear HR0
      obtain ⟨r, A1, c1, HGK, hra⟩ := hrel.out
      have HRA := Hd hra
      have HGK := Hd HGK
      clear hrel hra
      have O_r := Hd HRA.out.own
      have HBW := Hd HRA.out.low
      have HAB := Hd HRA.out.above
      have V_x := Hd (show NV wr w.heap.size x A c from ⟨HRA.out.px, RW_x.out.below HRA.out.low⟩)
      have V_r := Hd (show NV wr br r A1 c1 from ⟨HRA.out.pr, HRA.out.own.rawAt⟩)
      obtain ⟨q, hq⟩ : ∃ q : Int, q = x.tdiv r := ⟨_, rfl⟩
      obtain ⟨m, hm⟩ : ∃ m : Int, m = x.tmod r := ⟨_, rfl⟩
      obtain ⟨s, hs⟩ : ∃ s : Int, s = r + q := ⟨_, rfl⟩
      obtain ⟨n, hn⟩ : ∃ n : Int, n = s / ((2 ^ (1 : Int).toNat : Nat) : Int) := ⟨_, rfl⟩
      have hst := root_stepZ HX.out HRA.out.pos hq (hs ▸ hn)
      have hlr := HRA.out.len
      have hlx : lz x ≤ 100000 := Nat.le_trans HLX.out (by decide)
      have hlq : lz q ≤ 100000 := Nat.le_trans (lz_mono (y := x) (by rw [hq, Int.natAbs_tdiv]; exact Nat.div_le_self _ _)) hlx
      have hls : lz s ≤ 100001 := by have := lz_add r q; rw [← hs] at this; omega
      have hn2 : n = s / 2 := hn
      have hln : lz n ≤ 100001 := Nat.le_trans (lz_mono (show n.natAbs ≤ s.natAbs by omega)) hls
      have HST := Hd hst
      have HQE := Hd (And.intro hq hm)
      have HSE := Hd hs
      have HNE := Hd hn
      have hpos := HRA.out.pos
      have HRX := Hd (show r ≠ 0 by omega)
      have HPOS := Hd (show 0 < r ∧ 0 < n from ⟨hpos, hst.2.1⟩)
      have hsz1 := V_r.out.pair.blk.lt
      clear hq hm hs hn hn2 hst hpos HRA
      obtain ⟨l_x, a_x, b_x, -, -⟩ := V_x.out.pair.facts
      obtain ⟨l_r, a_r, b_r, -, -⟩ := V_r.out.pair.facts
      go_wp2_with fail
      refine (edivide x r q m A A1 c c1 wr V_x.out.raw V_r.out.raw (by omega) (by omega) HRX.out HQE.out.1 HQE.out.2).mono ?_
      rintro e x1 ⟨v1, v2, rfl, hI, hb⟩
      obtain ⟨A2, c2, rfl, rq⟩ := hI.one.raw
      obtain ⟨A3, c3, rfl, rm⟩ := hI.two.raw
      clear l_x a_x b_x l_r a_r b_r
      have V_x := Hd (V_x.out.below hb)
      have V_r := Hd (V_r.out.below hb)
      have O_r := Hd (O_r.out.below hb)
      have HBW := Hd (belowTo HBW.out hb)
      have R_q := Hd rq
      have R_m := Hd rm
      clear hb rq rm hI
      go_upto_region 5 with fail
      have ha := (((Below.refl x1.heap.size x1).alloc (Nat.le_refl _) (.cells #[.bool (decide (q < 0)), .slice A2 (natL q.natAbs).length c2] 24)).alloc (by simp) (.cells #[.bool (decide (m < 0)), .slice A3 (natL m.natAbs).length c3] 24))
      have p_q := ((Pair.new x1 24 (.bool (decide (q < 0))) (.slice A2 (natL q.natAbs).length c2)).alloc (.cells #[.bool (decide (m < 0)), .slice A3 (natL m.natAbs).length c3] 24))
      have p_m := (Pair.new (x1.alloc (.cells #[.bool (decide (q < 0)), .slice A2 (natL q.natAbs).length c2] 24)) 24 (.bool (decide (m < 0))) (.slice A3 (natL m.natAbs).length c3))
      simp only [World.size_alloc] at p_m
      obtain ⟨y2, E⟩ : ∃ W, W = ((x1.alloc (.cells #[.bool (decide (q < 0)), .slice A2 (natL q.natAbs).length c2] 24)).alloc (.cells #[.bool (decide (m < 0)), .slice A3 (natL m.natAbs).length c3] 24)) := ⟨_, rfl⟩
      rw [← E] at ha p_q p_m ⊢
      have V_q := Hd (NV.of R_q.out ha p_q)
      have V_m := Hd (NV.of R_m.out ha p_m)
      have V_x := Hd (V_x.out.below ha)
      have V_r := Hd (V_r.out.below ha)
      have O_r := Hd (O_r.out.below ha)
      have HBW := Hd (belowTo HBW.out ha)
      obtain ⟨g2, hg⟩ : ∃ g, g = x1.heap.size := ⟨_, rfl⟩
      rw [← hg] at V_q V_m ⊢
      clear E ha hg p_q p_m
      clear V_m
      obtain ⟨l_r, a_r, b_r, -, -⟩ := V_r.out.pair.facts
      obtain ⟨l_q, a_q, b_q, -, -⟩ := V_q.out.pair.facts
      go_wp2_with fail
      refine (eplus r q s A1 A2 c1 c2 y2 V_r.out.raw V_q.out.raw (by omega) (by omega) HSE.out).mono ?_
      rintro e x3 ⟨v4, rfl, hI4, hb⟩
      obtain ⟨A4, c4, rfl, r4⟩ := hI4.raw
      clear hI4
      clear l_r a_r b_r l_q a_q b_q
      have V_x := Hd (V_x.out.below hb)
      have V_r := Hd (V_r.out.below hb)
      have V_q := Hd (V_q.out.below hb)
      have O_r := Hd (O_r.out.below hb)
      have HBW := Hd (belowTo HBW.out hb)
      have R_s := Hd r4
      clear hb r4
      clear V_q
      go_wp2_with fail
      refine (ehalved s n 1 A4 c4 x3 R_s.out (by omega) (by omega) (by omega) HNE.out).mono ?_
      rintro e x4 ⟨v5, rfl, hI5, hb⟩
      obtain ⟨A5, c5, rfl, r5⟩ := hI5.raw
      have hlow : w.heap.size ≤ x3.heap.size := HBW.out.size
      have V_x := Hd (V_x.out.below hb)
      have V_r := Hd (V_r.out.below hb)
      have R_s := Hd (R_s.out.below hb)
      have O_r := Hd (O_r.out.below hb)
      have HBW := Hd (belowTo HBW.out hb)
      have R_n := Hd r5
      have O_n := Hd (hI5.base hlow)
      clear hb r5 hI5 R_s hlow
      go_upto_region 6 with fail
      have ha := ((Below.refl x4.heap.size x4).alloc (Nat.le_refl _) (.cells #[.bool (decide (n < 0)), .slice A5 (natL n.natAbs).length c5] 24))
      have p_n := (Pair.new x4 24 (.bool (decide (n < 0))) (.slice A5 (natL n.natAbs).length c5))
      obtain ⟨y5, E⟩ : ∃ W, W = (x4.alloc (.cells #[.bool (decide (n < 0)), .slice A5 (natL n.natAbs).length c5] 24)) := ⟨_, rfl⟩
      rw [← E] at ha p_n ⊢
      have V_n := Hd (NV.of R_n.out ha p_n)
      have V_x := Hd (V_x.out.below ha)
      have V_r := Hd (V_r.out.below ha)
      have O_r := Hd (O_r.out.below ha)
      have O_n := Hd (O_n.out.below ha)
      have HBW := Hd (belowTo HBW.out ha)
      obtain ⟨g5, hg⟩ : ∃ g, g = x4.heap.size := ⟨_, rfl⟩
      rw [← hg] at V_n ⊢
      clear E ha hg p_n
      obtain ⟨kc, hkc⟩ : ∃ k : Int, k = cmpz n r := ⟨_, rfl⟩
      have HKC := Hd hkc
      by_cases hlt : n < r
      · skip
        obtain rfl : kc = -1 := by rw [hkc]; exact cmpz_lt hlt
        have HLT := Hd hlt
        clear hkc hlt
        obtain ⟨l_n, a_n, b_n, -, -⟩ := V_n.out.pair.facts
        obtain ⟨l_r, a_r, b_r, -, -⟩ := V_r.out.pair.facts
        go_wp2_with fail
        refine (ecmp n r (-1) A5 A1 c5 c1 y5 V_n.out.raw V_r.out.raw (by omega) (by omega) HKC.out).mono ?_
        rintro e x6 ⟨rfl, hb⟩
        clear l_n a_n b_n l_r a_r b_r
        have V_x := Hd (V_x.out.below hb)
        have V_r := Hd (V_r.out.below hb)
        have V_n := Hd (V_n.out.below hb)
        have O_r := Hd (O_r.out.below hb)
        have O_n := Hd (O_n.out.below hb)
        have HBW := Hd (belowTo HBW.out hb)
        clear hb
        obtain ⟨l_n, a_n, b_n, -, -⟩ := V_n.out.pair.facts
        obtain ⟨l_r, a_r, b_r, -, -⟩ := V_r.out.pair.facts
        have qr := V_r.out.pair.facts
        have HN := Hd (show RootAt w ((x6.setCell ⟨br, 0, none⟩ (.bool (decide (n < 0)))).setCell ⟨br, 1, none⟩ (.slice A5 (natL n.natAbs).length c5)) w.heap.size br x A c n A5 c5 from
          ⟨V_x.out.pair.far (by omega) _ _, V_r.out.pair.store _ _, O_n.out.pairT V_r.out.pair _ _, below2 HBW.out (by omega) _ _, HPOS.out.2, HST.out.2.2.1, Nat.le_trans (lz_mono (by have := HLT.out; have := HPOS.out; omega)) hlr⟩)
        have HM := Hd (show n.toNat < r.toNat by have := HLT.out; have := HPOS.out; omega)
        go_wp2_with fail
        go_roundg (n.toNat)
        case measure => rw [HGK.out]; exact HM.out
        case rel => exact Hd ⟨n, A5, c5, rfl, HN.out⟩
      · skip
        have hkc0 : decide (0 ≤ kc) = true := decide_eq_true (by rw [hkc]; unfold cmpz; rw [if_neg hlt]; split <;> omega)
        have HRR := Hd (show r = rr from rootZ_one (Int.le_of_lt HX.out) ⟨Int.le_of_lt HPOS.out.1, HST.out.2.2.2 (by omega), HAB.out⟩ HR.out)
        clear hkc hlt
        obtain ⟨l_n, a_n, b_n, -, -⟩ := V_n.out.pair.facts
        obtain ⟨l_r, a_r, b_r, -, -⟩ := V_r.out.pair.facts
        go_wp2_with fail
        refine (ecmp n r kc A5 A1 c5 c1 y5 V_n.out.raw V_r.out.raw (by omega) (by omega) HKC.out).mono ?_
        rintro e x6 ⟨rfl, hb⟩
        clear l_n a_n b_n l_r a_r b_r
        have V_x := Hd (V_x.out.below hb)
        have V_r := Hd (V_r.out.below hb)
        have V_n := Hd (V_n.out.below hb)
        have O_r := Hd (O_r.out.below hb)
        have O_n := Hd (O_n.out.below hb)
        have HBW := Hd (belowTo HBW.out hb)
        clear hb
        clear V_n
        go_upto_region 7 with fail
        obtain ⟨pp, hpp⟩ : ∃ k : Int, k = r * r := ⟨_, rfl⟩
        obtain ⟨k2, hk2⟩ : ∃ k : Int, k = cmpz pp x := ⟨_, rfl⟩
        obtain rfl : k2 = 0 := by rw [hk2, hpp, HRR.out, HQ.out]; unfold cmpz; simp
        have hlp : lz pp ≤ 200000 := by have := lz_mul r r; rw [← hpp] at this; omega
        have HK2 := Hd hk2
        have HPP := Hd hpp
        clear hk2 hpp hkc0
        obtain ⟨W0, hW⟩ : ∃ W0, W0 = x6 := ⟨_, rfl⟩
        rw [← hW] at HBW O_r O_n V_x V_r  ⊢
        clear hW
        refine wp_region_free [.val (.agg #[.bool (decide (r < 0)), .slice A1 (natL r.natAbs).length c1]) [], .val (.agg #[.bool (decide (r < 0)), .slice A1 (natL r.natAbs).length c1]) [], .val (.agg #[.bool (decide (r < 0)), .slice A1 (natL r.natAbs).length c1]) [], .any false (fun u0 V => IntAt V u0 pp) [], .val (.agg #[.bool (decide (x < 0)), .slice A (natL x.natAbs).length c]) [], .val (.int .i64 (0)) [3], .val (.bool true) [], .val undef [], .val (.bool true) []] W0.heap.size W0 [] (fun _ _ => False) _ mixedOrders2 (Nat.le_refl _) (Below.refl _ _) (KeptV.refl _ _ _) rfl (by kernel_rfl) (by kernel_rfl) (by kernel_rfl) (by kernel_rfl) (by kernel_rfl) (by kernel_rfl) (by kernel_rfl) (by kernel_rfl) rfl (by simp [oldsF]) ?_ ?_ ?_ ?_
        · simp only [StableF, and_true]
          exact fun u0 V V' h k => h.keptNone k
        · simp only [OldsF]
        · simp (maxSteps := 4000000) [StepsF, DepF, freeAct, fill, pairs]
          repeat' (first | apply And.intro | (intro (u0 : Value)))
          all_goals first
          | (intro V hV hK
             obtain ⟨-, a_x, b_x, -, -⟩ := (V_x.out.below hV).pair.facts
             have r_x := Hd (V_x.out.below hV).raw
             obtain ⟨-, a_r, b_r, -, -⟩ := (V_r.out.below hV).pair.facts
             have r_r := Hd (V_r.out.below hV).raw
             have p9 := (V_r.out.below hV).pair
             obtain ⟨l9, -, -, f9, g9⟩ := p9.facts
             have hset := set_same2 p9
             clear p9
             clear hV hK
             go_simp
             first
             | exact Below.refl _ _
             | exact ⟨by first | rfl | decide | go_num, Below.refl _ _⟩
             | ((with_reducible refine (etimes r r pp A1 A1 c1 c1 V r_r.out r_r.out (by omega) (by omega) HPP.out).mono ?_); rintro e w' ⟨v, rfl, hv, hb⟩; exact ⟨hv.at_, hb⟩))
          | (intro V hV hK hu
             obtain ⟨A', c', rfl, hr⟩ := hu.form
             have r_x := Hd (V_x.out.below hV).raw
             have r' := Hd hr
             clear hV hK hu hr
             go_simp
             (with_reducible refine (ecmp pp x (0) A' A c' c V r'.out r_x.out (by omega) (by omega) HK2.out).mono ?_)
             rintro e w' ⟨rfl, hb⟩
             exact ⟨rfl, hb⟩)
        · simp [EndF, FactsF, freeAct, fill, pairs]
          intro u1 V hV hK _ _ _ _
          have V_x := Hd (V_x.out.below hV)
          have V_r := Hd (V_r.out.below hV)
          have O_r := Hd (O_r.out.below hV)
          have O_n := Hd (O_n.out.below hV)
          have HBW := Hd (belowTo HBW.out hV)
          clear hV hK
          obtain ⟨v7, hV0⟩ : ∃ Y, Y = V := ⟨_, rfl⟩
          rw [← hV0] at HBW O_r O_n V_x V_r  ⊢
          clear hV0
          obtain ⟨l_r, a_r, b_r, -, -⟩ := V_r.out.pair.facts
          go_wp2_with fail
          exact bodyPost_ret (by simp [results, Tryd.results19, go_sem, a_r, b_r]) rfl ⟨.agg #[.bool (decide (r < 0)), .slice A1 (natL r.natAbs).length c1], rfl, by rw [← HRR.out]; exact O_r.out, HBW.out⟩

theorem exact_Root_less (x rr : Int) (A : Option Addr) (c : Nat) (w : World) (h_x : Raw w A c (natL x.natAbs)) (hx : lz x ≤ 60000) (hx0 : 0 < x) (hr : IsRootZ x rr) (hq : rr * rr ≠ x) :
    Calls Tryd.prog 19 #[.agg #[.bool (decide (x < 0)), .slice A (natL x.natAbs).length c]] w (RetRoot w.heap.size w rr false) := by
  obtain ⟨k0, hk0⟩ : ∃ k : Nat, k = (bitsI (natL x.natAbs) + 1) / 2 := ⟨_, rfl⟩
  obtain ⟨kb, hkb⟩ : ∃ k : Int, k = ((bitsI (natL x.natAbs) : Nat) : Int) := ⟨_, rfl⟩
  obtain ⟨one, hone⟩ : ∃ k : Int, k = 1 := ⟨_, rfl⟩
  obtain ⟨r0, hr0⟩ : ∃ k : Int, k = ((2 ^ k0 : Nat) : Int) := ⟨_, rfl⟩
  have hbt := bits_two hx (by omega)
  have hs0 := root_startZ hx0 hk0
  rw [← hr0] at hs0
  have hl0 := lz_two k0
  rw [← hr0] at hl0
  have hp0 : 0 < r0 := by rw [hr0]; have := Nat.two_pow_pos k0; omega
  have HS0 := Hd (show 0 < r0 ∧ x < (r0 + 1) * (r0 + 1) ∧ lz r0 ≤ 100000 from ⟨hp0, hs0, by omega⟩)
  have hkk : (kb + 1) / 2 = (k0 : Int) := by omega
  have hkb2 : kb ≤ 3200000 := by omega
  have hkt : (kb + 1).tdiv 2 = (k0 : Int) := by rw [Int.tdiv_eq_ediv_of_nonneg (by omega)]; exact hkk
  have hkb1 : 1 ≤ kb := by omega
  have C1 := Hd (fun (V : World) => eof 1 one hone (by decide) (by decide) V)
  have C2 := Hd (fun (V : World) (a : Raw V A c (natL x.natAbs)) => ebits x kb A c V a (by omega) hkb)
  have C3 := Hd (fun (V : World) (A1 : Option Addr) (c1 : Nat) (a : Raw V A1 c1 (natL one.natAbs)) => edouble one r0 (k0 : Int) A1 c1 V a (by rw [hone]; decide) (by omega) (by omega) (by omega) (by rw [hone, hr0, Int.toNat_natCast, Int.one_mul]))
  have HX := Hd hx0
  have HLX := Hd hx
  have HR := Hd hr
  have HQ := Hd hq
  clear hx hx0 hr hq hk0 hkb hone hr0 hbt hs0 hl0 hp0
  have b0 := (((Below.refl w.heap.size w).alloc (Nat.le_refl _) (.cells #[.bool (decide (x < 0)), .slice A (natL x.natAbs).length c] 24)).alloc (by simp) (.cells #[.bool false, .slice none 0 0] 24))
  have p0 := (Pair.new w 24 (.bool (decide (x < 0))) (.slice A (natL x.natAbs).length c)).alloc (.cells #[.bool false, .slice none 0 0] 24)
  have p1 := Pair.new (w.alloc (.cells #[.bool (decide (x < 0)), .slice A (natL x.natAbs).length c] 24)) 24 (.bool false) (.slice none 0 0)
  simp only [World.size_alloc] at p1
  have V_x := Hd (NV.of h_x b0 p0)
  have P_r0 := Hd p1
  have RW_x := Hd h_x
  have HBW := Hd b0
  clear b0 p0 p1 h_x
  go_enter Tryd.func19, Tryd.ntmps19
  obtain ⟨W, E⟩ : ∃ W, W = ((w.alloc (.cells #[.bool (decide (x < 0)), .slice A (natL x.natAbs).length c] 24)).alloc (.cells #[.bool false, .slice none 0 0] 24)) := ⟨_, rfl⟩
  go_upto_region 1 with fail
  rw [← E] at V_x P_r0 HBW ⊢
  clear E
  have h1 := more_len (show x ≠ 0 by have := HX.out; omega)
  have hszW := P_r0.out.blk.lt
  obtain ⟨l_x, a_x, b_x, -, -⟩ := V_x.out.pair.facts
  go_upto_region 3 with fail
  clear h1
  clear l_x a_x b_x
  refine wp_region_free [.any false (fun u V => IntOwn V w.heap.size u one) [], .val (.agg #[.bool (decide (x < 0)), .slice A (natL x.natAbs).length c]) [], .val (.int .i64 kb) [], .val (.int .i64 (kb + 1)) [], .val (.int .i64 (k0 : Int)) [], .any false (fun u V => IntOwn V w.heap.size u r0) [0], .old (w.heap.size + 1) 24 #[.bool false, .slice none 0 0] 0 2 5 []] (w.heap.size + 1) W [24] (fun _ _ => False) _ mixedOrders2 (by omega) (Below.refl _ _) (KeptV.refl _ _ _) rfl (by kernel_rfl) (by kernel_rfl) (by kernel_rfl) (by kernel_rfl) (by kernel_rfl) (by kernel_rfl) (by kernel_rfl) (by kernel_rfl) rfl (by simp [oldsF]) ?_ ?_ ?_ ?_
  · simp only [StableF, and_true]
    exact ⟨fun u V V' h k => h.kept k (by decide), fun u V V' h k => h.kept k (by decide)⟩
  · simp only [OldsF, and_true]
    exact ⟨by omega, by omega, P_r0.out.blk, by simp⟩
  · simp (maxSteps := 4000000) [StepsF, DepF, freeAct, fill, pairs]
    repeat' (first | apply And.intro | (intro (u : Value)) | (intro (u : Nat)))
    all_goals try exact ⟨_, _, _, rfl, rfl, rfl, rfl, intInfo⟩
    all_goals first
    | (intro V hV hK
       have nx := (⟨⟨V_x.out.pair.blk.below hV (Nat.lt_succ_self _)⟩, RW_x.out.below (HBW.out.trans (hV.mono (by omega)))⟩ : NV V w.heap.size x A c)
       obtain ⟨-, a_x, b_x, -, -⟩ := nx.pair.facts
       have r_x := Hd nx.raw
       have hsK := hK.size
       clear hV hK nx
       go_simp
       first
       | exact Below.refl _ _
       | exact ⟨by first | rfl | exact hkt | decide | go_num | (rw [IntKind.wrap_i64]; omega), Below.refl _ _⟩
       | ((with_reducible refine (C1.out V).mono ?_); rintro e w' ⟨v, rfl, hv, hb⟩; exact ⟨hv.base (by omega), hb⟩)
       | ((with_reducible refine (C2.out V r_x.out).mono ?_); rintro e w' ⟨rfl, hb⟩; exact ⟨rfl, hb⟩))
    | (intro V hV hK hu
       obtain ⟨A', c', rfl, hr⟩ := hu.raw
       have r2 := Hd hr
       have hsK := hK.size
       clear hV hK hu hr
       go_simp
       (with_reducible refine (C3.out V A' c' r2.out).mono ?_)
       rintro e w' ⟨v, rfl, hv, hb⟩
       exact ⟨hv.base (by omega), hb⟩)
    | exact fun _ _ _ (h : IntOwn _ _ _ _) => h.cells
  · simp [EndF, FactsF, freeAct, fill, pairs]
    intro u1 u2 V hV hK h1 h2 bq _ _ _
    obtain ⟨A1, c1, rfl, q1⟩ := h2.raw
    simp [setAll, Value.cells] at bq
    obtain ⟨br, hbr⟩ : ∃ br, br = w.heap.size + 1 := ⟨_, rfl⟩
    rw [← hbr] at bq ⊢
    have HR0 := Hd (show RootAt w V w.heap.size br x A c r0 A1 c1 from ⟨(⟨⟨V_x.out.pair.blk.below hV (Nat.lt_succ_self _)⟩, RW_x.out.below (HBW.out.trans (hV.mono (by omega)))⟩ : NV V w.heap.size x A c).pair, ⟨bq⟩, h2, HBW.out.trans (hV.mono (by omega)), HS0.out.1, HS0.out.2.1, HS0.out.2.2⟩)
    have hszr : w.heap.size < br := by omega
    clear h1 h2 bq q1 hV hK hbr C1 C2 C3 HS0 V_x P_r0 hkk hkt hkb1 hkb2 HBW
    go_wp2_with fail
    go_loopg [] (r0.toNat) (fun k wr => Hid (∃ r A1 c1, k = r.toNat ∧ RootAt w wr w.heap.size br x A c r A1 c1))
    case atStart => exact Hd ⟨r0, A1, c1, rfl, HR0.out⟩
    case round =>
      clear HR0
      obtain ⟨r, A1, c1, HGK, hra⟩ := hrel.out
      have HRA := Hd hra
      have HGK := Hd HGK
      clear hrel hra
      have O_r := Hd HRA.out.own
      have HBW := Hd HRA.out.low
      have HAB := Hd HRA.out.above
      have V_x := Hd (show NV wr w.heap.size x A c from ⟨HRA.out.px, RW_x.out.below HRA.out.low⟩)
      have V_r := Hd (show NV wr br r A1 c1 from ⟨HRA.out.pr, HRA.out.own.rawAt⟩)
      obtain ⟨q, hq⟩ : ∃ q : Int, q = x.tdiv r := ⟨_, rfl⟩
      obtain ⟨m, hm⟩ : ∃ m : Int, m = x.tmod r := ⟨_, rfl⟩
      obtain ⟨s, hs⟩ : ∃ s : Int, s = r + q := ⟨_, rfl⟩
      obtain ⟨n, hn⟩ : ∃ n : Int, n = s / ((2 ^ (1 : Int).toNat : Nat) : Int) := ⟨_, rfl⟩
      have hst := root_stepZ HX.out HRA.out.pos hq (hs ▸ hn)
      have hlr := HRA.out.len
      have hlx : lz x ≤ 100000 := Nat.le_trans HLX.out (by decide)
      have hlq : lz q ≤ 100000 := Nat.le_trans (lz_mono (y := x) (by rw [hq, Int.natAbs_tdiv]; exact Nat.div_le_self _ _)) hlx
      have hls : lz s ≤ 100001 := by have := lz_add r q; rw [← hs] at this; omega
      have hn2 : n = s / 2 := hn
      have hln : lz n ≤ 100001 := Nat.le_trans (lz_mono (show n.natAbs ≤ s.natAbs by omega)) hls
      have HST := Hd hst
      have HQE := Hd (And.intro hq hm)
      have HSE := Hd hs
      have HNE := Hd hn
      have hpos := HRA.out.pos
      have HRX := Hd (show r ≠ 0 by omega)
      have HPOS := Hd (show 0 < r ∧ 0 < n from ⟨hpos, hst.2.1⟩)
      have hsz1 := V_r.out.pair.blk.lt
      clear hq hm hs hn hn2 hst hpos HRA
      obtain ⟨l_x, a_x, b_x, -, -⟩ := V_x.out.pair.facts
      obtain ⟨l_r, a_r, b_r, -, -⟩ := V_r.out.pair.facts
      go_wp2_with fail
      refine (edivide x r q m A A1 c c1 wr V_x.out.raw V_r.out.raw (by omega) (by omega) HRX.out HQE.out.1 HQE.out.2).mono ?_
      rintro e x1 ⟨v1, v2, rfl, hI, hb⟩
      obtain ⟨A2, c2, rfl, rq⟩ := hI.one.raw
      obtain ⟨A3, c3, rfl, rm⟩ := hI.two.raw
      clear l_x a_x b_x l_r a_r b_r
      have V_x := Hd (V_x.out.below hb)
      have V_r := Hd (V_r.out.below hb)
      have O_r := Hd (O_r.out.below hb)
      have HBW := Hd (belowTo HBW.out hb)
      have R_q := Hd rq
      have R_m := Hd rm
      clear hb rq rm hI
      go_upto_region 5 with fail
      have ha := (((Below.refl x1.heap.size x1).alloc (Nat.le_refl _) (.cells #[.bool (decide (q < 0)), .slice A2 (natL q.natAbs).length c2] 24)).alloc (by simp) (.cells #[.bool (decide (m < 0)), .slice A3 (natL m.natAbs).length c3] 24))
      have p_q := ((Pair.new x1 24 (.bool (decide (q < 0))) (.slice A2 (natL q.natAbs).length c2)).alloc (.cells #[.bool (decide (m < 0)), .slice A3 (natL m.natAbs).length c3] 24))
      have p_m := (Pair.new (x1.alloc (.cells #[.bool (decide (q < 0)), .slice A2 (natL q.natAbs).length c2] 24)) 24 (.bool (decide (m < 0))) (.slice A3 (natL m.natAbs).length c3))
      simp only [World.size_alloc] at p_m
      obtain ⟨y2, E⟩ : ∃ W, W = ((x1.alloc (.cells #[.bool (decide (q < 0)), .slice A2 (natL q.natAbs).length c2] 24)).alloc (.cells #[.bool (decide (m < 0)), .slice A3 (natL m.natAbs).length c3] 24)) := ⟨_, rfl⟩
      rw [← E] at ha p_q p_m ⊢
      have V_q := Hd (NV.of R_q.out ha p_q)
      have V_m := Hd (NV.of R_m.out ha p_m)
      have V_x := Hd (V_x.out.below ha)
      have V_r := Hd (V_r.out.below ha)
      have O_r := Hd (O_r.out.below ha)
      have HBW := Hd (belowTo HBW.out ha)
      obtain ⟨g2, hg⟩ : ∃ g, g = x1.heap.size := ⟨_, rfl⟩
      rw [← hg] at V_q V_m ⊢
      clear E ha hg p_q p_m
      clear V_m
      obtain ⟨l_r, a_r, b_r, -, -⟩ := V_r.out.pair.facts
      obtain ⟨l_q, a_q, b_q, -, -⟩ := V_q.out.pair.facts
      go_wp2_with fail
      refine (eplus r q s A1 A2 c1 c2 y2 V_r.out.raw V_q.out.raw (by omega) (by omega) HSE.out).mono ?_
      rintro e x3 ⟨v4, rfl, hI4, hb⟩
      obtain ⟨A4, c4, rfl, r4⟩ := hI4.raw
      clear hI4
      clear l_r a_r b_r l_q a_q b_q
      have V_x := Hd (V_x.out.below hb)
      have V_r := Hd (V_r.out.below hb)
      have V_q := Hd (V_q.out.below hb)
      have O_r := Hd (O_r.out.below hb)
      have HBW := Hd (belowTo HBW.out hb)
      have R_s := Hd r4
      clear hb r4
      clear V_q
      go_wp2_with fail
      refine (ehalved s n 1 A4 c4 x3 R_s.out (by omega) (by omega) (by omega) HNE.out).mono ?_
      rintro e x4 ⟨v5, rfl, hI5, hb⟩
      obtain ⟨A5, c5, rfl, r5⟩ := hI5.raw
      have hlow : w.heap.size ≤ x3.heap.size := HBW.out.size
      have V_x := Hd (V_x.out.below hb)
      have V_r := Hd (V_r.out.below hb)
      have R_s := Hd (R_s.out.below hb)
      have O_r := Hd (O_r.out.below hb)
      have HBW := Hd (belowTo HBW.out hb)
      have R_n := Hd r5
      have O_n := Hd (hI5.base hlow)
      clear hb r5 hI5 R_s hlow
      go_upto_region 6 with fail
      have ha := ((Below.refl x4.heap.size x4).alloc (Nat.le_refl _) (.cells #[.bool (decide (n < 0)), .slice A5 (natL n.natAbs).length c5] 24))
      have p_n := (Pair.new x4 24 (.bool (decide (n < 0))) (.slice A5 (natL n.natAbs).length c5))
      obtain ⟨y5, E⟩ : ∃ W, W = (x4.alloc (.cells #[.bool (decide (n < 0)), .slice A5 (natL n.natAbs).length c5] 24)) := ⟨_, rfl⟩
      rw [← E] at ha p_n ⊢
      have V_n := Hd (NV.of R_n.out ha p_n)
      have V_x := Hd (V_x.out.below ha)
      have V_r := Hd (V_r.out.below ha)
      have O_r := Hd (O_r.out.below ha)
      have O_n := Hd (O_n.out.below ha)
      have HBW := Hd (belowTo HBW.out ha)
      obtain ⟨g5, hg⟩ : ∃ g, g = x4.heap.size := ⟨_, rfl⟩
      rw [← hg] at V_n ⊢
      clear E ha hg p_n
      obtain ⟨kc, hkc⟩ : ∃ k : Int, k = cmpz n r := ⟨_, rfl⟩
      have HKC := Hd hkc
      by_cases hlt : n < r
      · skip
        obtain rfl : kc = -1 := by rw [hkc]; exact cmpz_lt hlt
        have HLT := Hd hlt
        clear hkc hlt
        obtain ⟨l_n, a_n, b_n, -, -⟩ := V_n.out.pair.facts
        obtain ⟨l_r, a_r, b_r, -, -⟩ := V_r.out.pair.facts
        go_wp2_with fail
        refine (ecmp n r (-1) A5 A1 c5 c1 y5 V_n.out.raw V_r.out.raw (by omega) (by omega) HKC.out).mono ?_
        rintro e x6 ⟨rfl, hb⟩
        clear l_n a_n b_n l_r a_r b_r
        have V_x := Hd (V_x.out.below hb)
        have V_r := Hd (V_r.out.below hb)
        have V_n := Hd (V_n.out.below hb)
        have O_r := Hd (O_r.out.below hb)
        have O_n := Hd (O_n.out.below hb)
        have HBW := Hd (belowTo HBW.out hb)
        clear hb
        obtain ⟨l_n, a_n, b_n, -, -⟩ := V_n.out.pair.facts
        obtain ⟨l_r, a_r, b_r, -, -⟩ := V_r.out.pair.facts
        have qr := V_r.out.pair.facts
        have HN := Hd (show RootAt w ((x6.setCell ⟨br, 0, none⟩ (.bool (decide (n < 0)))).setCell ⟨br, 1, none⟩ (.slice A5 (natL n.natAbs).length c5)) w.heap.size br x A c n A5 c5 from
          ⟨V_x.out.pair.far (by omega) _ _, V_r.out.pair.store _ _, O_n.out.pairT V_r.out.pair _ _, below2 HBW.out (by omega) _ _, HPOS.out.2, HST.out.2.2.1, Nat.le_trans (lz_mono (by have := HLT.out; have := HPOS.out; omega)) hlr⟩)
        have HM := Hd (show n.toNat < r.toNat by have := HLT.out; have := HPOS.out; omega)
        go_wp2_with fail
        go_roundg (n.toNat)
        case measure => rw [HGK.out]; exact HM.out
        case rel => exact Hd ⟨n, A5, c5, rfl, HN.out⟩
      · skip
        have hkc0 : decide (0 ≤ kc) = true := decide_eq_true (by rw [hkc]; unfold cmpz; rw [if_neg hlt]; split <;> omega)
        have HRR := Hd (show r = rr from rootZ_one (Int.le_of_lt HX.out) ⟨Int.le_of_lt HPOS.out.1, HST.out.2.2.2 (by omega), HAB.out⟩ HR.out)
        clear hkc hlt
        obtain ⟨l_n, a_n, b_n, -, -⟩ := V_n.out.pair.facts
        obtain ⟨l_r, a_r, b_r, -, -⟩ := V_r.out.pair.facts
        go_wp2_with fail
        refine (ecmp n r kc A5 A1 c5 c1 y5 V_n.out.raw V_r.out.raw (by omega) (by omega) HKC.out).mono ?_
        rintro e x6 ⟨rfl, hb⟩
        clear l_n a_n b_n l_r a_r b_r
        have V_x := Hd (V_x.out.below hb)
        have V_r := Hd (V_r.out.below hb)
        have V_n := Hd (V_n.out.below hb)
        have O_r := Hd (O_r.out.below hb)
        have O_n := Hd (O_n.out.below hb)
        have HBW := Hd (belowTo HBW.out hb)
        clear hb
        clear V_n
        go_upto_region 7 with fail
        obtain ⟨pp, hpp⟩ : ∃ k : Int, k = r * r := ⟨_, rfl⟩
        obtain ⟨k2, hk2⟩ : ∃ k : Int, k = cmpz pp x := ⟨_, rfl⟩
        obtain rfl : k2 = -1 := by rw [hk2, hpp, HRR.out]; exact cmpz_lt (by have := HR.out.2.1; have := HQ.out; omega)
        have hlp : lz pp ≤ 200000 := by have := lz_mul r r; rw [← hpp] at this; omega
        have HK2 := Hd hk2
        have HPP := Hd hpp
        clear hk2 hpp hkc0
        obtain ⟨W0, hW⟩ : ∃ W0, W0 = x6 := ⟨_, rfl⟩
        rw [← hW] at HBW O_r O_n V_x V_r  ⊢
        clear hW
        refine wp_region_free [.val (.agg #[.bool (decide (r < 0)), .slice A1 (natL r.natAbs).length c1]) [], .val (.agg #[.bool (decide (r < 0)), .slice A1 (natL r.natAbs).length c1]) [], .val (.agg #[.bool (decide (r < 0)), .slice A1 (natL r.natAbs).length c1]) [], .any false (fun u0 V => IntAt V u0 pp) [], .val (.agg #[.bool (decide (x < 0)), .slice A (natL x.natAbs).length c]) [], .val (.int .i64 (-1)) [3], .val (.bool false) [], .val undef [], .val (.bool false) []] W0.heap.size W0 [] (fun _ _ => False) _ mixedOrders2 (Nat.le_refl _) (Below.refl _ _) (KeptV.refl _ _ _) rfl (by kernel_rfl) (by kernel_rfl) (by kernel_rfl) (by kernel_rfl) (by kernel_rfl) (by kernel_rfl) (by kernel_rfl) (by kernel_rfl) rfl (by simp [oldsF]) ?_ ?_ ?_ ?_
        · simp only [StableF, and_true]
          exact fun u0 V V' h k => h.keptNone k
        · simp only [OldsF]
        · simp (maxSteps := 4000000) [StepsF, DepF, freeAct, fill, pairs]
          repeat' (first | apply And.intro | (intro (u0 : Value)))
          all_goals first
          | (intro V hV hK
             obtain ⟨-, a_x, b_x, -, -⟩ := (V_x.out.below hV).pair.facts
             have r_x := Hd (V_x.out.below hV).raw
             obtain ⟨-, a_r, b_r, -, -⟩ := (V_r.out.below hV).pair.facts
             have r_r := Hd (V_r.out.below hV).raw
             have p9 := (V_r.out.below hV).pair
             obtain ⟨l9, -, -, f9, g9⟩ := p9.facts
             have hset := set_same2 p9
             clear p9
             clear hV hK
             go_simp
             first
             | exact Below.refl _ _
             | exact ⟨by first | rfl | decide | go_num, Below.refl _ _⟩
             | ((with_reducible refine (etimes r r pp A1 A1 c1 c1 V r_r.out r_r.out (by omega) (by omega) HPP.out).mono ?_); rintro e w' ⟨v, rfl, hv, hb⟩; exact ⟨hv.at_, hb⟩))
          | (intro V hV hK hu
             obtain ⟨A', c', rfl, hr⟩ := hu.form
             have r_x := Hd (V_x.out.below hV).raw
             have r' := Hd hr
             clear hV hK hu hr
             go_simp
             (with_reducible refine (ecmp pp x (-1) A' A c' c V r'.out r_x.out (by omega) (by omega) HK2.out).mono ?_)
             rintro e w' ⟨rfl, hb⟩
             exact ⟨rfl, hb⟩)
        · simp [EndF, FactsF, freeAct, fill, pairs]
          intro u1 V hV hK _ _ _ _
          have V_x := Hd (V_x.out.below hV)
          have V_r := Hd (V_r.out.below hV)
          have O_r := Hd (O_r.out.below hV)
          have O_n := Hd (O_n.out.below hV)
          have HBW := Hd (belowTo HBW.out hV)
          clear hV hK
          obtain ⟨v7, hV0⟩ : ∃ Y, Y = V := ⟨_, rfl⟩
          rw [← hV0] at HBW O_r O_n V_x V_r  ⊢
          clear hV0
          obtain ⟨l_r, a_r, b_r, -, -⟩ := V_r.out.pair.facts
          go_wp2_with fail
          exact bodyPost_ret (by simp [results, Tryd.results19, go_sem, a_r, b_r]) rfl ⟨.agg #[.bool (decide (r < 0)), .slice A1 (natL r.natAbs).length c1], rfl, by rw [← HRR.out]; exact O_r.out, HBW.out⟩
/- There is a root. Plain. -/

theorem root_ex : ∀ x : Nat, ∃ r, IsRoot x r
  | 0 => ⟨0, by unfold IsRoot; omega⟩
  | n + 1 => by
    obtain ⟨r, h1, h2⟩ := root_ex n
    by_cases h : (r + 1) * (r + 1) ≤ n + 1
    · refine ⟨r + 1, h, ?_⟩
      have h3 : (r + 1) * (r + 1) < (r + 1 + 1) * (r + 1 + 1) := Nat.mul_lt_mul_of_lt_of_le (by omega) (by omega) (by omega)
      omega
    · exact ⟨r, by omega, by omega⟩
theorem rootZ_ex {x : Int} (h : 0 ≤ x) : ∃ r, IsRootZ x r := by
  obtain ⟨r, hr⟩ := root_ex x.toNat
  exact ⟨(r : Int), (isRootZ h).2 ⟨by omega, by simpa using hr⟩⟩
theorem rootZ_le {x r : Int} (h : IsRootZ x r) : r ≤ x := by
  obtain ⟨h0, h1, -⟩ := h
  rcases (by omega : r = 0 ∨ 1 ≤ r) with h2 | h2
  · subst h2; simpa using h1
  · have := Int.mul_le_mul_of_nonneg_left h2 h0
    omega
end Go.Proofs.YtkncbenhfcpgkaaDoor
