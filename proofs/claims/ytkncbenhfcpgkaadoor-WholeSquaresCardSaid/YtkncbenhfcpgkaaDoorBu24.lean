/- Several texts in one: HalfLaw, Halved, Ints0. -/
import Derived.Test.YtkncbenhfcpgkaaDoorBu08
import Derived.Test.YtkncbenhfcpgkaaDoorBu02
import Derived.Test.YtkncbenhfcpgkaaDoorBu01
import Derived.Test.YtkncbenhfcpgkaaDoorBu07
import Derived.Test.YtkncbenhfcpgkaaDoorBu05
import Derived.Test.YtkncbenhfcpgkaaDoorBu06
import Derived.Test.YtkncbenhfcpgkaaDoorBu04
import Derived.Test.YtkncbenhfcpgkaaDoorBu03
import Derived.Test.YtkncbenhfcpgkaaDoorBu23
import Derived.Test.YtkncbenhfcpgkaaDoorBuHd
import Derived.Test.YtkncbenhfcpgkaaDoorBu16
import Derived.Test.YtkncbenhfcpgkaaDoorBu14
import Derived.Test.YtkncbenhfcpgkaaDoorBu22
import Derived.Test.YtkncbenhfcpgkaaDoorBu12
import Derived.Test.YtkncbenhfcpgkaaDoorBu13
import Derived.Test.YtkncbenhfcpgkaaDoorBu10
import Derived.Test.YtkncbenhfcpgkaaDoorBu09
import Derived.Test.YtkncbenhfcpgkaaDoorBu11
import Derived.Test.YtkncbenhfcpgkaaDoorBu15
set_option maxRecDepth 100000
set_option maxHeartbeats 8000000
/- A number divided by 2^n and rounded down: plain, no program in sight. -/
namespace Go.Proofs.YtkncbenhfcpgkaaDoor

theorem pow32 (m r n : Nat) (h : n = 32 * m + r) : 2 ^ n = 4294967296 ^ m * 2 ^ r := by
  rw [h, Nat.pow_add, Nat.pow_mul, show (2 : Nat) ^ 32 = 4294967296 by decide]
theorem half_val {xs : List Nat} {m r n : Nat} (hx : Limbs xs) (hm : m ≤ xs.length) (h : n = 32 * m + r) : val xs / 2 ^ n = val (xs.drop m) / 2 ^ r := by
  have hlt := val_lt (limbs_take hx m)
  rw [List.length_take, Nat.min_eq_left hm] at hlt
  rw [pow32 m r n h, ← Nat.div_div_eq_div_mul, val_part xs m hm, Nat.add_mul_div_left _ _ (Nat.pow_pos (by omega)), Nat.div_eq_of_lt hlt, Nat.zero_add]
theorem half_rest {xs : List Nat} {m r n : Nat} (hx : Limbs xs) (hm : m ≤ xs.length) (h : n = 32 * m + r) : val xs % 2 ^ n = 0 ↔ val (xs.take m) = 0 ∧ val (xs.drop m) % 2 ^ r = 0 := by
  have hlt := val_lt (limbs_take hx m)
  rw [List.length_take, Nat.min_eq_left hm] at hlt
  have hp : 0 < 4294967296 ^ m := Nat.pow_pos (by omega)
  rw [pow32 m r n h, Nat.mod_mul, val_part xs m hm, Nat.add_mul_mod_self_left, Nat.add_mul_div_left _ _ hp, Nat.div_eq_of_lt hlt, Nat.zero_add, Nat.mod_eq_of_lt hlt]
  constructor
  · intro e
    have h1 := Nat.eq_zero_of_add_eq_zero_right e
    have h2 := Nat.eq_zero_of_add_eq_zero_left e
    refine ⟨h1, ?_⟩
    rcases Nat.mul_eq_zero.1 h2 with h3 | h3
    · omega
    · exact h3
  · rintro ⟨h1, h2⟩
    rw [h1, h2, Nat.mul_zero]
theorem low_rest {x n : Nat} {xs : List Nat} (hn : n ≤ 32) : val (x :: xs) % 2 ^ n = x % 2 ^ n := by
  have e : (4294967296 : Nat) = 2 ^ n * 2 ^ (32 - n) := by rw [← Nat.pow_add, show n + (32 - n) = 32 by omega]
  rw [val, e, Nat.mul_assoc, Nat.add_mul_mod_self_left]
theorem low_lost {x n : Nat} (hn : n ≤ 32) : x * 2 ^ (32 - n) % 4294967296 = 0 ↔ x % 2 ^ n = 0 := by
  have e : (4294967296 : Nat) = 2 ^ n * 2 ^ (32 - n) := by rw [← Nat.pow_add, show n + (32 - n) = 32 by omega]
  rw [e, Nat.mul_mod_mul_right]
  have hp := Nat.two_pow_pos (32 - n)
  constructor
  · intro h
    rcases Nat.mul_eq_zero.1 h with h | h
    · exact h
    · omega
  · intro h; rw [h, Nat.zero_mul]
theorem floor_neg {v p : Nat} (hp : 0 < p) : (-(v : Int)) / (p : Int) = if v % p = 0 then -((v / p : Nat) : Int) else -((v / p + 1 : Nat) : Int) := by
  have e := Nat.div_add_mod v p
  have hl := Nat.mod_lt v hp
  split
  · rename_i h
    rw [h, Nat.add_zero] at e
    have := (Int.ediv_emod_unique (a := -(v : Int)) (b := (p : Int)) (r := 0) (q := -((v / p : Nat) : Int)) (by omega)).2 ⟨by
      rw [Int.mul_neg, Int.zero_add, ← Int.natCast_mul, e], by omega, by omega⟩
    exact this.1
  · rename_i h
    have := (Int.ediv_emod_unique (a := -(v : Int)) (b := (p : Int)) (r := ((p - v % p : Nat) : Int)) (q := -((v / p + 1 : Nat) : Int)) (by omega)).2 ⟨by
      rw [Int.mul_neg, ← Int.natCast_mul, Nat.mul_add, Nat.mul_one]
      omega, by omega, by omega⟩
    exact this.1
theorem floor_pos {v p : Nat} : (v : Int) / (p : Int) = ((v / p : Nat) : Int) := by simp
theorem floor_all {v p : Nat} (h0 : v ≠ 0) (h : v < p) : (-(v : Int)) / (p : Int) = -1 := by
  rw [floor_neg (by omega), Nat.mod_eq_of_lt h, if_neg h0, Nat.div_eq_of_lt h]
  rfl
theorem all_noughts {xs : List Nat} : val xs = 0 ↔ ∀ x ∈ xs, x = 0 := by
  induction xs with
  | nil => simp [val]
  | cons a r ih =>
    rw [val]
    constructor
    · intro h x hx
      have h1 : a = 0 := by omega
      have h2 : val r = 0 := by omega
      rcases List.mem_cons.1 hx with rfl | hx
      · exact h1
      · exact ih.1 h2 x hx
    · intro h
      have h1 := h a (by simp)
      have h2 := ih.2 fun x hx => h x (List.mem_cons_of_mem _ hx)
      omega
/- Halved of package exact: divided by 2^n and rounded down. -/
open Go.RowKit

theorem Raw.drop {w : World} {ad : Addr} {c m : Nat} {xs : List Nat} (h : Raw w (some ad) c xs) (hm : m < xs.length) : Raw w (some (ad.add m)) (c - m) (xs.drop m) := by
  have h1 := h.cap
  have h2 := h.most
  refine ⟨limbs_drop h.limbs m, by rw [List.length_drop]; omega, by omega, ?_⟩
  have h3 := Reads.cut h.reads (k := m) (cap := c) (by omega) h1
  rw [if_neg (by omega), Nat.mul_one] at h3
  unfold ReadsU
  rw [List.length_drop]
  have e : (cellsU xs).drop m = cellsU (xs.drop m) := by simp [cellsU]
  rw [e] at h3
  exact h3
theorem exact_Halved_z (n1 : Bool) (A : Option Addr) (c n : Nat) (xs : List Nat) (hcx : Canon xs) (hnn : xs = [] → n1 = false) (hn : n ≤ 1048576) (hlx : xs.length ≤ 1048576) (z : Int) (hz : z = ival n1 xs / ((2 ^ n : Nat) : Int)) (w : World) (h : Raw w A c xs) :
    Calls Tryd.prog 26 #[.agg #[.bool n1, .slice A xs.length c], .int .i64 n] w (RetInt w.heap.size w z) := by
  have px := (Pair.new w 24 (.bool n1) (.slice A xs.length c)).alloc (.cells #[.bool false, .slice none 0 0] 24)
  have pr := Pair.new (w.alloc (.cells #[.bool n1, .slice A xs.length c] 24)) 24 (.bool false) (.slice none 0 0)
  have rx := ((h.alloc (.cells #[.bool n1, .slice A xs.length c] 24)).alloc (.cells #[.bool false, .slice none 0 0] 24))
  have b0 := ((Below.refl w.heap.size w).alloc (Nat.le_refl _) (.cells #[.bool n1, .slice A xs.length c] 24)).alloc (by simp) (.cells #[.bool false, .slice none 0 0] 24)
  simp only [World.size_alloc] at pr
  have hn0 : (0 : Int) ≤ (n : Int) := by omega
  have hn1 : (n : Int) ≤ 1048576 := by omega
  have hl1 : (xs.length : Int) ≤ 1048576 := by omega
  have HZ := Hd hz
  have PR := Hd pr
  have B0 := Hd b0
  have RX := Hd rx
  clear h pr b0 rx hz
  obtain ⟨W, E⟩ : ∃ W, W = (w.alloc (.cells #[.bool n1, .slice A xs.length c] 24)).alloc (.cells #[.bool false, .slice none 0 0] 24) := ⟨_, rfl⟩
  have hWs : W.heap.size = w.heap.size + 2 := by rw [E]; simp
  rcases Nat.lt_or_ge n (32 * xs.length) with hlt | hge
  · have g1 : (n : Int) < 32 * (xs.length : Int) := by omega
    obtain ⟨m, hm⟩ : ∃ m, m = n / 32 := ⟨_, rfl⟩
    obtain ⟨r, hr⟩ : ∃ r, r = n % 32 := ⟨_, rfl⟩
    have hmi : (n : Int) / 32 = (m : Int) := by omega
    have hri : (n : Int) % 32 = (r : Int) := by omega
    have hm2 : m < xs.length := by omega
    have hr2 : r ≤ 31 := by omega
    have HNM := Hd (show n = 32 * m + r by omega)
    have hne : 0 < xs.length := by omega
    obtain ⟨ad, rfl, -, -⟩ := RX.out.reads.2 hne
    have hcap := RX.out.cap
    have hmost := RX.out.most
    have hm3 : (m : Int) < (xs.length : Int) := by omega
    have hm4 : (0 : Int) ≤ (m : Int) := by omega
    have hcm : ¬ c = m := by omega
    clear hm hr hcx hnn
    go_enter Tryd.func26, Tryd.ntmps26
    have q1 := px.facts
    have CL := Hd (fun (V : World) (q : Raw V (some ad) c xs) => by
      have := slices_Clone (some (ad.add m)) (c - m) (xs.drop m) (by rw [List.length_drop]; omega) V (q.drop hm2)
      rwa [List.length_drop] at this)
    go_wp2_with fail
    rw [← E] at RX PR B0 ⊢
    refine (CL.out W RX.out).mono ?_
    rintro e w1 ⟨v, rfl, hv, hb⟩
    obtain ⟨g, cap, rfl, hg, hcm2, hfr⟩ := hv.front (by intro e; have := congrArg List.length e; simp at this; omega)
    rw [List.length_drop]
    have PX := Hd ((E ▸ px).below hb)
    have PR := Hd (PR.out.below hb)
    have RX := Hd (RX.out.below hb)
    have B0 := Hd (belowTo B0.out hb)
    have FR := Hd hfr
    have hs1 := hb.size
    have hq := PX.out.facts
    have HC := Hd (contains_has (some ad) c (xs.take m) (by rw [List.length_take]; omega) w1 (RX.out.reads.take m))
    rw [List.length_take, Nat.min_eq_left (by omega)] at HC
    clear E CL hv hb hfr q1 px
    go_wp2_with fail
    refine HC.out.mono ?_
    rintro e w2 ⟨rfl, hb⟩
    obtain ⟨lost, hlost⟩ : ∃ lost : Bool, lost = decide (val xs % 2 ^ n ≠ 0) := ⟨_, rfl⟩
    have hdl : 0 < (xs.drop m).length := by rw [List.length_drop]; omega
    obtain ⟨x0, hx0⟩ : ∃ x0, x0 = (xs.drop m)[0] := ⟨_, rfl⟩
    have hlow : val (xs.drop m) % 2 ^ r = x0 % 2 ^ r := by
      subst hx0
      generalize xs.drop m = l at hdl
      cases l with
      | nil => simp at hdl
      | cons y ys => exact low_rest (by omega)
    have hhas : ((xs.take m).any fun x => decide (x ≠ 0)) = decide (val (xs.take m) ≠ 0) := by
      by_cases h0 : val (xs.take m) = 0
      · rw [decide_eq_false (by simpa using h0), List.any_eq_false]
        intro x hx
        simpa using all_noughts.1 h0 x hx
      · rw [decide_eq_true h0, List.any_eq_true]
        by_cases hA : ∃ x ∈ xs.take m, x ≠ 0
        · obtain ⟨x, hx, h1⟩ := hA
          exact ⟨x, hx, decide_eq_true h1⟩
        · exfalso
          exact h0 (all_noughts.2 fun x hx => Classical.byContradiction fun h1 => hA ⟨x, hx, h1⟩)
    rw [hhas]
    have hrest := half_rest (n := n) RX.out.limbs (Nat.le_of_lt hm2) HNM.out
    rw [hlow] at hrest
    have hcell := (FR.out.below hb).cell hdl
    rw [← hx0] at hcell
    have hx0l : x0 < 4294967296 := by rw [hx0]; exact limbs_get (limbs_drop RX.out.limbs m) hdl
    have PX := Hd (PX.out.below hb)
    have PR := Hd (PR.out.below hb)
    have RX := Hd (RX.out.below hb)
    have B0 := Hd (belowTo B0.out hb)
    have FR := Hd (FR.out.below hb)
    have hs2 := hb.size
    have hfl := FR.out.lt
    have hdi : 0 < xs.length - m := by omega
    clear hq HC hb hhas hlow hx0 hdl
    have HLO := Hd hlost
    obtain ⟨L, hL⟩ : ∃ L, L = xs.length - m := ⟨_, rfl⟩
    rw [← hL] at hdi ⊢
    have HL := Hd hL
    have hLi : (0 : Int) < (L : Int) := by omega
    have hLM : (L : Int) ≤ 1048576 := by omega
    clear hL
    rcases Nat.eq_zero_or_pos (val (xs.take m)) with h0 | h0
    case' inr =>
      rw [decide_eq_true (show val (xs.take m) ≠ 0 by omega)]
      have hlv : lost = true := by
        rw [hlost]; exact decide_eq_true fun e => by have := (hrest.1 e).1; omega
      clear hrest h0 hlost
      go_upto_region 7 with fail
    case' inl =>
      rw [decide_eq_false (show ¬ val (xs.take m) ≠ 0 by omega)]
      rcases Nat.eq_zero_or_pos r with h1 | h1
    case' inl.inl =>
      have hlv : lost = false := by
        rw [hlost]; exact decide_eq_false fun e => e (hrest.2 ⟨h0, by rw [h1, Nat.pow_zero, Nat.mod_one]⟩)
      have hr0 : decide ((0 : Int) < (r : Int)) = false := decide_eq_false (by omega)
      have hr0n : decide (0 < r) = false := decide_eq_false (by omega)
      clear hrest h0 hlost h1
      go_upto_region 7 with fail
      clear hr0 hr0n
    case' inl.inr =>
      have hr0 : (0 : Int) < (r : Int) := by omega
      by_cases h2 : x0 % 2 ^ r = 0
    case' pos =>
      have hlv : lost = false := by
        rw [hlost]; exact decide_eq_false fun e => e (hrest.2 ⟨h0, h2⟩)
      have HSH := Hd (show ((x0 : Int) * 2 ^ (32 - r) % 4294967296 != 0) = false from by
        have := (low_lost (x := x0) (n := r) (by omega)).2 h2
        have e : (x0 : Int) * 2 ^ (32 - r) % 4294967296 = ((x0 * 2 ^ (32 - r) % 4294967296 : Nat) : Int) := by simp
        rw [e, this]; rfl)
      clear hrest h0 hlost h1 h2
      go_upto_region 7 with fail
      all_goals rw [HSH.out]
      all_goals clear HSH hr0
    case' neg =>
      have hlv : lost = true := by
        rw [hlost]; exact decide_eq_true fun e => h2 (hrest.1 e).2
      have HSH := Hd (show ((x0 : Int) * 2 ^ (32 - r) % 4294967296 != 0) = true from by
        have h3 : x0 * 2 ^ (32 - r) % 4294967296 ≠ 0 := fun h => h2 ((low_lost (x := x0) (n := r) (by omega)).1 h)
        have e : (x0 : Int) * 2 ^ (32 - r) % 4294967296 = ((x0 * 2 ^ (32 - r) % 4294967296 : Nat) : Int) := by simp
        rw [e, bne_iff_ne]; omega)
      clear hrest h0 hlost h1 h2
      go_upto_region 7 with fail
      all_goals rw [HSH.out]
      all_goals clear HSH hr0
    all_goals
      have HLV := Hd hlv
      obtain ⟨zl, hzl⟩ : ∃ zl, zl = xs.drop m := ⟨_, rfl⟩
      rw [← hzl] at FR
      have HZM := Hd (show Limbs zl from by rw [hzl]; exact limbs_drop RX.out.limbs m)
      have HZL := Hd (show zl.length = L from by rw [hzl, List.length_drop, HL.out])
      have HZV := Hd (show val xs / 2 ^ n = val zl / 2 ^ r from by rw [hzl]; exact half_val RX.out.limbs (Nat.le_of_lt hm2) HNM.out)
      have D0 := Hd (⟨zl, Downed.start zl HZM.out r, FR.out, Below.refl _ _⟩ : ∃ zt, Downed zl zt r 0 ∧ Front w2 g cap zt ∧ Below W.heap.size w2 w2)
      have HG := Hd hg
      clear hlv hzl hcell hx0l hm2 hm3 hm4 hcm hfl hg FR
      go_wp2_with fail
      go_loopw [48] (fun s wv => ∃ kk : Nat, s = .int .i64 kk ∧ kk ≤ L ∧ Hid (∃ zt, Downed zl zt r kk ∧ Front wv g cap zt ∧ Below W.heap.size w2 wv)) (fun s _ => L - (intOf s).toNat)
      case atStart => exact ⟨0, rfl, Nat.zero_le _, D0⟩
      case round =>
        obtain ⟨kk, rfl, hkk, HR⟩ := hrel
        clear D0
        obtain ⟨zt, dn, fr, lo⟩ := HR.out
        clear HR
        by_cases hlt : kk < L
        · have hk1 : kk < zl.length := by rw [HZL.out]; exact hlt
          have hk2 : kk < zt.length := by rw [dn.len]; exact hk1
          have c1 := fr.cell hk2
          have f1 := fr.frozen kk
          have q1 := fr.lt
          rw [list_same dn.rest hk2 hk1] at c1
          have x1 := limbs_get HZM.out hk1
          have st := dn.step HZM.out (by omega) hk1
          have x2 := at0_limb HZM.out (kk + 1)
          have c2 : kk + 1 < L → wr.cell? ⟨g, kk + 1, none⟩ = some (.int .u32 ((at0 zl (kk + 1) : Nat) : Int)) := fun h => by
            have h1 : kk + 1 < zl.length := by rw [HZL.out]; exact h
            have h2 : kk + 1 < zt.length := by rw [dn.len]; exact h1
            have e := congrArg (List.drop 1) dn.rest
            rw [List.drop_drop, List.drop_drop] at e
            rw [fr.cell h2, list_same e h2 h1, at0_lt h1]
          have hz : ¬ kk + 1 < L → at0 zl (kk + 1) = 0 := fun h => at0_ge (by rw [HZL.out]; omega)
          have S := Hd (fun d => (⟨zt.set kk d, ·, fr.set hk2 d, lo.setCell (p := ⟨g, kk, none⟩) HG.out _⟩) : ∀ d, Downed zl (zt.set kk d) r (kk + 1) → ∃ zt', Downed zl zt' r (kk + 1) ∧ Front (wr.setCell ⟨g, kk, none⟩ (.int .u32 (d : Int))) g cap zt' ∧ Below W.heap.size w2 (wr.setCell ⟨g, kk, none⟩ (.int .u32 (d : Int))))
          have S2 := Hd (S.out _ st)
          generalize zl[kk] = x at c1 x1 S2
          generalize at0 zl (kk + 1) = y at c2 x2 hz S2
          have a0 : (0 : Int) ≤ (kk : Int) := by omega
          have a1 : (kk : Int) < (L : Int) := by omega
          have a3 : (r : Int) ≤ 64 := by omega
          clear S st dn fr lo
          by_cases hh : kk + 1 < L
          · have c3 := c2 hh
            have a4 : (kk : Int) + 1 < (L : Int) := by omega
            have a5 : (0 : Int) ≤ (kk : Int) + 1 := by omega
            have ej := or_join y x x2 x1
            have en := down_digit (y * 4294967296 + x) r
            have hN : y * 4294967296 + x < 18446744073709551616 := by omega
            generalize (y * 4294967296 + x) / 2 ^ r % 4294967296 = d9 at en S2
            generalize y * 4294967296 + x = N at ej en hN
            have EN := Hd en
            clear c2 hz en
            go_wp2_with fail
            rw [EN.out]
            go_roundw
            case rel => exact ⟨kk + 1, by go_num, by omega, S2⟩
            case measure => simp [intOf]; omega
          · obtain rfl := hz hh
            have a4 : (L : Int) ≤ (kk : Int) + 1 := by omega
            have ej := or_join 0 x x2 x1
            have en := down_digit (0 * 4294967296 + x) r
            simp only [Int.ofNat_zero, Nat.zero_mul, Int.zero_mul, Nat.zero_add] at ej en S2
            generalize x / 2 ^ r % 4294967296 = d9 at en S2
            have EN := Hd en
            clear c2 hz en
            go_wp2_with fail
            rw [EN.out]
            go_roundw
            case rel => exact ⟨kk + 1, by go_num, by omega, S2⟩
            case measure => simp [intOf]; omega
        · obtain rfl : kk = L := by omega
          have e := dn
          rw [← HZL.out] at e
          have hv := e.val_end HZM.out
          have HV := Hd (show val zt = val xs / 2 ^ n from by rw [HZV.out]; exact hv)
          have hzt : zt.length = kk := by rw [dn.len, HZL.out]
          have FR := Hd fr
          have HZT := Hd dn.limbs
          have PX := Hd (show Pair wr w.heap.size 24 (.bool n1) (.slice (some ad) xs.length c) from ⟨PX.out.blk.below lo (by omega)⟩)
          have PR := Hd (show Pair wr (w.heap.size + 1) 24 (.bool false) (.slice none 0 0) from ⟨PR.out.blk.below lo (by omega)⟩)
          have B0 := Hd (B0.out.trans (lo.mono (by omega)))
          have HZTL := Hd hzt
          have q1 := PX.out.facts
          clear e hv dn fr lo hzt
          have HN := Hd (show (lost = false → z = if n1 then -((val zt : Nat) : Int) else ((val zt : Nat) : Int)) ∧ (lost = true → n1 = true → z = -((val zt + 1 : Nat) : Int)) ∧ (n1 = false → z = ((val zt : Nat) : Int)) from by
            have hp := Nat.two_pow_pos n
            rw [HV.out, HZ.out]
            unfold ival
            have e := HLO.out
            refine ⟨fun h => ?_, fun h hn => ?_, fun hn => ?_⟩
            · have h0 : val xs % 2 ^ n = 0 := by
                rw [h, eq_comm, decide_eq_false_iff_not] at e
                exact Classical.byContradiction e
              cases n1
              · simp
              · simp only [if_true]
                rw [floor_neg hp, if_pos h0]
            · subst hn
              have h0 : val xs % 2 ^ n ≠ 0 := by
                rw [h, eq_comm, decide_eq_true_iff] at e
                exact e
              simp only [if_true]
              rw [floor_neg hp, if_neg h0]
            · subst hn; simp)
          cases n1
          · clear HV HZ HLO HLV
            have HS := Hd (fun (V : World) (hu : OwnL V W.heap.size (.slice (some ⟨g, 0, none⟩) zt.length cap) (val zt) zt.length) => show Calls Tryd.prog 33 #[.bool false, .slice (some ⟨g, 0, none⟩) zt.length cap] V (RetInt W.heap.size V z) from by
              have := exact_signed_own false _ _ _ W.heap.size V hu
              rw [HN.out.2.2 rfl]; exact this)
            rw [HZTL.out] at HS
            have HOW := Hd (FR.out.ownL HG.out hcm2 HZT.out)
            rw [HZTL.out] at HOW
            clear HN
            go_wp2_with fail
            clear q1
            refine (HS.out _ HOW.out).mono ?_
            rintro e w9 ⟨v, rfl, hI, hb2⟩
            obtain ⟨b9, A9, k9, c9, rfl⟩ := hI.shape
            have pr := PR.out.below hb2
            obtain ⟨q1, q2, q3, q4, q5⟩ := pr.facts
            have HI := Hd (hI.pair (g := w.heap.size + 1) (a := .bool b9) (b := .slice A9 k9 c9) (by omega))
            have HB := Hd (below2 (belowTo B0.out hb2) (show w.heap.size ≤ w.heap.size + 1 by omega) (.bool b9) (.slice A9 k9 c9))
            have HQ := Hd (pr.store (.bool b9) (.slice A9 k9 c9))
            clear hI hb2 pr
            go_wp2_with fail
            obtain ⟨_, k0, k1, _, _⟩ := HQ.out.facts
            exact bodyPost_ret (by simp [results, Tryd.results26, go_sem, k0, k1]) rfl ⟨_, rfl, HI.out.base (by omega), HB.out⟩
          · first
            | have hlf : lost = false := HLV.out
              clear HV HZ HLO HLV
              have HS := Hd (fun (V : World) (hu : OwnL V W.heap.size (.slice (some ⟨g, 0, none⟩) zt.length cap) (val zt) zt.length) => show Calls Tryd.prog 33 #[.bool true, .slice (some ⟨g, 0, none⟩) zt.length cap] V (RetInt W.heap.size V z) from by
                have := exact_signed_own true _ _ _ W.heap.size V hu
                rw [HN.out.1 hlf]; exact this)
              rw [HZTL.out] at HS
              have HOW := Hd (FR.out.ownL HG.out hcm2 HZT.out)
              rw [HZTL.out] at HOW
              clear HN hlf
              go_wp2_with fail
              clear q1
              refine (HS.out _ HOW.out).mono ?_
              rintro e w9 ⟨v, rfl, hI, hb2⟩
              obtain ⟨b9, A9, k9, c9, rfl⟩ := hI.shape
              have pr := PR.out.below hb2
              obtain ⟨q1, q2, q3, q4, q5⟩ := pr.facts
              have HI := Hd (hI.pair (g := w.heap.size + 1) (a := .bool b9) (b := .slice A9 k9 c9) (by omega))
              have HB := Hd (below2 (belowTo B0.out hb2) (show w.heap.size ≤ w.heap.size + 1 by omega) (.bool b9) (.slice A9 k9 c9))
              have HQ := Hd (pr.store (.bool b9) (.slice A9 k9 c9))
              clear hI hb2 pr
              go_wp2_with fail
              obtain ⟨_, k0, k1, _, _⟩ := HQ.out.facts
              exact bodyPost_ret (by simp [results, Tryd.results26, go_sem, k0, k1]) rfl ⟨_, rfl, HI.out.base (by omega), HB.out⟩
            | have hlf : lost = true := HLV.out
              clear HV HZ HLO HLV
              have HNZ := Hd (HN.out.2.1 hlf rfl)
              have hcp := FR.out.fits
              have HTR := Hd (exact_trim (some ⟨g, 0, none⟩) cap zt HZT.out hcp hcm2 _ wr FR.out.reads)
              rw [HZTL.out] at HTR
              clear HN hlf hcp
              go_wp2_with fail
              clear q1
              refine HTR.out.mono ?_
              rintro e w8 ⟨rfl, rfl⟩
              have hr1 : Row (wr.alloc (.cells #[.int .u32 1] 45)) wr.heap.size [1] := ⟨Blk.new wr _ _⟩
              have hl1 : Limbs [1] := by intro x hx; simp at hx; omega
              have hra : Raw (wr.alloc (.cells #[.int .u32 1] 45)) (some ⟨wr.heap.size, 0, none⟩) 1 [1] := ⟨hl1, by simp, by omega, hr1.reads⟩
              have hrt := ((FR.out.raw hcm2 HZT.out).cut).alloc (.cells #[.int .u32 1] 45)
              have HAD := Hd (exact_add (some ⟨g, 0, none⟩) (some ⟨wr.heap.size, 0, none⟩) cap 1 (natL (val zt)) [1] (Nat.le_trans (natL_val_le HZT.out) (by rw [HZTL.out]; omega)) (by simp) _ hrt hra)
              have B1 := Hd (B0.out.alloc B0.out.size (.cells #[.int .u32 1] 45))
              have PR := Hd (PR.out.alloc (.cells #[.int .u32 1] 45))
              have hsz := B0.out.size
              clear hr1 hl1 hra hrt HTR
              have hW9 : W.heap.size ≤ wr.heap.size := Nat.le_trans HG.out (Nat.le_of_lt FR.out.lt)
              go_wp2_with fail
              refine HAD.out.mono ?_
              rintro e w7 ⟨v7, rfl, h7, hb7⟩
              have PR := Hd (PR.out.below hb7)
              have B0 := Hd (belowTo B1.out hb7)
              have HOW := Hd (h7.base (b' := W.heap.size) (by simp; omega))
              have HS := Hd (show Calls Tryd.prog 33 #[.bool true, v7] w7 (RetInt W.heap.size w7 z) from by
                have := exact_signed_own true _ _ _ W.heap.size w7 HOW.out
                rw [val_natL, show val [1] = 1 from rfl] at this
                rw [HNZ.out]; exact this)
              clear HAD h7 hb7 B1 hsz
              go_wp2_with fail
              refine HS.out.mono ?_
              rintro e w9 ⟨v, rfl, hI, hb2⟩
              obtain ⟨b9, A9, k9, c9, rfl⟩ := hI.shape
              have pr := PR.out.below hb2
              obtain ⟨q1, q2, q3, q4, q5⟩ := pr.facts
              have HI := Hd (hI.pair (g := w.heap.size + 1) (a := .bool b9) (b := .slice A9 k9 c9) (by omega))
              have HB := Hd (below2 (belowTo B0.out hb2) (show w.heap.size ≤ w.heap.size + 1 by omega) (.bool b9) (.slice A9 k9 c9))
              have HQ := Hd (pr.store (.bool b9) (.slice A9 k9 c9))
              clear hI hb2 pr
              go_wp2_with fail
              obtain ⟨_, k0, k1, _, _⟩ := HQ.out.facts
              exact bodyPost_ret (by simp [results, Tryd.results26, go_sem, k0, k1]) rfl ⟨_, rfl, HI.out.base (by omega), HB.out⟩
  · have hx := val_lt RX.out.limbs
    have hle : val xs < 2 ^ n := Nat.lt_of_lt_of_le hx (by
      rw [show (4294967296 : Nat) = 2 ^ 32 by decide, ← Nat.pow_mul]
      exact Nat.pow_le_pow_right (by omega) hge)
    have hge' : (32 : Int) * (xs.length : Int) ≤ (n : Int) := by omega
    have HL := Hd (And.intro hx hle)
    have q1 := px.facts
    cases n1
    · have hz0 : z = 0 := by
        rw [HZ.out]
        unfold ival
        simp only [Bool.false_eq_true, if_false]
        rw [floor_pos, Nat.div_eq_of_lt hle]; rfl
      have HQ := Hd PR.out
      have HB := Hd B0.out
      have HZ0 := Hd hz0
      have q2 := PR.out.facts
      clear hx hle hge hcx hnn hz0 HZ E hWs
      go_enter Tryd.func26, Tryd.ntmps26
      go_wp2_with fail
      obtain ⟨_, k0, k1, _, _⟩ := HQ.out.facts
      exact bodyPost_ret (by simp [results, Tryd.results26, go_sem, k0, k1]) rfl ⟨.agg #[.bool false, .slice none 0 0], rfl, by rw [HZ0.out]; exact IntOwn.nought _ _, HB.out⟩
    · have hv0 : val xs ≠ 0 := fun e => by
        have := natL_val RX.out.limbs hcx
        rw [e, natL_zero] at this
        cases hnn this.symm
      have hz1 : z = -1 := by
        rw [HZ.out]
        unfold ival
        simp only [if_true]
        exact floor_all hv0 hle
      have HS := Hd (show Calls Tryd.prog 24 #[.int .i64 (-1)] W (RetInt W.heap.size W z) from by
        rw [hz1]; exact exact_Of (-1) (by omega) (by omega) W)
      rw [← E] at PR B0
      clear hx hle hge hcx hnn hv0 hz1 HZ HL
      go_enter Tryd.func26, Tryd.ntmps26
      go_wp2_with fail
      rw [← E]
      clear E q1 px
      refine HS.out.mono ?_
      rintro e w9 ⟨v, rfl, hI, hb2⟩
      obtain ⟨b9, A9, k9, c9, rfl⟩ := hI.shape
      have pr := PR.out.below hb2
      obtain ⟨q1, q2, q3, q4, q5⟩ := pr.facts
      have HI := Hd (hI.pair (g := w.heap.size + 1) (a := .bool b9) (b := .slice A9 k9 c9) (by omega))
      have HB := Hd (below2 (belowTo B0.out hb2) (show w.heap.size ≤ w.heap.size + 1 by omega) (.bool b9) (.slice A9 k9 c9))
      have HQ := Hd (pr.store (.bool b9) (.slice A9 k9 c9))
      clear hI hb2 pr
      go_wp2_with fail
      obtain ⟨_, k0, k1, _, _⟩ := HQ.out.facts
      exact bodyPost_ret (by simp [results, Tryd.results26, go_sem, k0, k1]) rfl ⟨_, rfl, HI.out.base (by omega), HB.out⟩
/- Signs and order of numbers: plain. -/

end Go.Proofs.YtkncbenhfcpgkaaDoor
