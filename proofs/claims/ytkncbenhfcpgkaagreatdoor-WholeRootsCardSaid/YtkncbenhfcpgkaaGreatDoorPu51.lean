/- Several texts in one: Answered, Vars, RefHalved, Shift. -/
import Derived.Test.YtkncbenhfcpgkaaGreatDoorPu08
import Derived.Test.YtkncbenhfcpgkaaGreatDoorPuHd
import Derived.Test.YtkncbenhfcpgkaaGreatDoorPu50
import Derived.Test.YtkncbenhfcpgkaaGreatDoorPu05
import Derived.Test.YtkncbenhfcpgkaaGreatDoorPu04
import Derived.Test.YtkncbenhfcpgkaaGreatDoorPu01
import Derived.Test.YtkncbenhfcpgkaaGreatDoorPu03
import Derived.Test.YtkncbenhfcpgkaaGreatDoorPu33
import Derived.Test.YtkncbenhfcpgkaaGreatDoorPu02
import Derived.Test.YtkncbenhfcpgkaaGreatDoorPu34
import Derived.Test.YtkncbenhfcpgkaaGreatDoorPu39
import Derived.Test.YtkncbenhfcpgkaaGreatDoorPu07
import Derived.Test.YtkncbenhfcpgkaaGreatDoorPu06
import Derived.Test.YtkncbenhfcpgkaaGreatDoorPu11
import Derived.Test.YtkncbenhfcpgkaaGreatDoorPu09
import Derived.Test.YtkncbenhfcpgkaaGreatDoorPu10
import Derived.Test.YtkncbenhfcpgkaaGreatDoorPu17
import Derived.Test.YtkncbenhfcpgkaaGreatDoorPu18
import Derived.Test.YtkncbenhfcpgkaaGreatDoorPu35
import Derived.Test.YtkncbenhfcpgkaaGreatDoorPu36
import Derived.Test.YtkncbenhfcpgkaaGreatDoorPu15
import Derived.Test.YtkncbenhfcpgkaaGreatDoorPu14
import Derived.Test.YtkncbenhfcpgkaaGreatDoorPu13
import Derived.Test.YtkncbenhfcpgkaaGreatDoorPu12
import Derived.Test.YtkncbenhfcpgkaaGreatDoorPu16
import Derived.Test.YtkncbenhfcpgkaaGreatDoorPu20
import Derived.Test.YtkncbenhfcpgkaaGreatDoorPu37
import Derived.Test.YtkncbenhfcpgkaaGreatDoorPu19
set_option maxRecDepth 100000
set_option maxHeartbeats 8000000
/- answered: the same number, the same error. -/
namespace Go.Proofs.YtkncbenhfcpgkaaGreatDoor
open Go.RowKit

theorem answered_own (b : Bool) (A B : Option Addr) (c d : Nat) (xs : List Nat) (k : Int) (w : World) (h : Raw w A c xs) (g : Raw w B d xs) :
    Calls Tryz.prog 12 #[.agg #[.bool b, .slice A xs.length c], .int .i64 k, .agg #[.bool b, .slice B xs.length d], .int .i64 k] w fun e w' => e = .returned (.bool true) ∧ Below w.heap.size w w' := by
  have b0 := Hd (((Below.refl w.heap.size w).alloc (Nat.le_refl _) (.cells #[.bool b, .slice A xs.length c] 24)).alloc (by simp) (.cells #[.bool b, .slice B xs.length d] 24))
  have C := same_any b b A B c d xs xs _ ((h.alloc (.cells #[.bool b, .slice A xs.length c] 24)).alloc (.cells #[.bool b, .slice B xs.length d] 24)) ((g.alloc (.cells #[.bool b, .slice A xs.length c] 24)).alloc (.cells #[.bool b, .slice B xs.length d] 24))
  rw [show decide (b = b ∧ xs = xs) = true by simp] at C
  have HC := Hd C
  clear C h g
  go_enter Tryz.func12, Tryz.ntmps12
  go_wp2_with (first | (go_at_call 40; refine HC.out.mono ?_; rintro e w' ⟨rfl, hb⟩))
  go_ret
  exact ⟨rfl, belowTo b0.out hb⟩
theorem answered_true (v1 v2 : Value) (r k : Int) (w : World) (h : IntAt w v1 r) (g : IntAt w v2 r) :
    Calls Tryz.prog 12 #[v1, .int .i64 k, v2, .int .i64 k] w fun e w' => e = .returned (.bool true) ∧ Below w.heap.size w w' := by
  obtain ⟨A, c, rfl, h1⟩ := h.form
  obtain ⟨B, d, rfl, g1⟩ := g.form
  exact answered_own _ A B c d _ k w h1 g1
/- Variables that hold numbers of the call's own, for the books of the laws. -/

theorem int_agg {b b' : Bool} {A A' : Option Addr} {n n' c c' : Nat} (h : Value.agg #[.bool b, .slice A n c] = .agg #[.bool b', .slice A' n' c']) : (Value.slice A n c) = .slice A' n' c' := by
  simp only [Value.agg.injEq] at h
  have := congrArg (fun a : Array Value => a[1]?) h
  simpa using this
structure VarOwn (w : World) (g : Nat) (b : Bool) (A : Option Addr) (n c lo hi : Nat) (r : Int) : Prop where
  pair : Pair w g 24 (.bool b) (.slice A n c)
  own : IntOwn w lo (.agg #[.bool b, .slice A n c]) r
  top : ∀ x, (Value.slice A n c).ownBlock = some x → x < hi
theorem VarOwn.below {w w' : World} {g n c lo hi : Nat} {b : Bool} {A : Option Addr} {r : Int} (h : VarOwn w g b A n c lo hi r) (hb : Below w.heap.size w w') : VarOwn w' g b A n c lo hi r := ⟨h.pair.below hb, h.own.below hb, h.top⟩
theorem VarOwn.of {w w' : World} {g n c lo : Nat} {b : Bool} {A : Option Addr} {r : Int} (h : IntOwn w lo (.agg #[.bool b, .slice A n c]) r) (hb : Below w.heap.size w w') (p : Pair w' g 24 (.bool b) (.slice A n c)) : VarOwn w' g b A n c lo w.heap.size r := by
  refine ⟨p, h.below hb, fun x hx => ?_⟩
  obtain ⟨A', c', h1, h2, h3, h4⟩ := h.form
  rw [int_agg h1] at hx
  exact (h4.lt x hx).2
theorem VarOwn.row {w : World} {g n c lo hi : Nat} {b : Bool} {A : Option Addr} {r : Int} (h : VarOwn w g b A n c lo hi r) (hn : n ≤ 1073741824) : ∃ k X, k ≤ 1073741824 ∧ w.ownsRow lo tLimb 1 (.slice A n c) k X := by
  obtain ⟨A', c', h1, h2, h3, h4⟩ := h.own.form
  have e := int_agg h1
  rw [e]
  injection e with e1 e2 e3
  exact ⟨_, _, by omega, h4⟩
theorem TwinAt.row_ {w : World} {g lo : Nat} {xs : List Nat} (h : TwinAt w g xs) (hlo : lo ≤ g) (hl : xs.length ≤ 1048576) : w.ownsRow lo tLimb 1 (.slice (some ⟨g, 0, none⟩) xs.length (xs.length + 1)) xs.length (cellsU xs) := by
  refine ⟨by rw [cellsU_length, Nat.mul_one], .inr ⟨g, xs.length + 1, _, rfl, hlo, h.blk, Nat.le_succ _, by unfold maxLen; omega, by simp [cellsU], ?_⟩⟩
  simp [cellsU]
structure VarAt (w : World) (g : Nat) (b : Bool) (A : Option Addr) (n c : Nat) (r : Int) : Prop where
  pair : Pair w g 24 (.bool b) (.slice A n c)
  at_ : IntAt w (.agg #[.bool b, .slice A n c]) r
theorem VarAt.below {w w' : World} {g n c : Nat} {b : Bool} {A : Option Addr} {r : Int} (h : VarAt w g b A n c r) (hb : Below w.heap.size w w') : VarAt w' g b A n c r := ⟨h.pair.below hb, h.at_.below hb⟩
/- Halved of the references: divided by 2^n and rounded down. (Written by wip/exact/genrefhalved.py.) -/

theorem ref_Halved_all_neg (x z k : Int) (A : Option Addr) (c : Nat) (w : World) (h_x : Raw w A c (natL x.natAbs)) (hx : lz x ≤ 1000000) (_ : 0 ≤ k) (_ : k ≤ 1048576) (hge : 32 * (lz x : Int) ≤ k) (hs : x < 0) (hz : z = -1) :
    Calls Tryz.prog 39 #[.agg #[.bool (decide (x < 0)), .slice A (natL x.natAbs).length c], .int .i64 k] w (RetInt w.heap.size w z) := by
  have hge2 : 32 * ((natL x.natAbs).length : Int) ≤ k := hge
  have hl2 : ((natL x.natAbs).length : Int) ≤ 1000000 := by unfold lz at hx; omega
  have hng : decide (x < 0) = true := decide_eq_true hs
  have HZ := Hd hz
  have HNG := Hd hng
  clear hx hge hs hz hng
  have b0 := (((Below.refl w.heap.size w).alloc (Nat.le_refl _) (.cells #[.bool (decide (x < 0)), .slice A (natL x.natAbs).length c] 24)).alloc (by simp) (.cells #[.bool false, .slice none 0 0] 24))
  have p0 := (Pair.new w 24 (.bool (decide (x < 0))) (.slice A (natL x.natAbs).length c)).alloc (.cells #[.bool false, .slice none 0 0] 24)
  have p1 := Pair.new (w.alloc (.cells #[.bool (decide (x < 0)), .slice A (natL x.natAbs).length c] 24)) 24 (.bool false) (.slice none 0 0)
  simp only [World.size_alloc] at p1
  have V_x := Hd (NV.of h_x b0 p0)
  have P_r0 := Hd p1
  have RW_x := Hd h_x
  have HBW := Hd b0
  clear b0 p0 p1 h_x
  go_enter Tryz.func39, Tryz.ntmps39
  obtain ⟨W, E⟩ : ∃ W, W = ((w.alloc (.cells #[.bool (decide (x < 0)), .slice A (natL x.natAbs).length c] 24)).alloc (.cells #[.bool false, .slice none 0 0] 24)) := ⟨_, rfl⟩
  go_upto_region 1 with fail
  rw [← E] at V_x P_r0 HBW ⊢
  clear E
  have hng := HNG.out
  obtain ⟨l_x, a_x, b_x, -, -⟩ := V_x.out.pair.facts
  go_wp2_with fail
  refine (rof (-1) z HZ.out (by decide) (by decide) W).mono ?_
  rintro e w9 ⟨v, rfl, hI, hb⟩
  clear l_x a_x b_x
  have hsz := P_r0.out.blk.lt
  obtain ⟨b9, A9, k9, c9, rfl⟩ := hI.shape
  have pr := P_r0.out.below hb
  obtain ⟨q1, q2, q3, q4, q5⟩ := pr.facts
  have HI := Hd (hI.pair (g := w.heap.size + 1) (a := .bool b9) (b := .slice A9 k9 c9) (by omega))
  have HB := Hd (below2 (belowTo HBW.out hb) (show w.heap.size ≤ w.heap.size + 1 by omega) (.bool b9) (.slice A9 k9 c9))
  have HQ := Hd (pr.store (.bool b9) (.slice A9 k9 c9))
  clear hI hb pr
  go_wp2_with fail
  obtain ⟨_, k0, k1, _, _⟩ := HQ.out.facts
  exact bodyPost_ret (by simp [results, Tryz.results39, go_sem, k0, k1]) rfl ⟨_, rfl, HI.out.base (by omega), HB.out⟩

theorem ref_Halved_all_pos (x z k : Int) (A : Option Addr) (c : Nat) (w : World) (h_x : Raw w A c (natL x.natAbs)) (hx : lz x ≤ 1000000) (_ : 0 ≤ k) (_ : k ≤ 1048576) (hge : 32 * (lz x : Int) ≤ k) (hs : 0 ≤ x) (hz : z = 0) :
    Calls Tryz.prog 39 #[.agg #[.bool (decide (x < 0)), .slice A (natL x.natAbs).length c], .int .i64 k] w (RetInt w.heap.size w z) := by
  have hge2 : 32 * ((natL x.natAbs).length : Int) ≤ k := hge
  have hl2 : ((natL x.natAbs).length : Int) ≤ 1000000 := by unfold lz at hx; omega
  have hng : decide (x < 0) = false := decide_eq_false (by omega)
  have HZ := Hd hz
  have HNG := Hd hng
  clear hx hge hs hz hng
  have b0 := (((Below.refl w.heap.size w).alloc (Nat.le_refl _) (.cells #[.bool (decide (x < 0)), .slice A (natL x.natAbs).length c] 24)).alloc (by simp) (.cells #[.bool false, .slice none 0 0] 24))
  have p0 := (Pair.new w 24 (.bool (decide (x < 0))) (.slice A (natL x.natAbs).length c)).alloc (.cells #[.bool false, .slice none 0 0] 24)
  have p1 := Pair.new (w.alloc (.cells #[.bool (decide (x < 0)), .slice A (natL x.natAbs).length c] 24)) 24 (.bool false) (.slice none 0 0)
  simp only [World.size_alloc] at p1
  have V_x := Hd (NV.of h_x b0 p0)
  have P_r0 := Hd p1
  have RW_x := Hd h_x
  have HBW := Hd b0
  clear b0 p0 p1 h_x
  go_enter Tryz.func39, Tryz.ntmps39
  obtain ⟨W, E⟩ : ∃ W, W = ((w.alloc (.cells #[.bool (decide (x < 0)), .slice A (natL x.natAbs).length c] 24)).alloc (.cells #[.bool false, .slice none 0 0] 24)) := ⟨_, rfl⟩
  go_upto_region 1 with fail
  rw [← E] at V_x P_r0 HBW ⊢
  clear E
  have hng := HNG.out
  obtain ⟨l_x, a_x, b_x, -, -⟩ := V_x.out.pair.facts
  obtain ⟨l_r0, a_r0, b_r0, f_r0, g_r0⟩ := P_r0.out.facts
  have HQ := Hd (P_r0.out.store (.bool false) (.slice none 0 0))
  have HB := Hd (below2 HBW.out (show w.heap.size ≤ w.heap.size + 1 by omega) (.bool false) (.slice none 0 0))
  have hq0 := HQ.out.facts
  go_wp2_with fail
  obtain ⟨_, k0, k1, _, _⟩ := HQ.out.facts
  exact bodyPost_ret (by simp [results, Tryz.results39, go_sem, k0, k1]) rfl ⟨.agg #[.bool false, .slice none 0 0], rfl, by rw [HZ.out]; exact IntOwn.nought _ _, HB.out⟩

theorem part_any (xs : List Nat) (i : Nat) (h : i < xs.length) (b : Bool) (hb : b = decide (val (xs.take i) ≠ 0)) : (b || decide (xs[i] ≠ 0)) = decide (val (xs.take (i + 1)) ≠ 0) := by
  rw [hb, List.take_succ_eq_append_getElem h, val_append]
  have hv : val [xs[i]] = xs[i] := by simp [val]
  rw [hv]
  have hp : 0 < 4294967296 ^ (xs.take i).length := Nat.pow_pos (by omega)
  by_cases h0 : xs[i] = 0
  · rw [h0]; simp
  · have h1 : 0 < 4294967296 ^ (xs.take i).length * xs[i] := Nat.mul_pos hp (by omega)
    rw [decide_eq_true h0, Bool.or_true, eq_comm]
    exact decide_eq_true (by omega)

theorem ref_Halved_pos (x z k : Int) (A : Option Addr) (c : Nat) (w : World) (h_x : Raw w A c (natL x.natAbs)) (hx : lz x ≤ 1000000) (hk0 : 0 ≤ k) (hk : k ≤ 1048576) (hlt : k < 32 * (lz x : Int)) (hs : 0 ≤ x) (hz : z = x / ((2 ^ k.toNat : Nat) : Int)) :
    Calls Tryz.prog 39 #[.agg #[.bool (decide (x < 0)), .slice A (natL x.natAbs).length c], .int .i64 k] w (RetInt w.heap.size w z) := by
  obtain ⟨n, rfl⟩ := Int.eq_ofNat_of_zero_le hk0
  rw [Int.toNat_natCast] at *
  obtain ⟨m, hm⟩ : ∃ m, m = n / 32 := ⟨_, rfl⟩
  obtain ⟨r, hr⟩ : ∃ r, r = n % 32 := ⟨_, rfl⟩
  obtain ⟨xs, hxs⟩ : ∃ xs, xs = natL x.natAbs := ⟨_, rfl⟩
  obtain ⟨L, hL⟩ : ∃ L, L = xs.length - m := ⟨_, rfl⟩
  unfold lz at hx hlt
  rw [← hxs] at hx hlt h_x ⊢
  have hmi : (n : Int) / 32 = (m : Int) := by omega
  have hri : (n : Int) % 32 = (r : Int) := by omega
  have hrt : (n : Int).tmod 32 = (r : Int) := by rw [Int.tmod_eq_emod_of_nonneg (by omega)]; exact hri
  have hm2 : m < xs.length := by omega
  have hr2 : r ≤ 31 := by omega
  have HLX := Hd (show lz x ≤ 1000000 from by unfold lz; rw [← hxs]; exact hx)
  have HNM := Hd (show n = 32 * m + r by omega)
  have hne : 0 < xs.length := by omega
  have hlm := h_x.limbs
  have hcap := h_x.cap
  have hmost := h_x.most
  have hm3 : (m : Int) < (xs.length : Int) := by omega
  have hm4 : (0 : Int) ≤ (m : Int) := by omega
  have hn1 : (n : Int) ≤ 1048576 := hk
  have hl1 : (xs.length : Int) ≤ 1000000 := by omega
  have g1 : (n : Int) < 32 * (xs.length : Int) := by omega
  have hcm : ¬ c = m := by omega
  have hLi : (xs.length : Int) - (m : Int) = (L : Int) := by omega
  have hv : val xs = x.natAbs := by rw [hxs, val_natL]
  have HV := Hd hv
  have hfl := half_val hlm (Nat.le_of_lt hm2) HNM.out
  have HHV := Hd hfl
  have hrest := half_rest hlm (Nat.le_of_lt hm2) HNM.out
  have HRS := Hd hrest
  have HZ := Hd hz
  have HS := Hd hs
  have hng : decide (x < 0) = false := decide_eq_false (by omega)
  obtain ⟨ad, rfl, -, -⟩ := h_x.reads.2 hne
  have p0 := (Pair.new w 24 (.bool (decide (x < 0))) (.slice (some ad) xs.length c)).alloc (.cells #[.bool false, .slice none 0 0] 24)
  have p1 := Pair.new (w.alloc (.cells #[.bool (decide (x < 0)), .slice (some ad) xs.length c] 24)) 24 (.bool false) (.slice none 0 0)
  have b0 := ((Below.refl w.heap.size w).alloc (Nat.le_refl _) (.cells #[.bool (decide (x < 0)), .slice (some ad) xs.length c] 24)).alloc (by simp) (.cells #[.bool false, .slice none 0 0] 24)
  have rx := (h_x.alloc (.cells #[.bool (decide (x < 0)), .slice (some ad) xs.length c] 24)).alloc (.cells #[.bool false, .slice none 0 0] 24)
  simp only [World.size_alloc] at p1
  rw [hng] at p0 p1 b0 rx ⊢
  have P_x := Hd p0
  have P_r0 := Hd p1
  have HBW := Hd b0
  have RX := Hd rx
  have HLM := Hd hlm
  clear p0 p1 b0 rx h_x hs hz hlm hv hfl hrest hL hm hr hx hlt hk0 hk hxs
  go_enter Tryz.func39, Tryz.ntmps39
  obtain ⟨W, E⟩ : ∃ W, W = (w.alloc (.cells #[.bool false, .slice (some ad) xs.length c] 24)).alloc (.cells #[.bool false, .slice none 0 0] 24) := ⟨_, rfl⟩
  go_upto_region 1 with fail
  rw [← E] at P_x P_r0 HBW RX ⊢
  clear E
  obtain ⟨l_x, a_x, b_x, -, -⟩ := P_x.out.facts
  go_wp2_with fail
  go_loop [6, 7] (fun v6 v7 => ∃ (i : Nat) (b : Bool), v6 = .bool b ∧ v7 = .int .i64 i ∧ i ≤ m ∧ Hid (b = decide (val (xs.take i) ≠ 0))) (fun _ v7 => m - (intOf v7).toNat)
  case atStart => exact ⟨0, false, rfl, rfl, Nat.zero_le _, Hd (by simp [val])⟩
  case round =>
    obtain ⟨i, b, rfl, rfl, hi, HB⟩ := hrel
    by_cases him : i < m
    · have i1 : (i : Int) < (m : Int) := by omega
      have i2 : (i : Int) < (xs.length : Int) := by omega
      have i0 : (0 : Int) ≤ (i : Int) := by omega
      have hil : i < xs.length := by omega
      have HN := Hd (part_any xs i hil b HB.out)
      obtain ⟨ad2, e2, had2, hc2⟩ := RX.out.reads.get hil
      obtain rfl := Option.some.inj e2
      obtain ⟨u, hu⟩ : ∃ u : Int, u = ((xs[i] : Nat) : Int) := ⟨_, rfl⟩
      rw [← hu] at hc2
      have HUB := Hd (show decide (xs[i] ≠ 0) = (u != 0) from by rw [hu, Bool.eq_iff_iff]; simp)
      clear hu e2
      cases b
      · by_cases hu0 : u = 0
        · have hub : (u != 0) = false := by rw [hu0]; rfl
          have HN2 := Hd (show false = decide (val (xs.take (i + 1)) ≠ 0) from by have h1 := HN.out; rw [HUB.out, hub] at h1; exact h1)
          subst hu0
          clear hub
          go_wp2_with fail
          go_round
          case rel => exact ⟨i + 1, false, rfl, by go_num, by omega, HN2⟩
          case measure => simp [intOf]; omega
        · have hub : (u != 0) = true := by simpa using hu0
          have HN2 := Hd (show true = decide (val (xs.take (i + 1)) ≠ 0) from by have h1 := HN.out; rw [HUB.out, hub] at h1; exact h1)
          clear hu0
          go_wp2_with fail
          go_round
          case rel => exact ⟨i + 1, true, rfl, by go_num, by omega, HN2⟩
          case measure => simp [intOf]; omega
      · have HN2 := Hd (show true = decide (val (xs.take (i + 1)) ≠ 0) from by have h1 := HN.out; rw [Bool.true_or] at h1; exact h1)
        go_wp2_with fail
        go_round
        case rel => exact ⟨i + 1, true, rfl, by go_num, by omega, HN2⟩
        case measure => simp [intOf]; omega
    · obtain rfl : i = m := by omega
      have HLO := Hd HB.out
      clear HB
      go_wp2_with fail
      go_loop [8, 9] (fun v6 v7 => ∃ k f : Nat, v6 = .int .u32 f ∧ v7 = .int .i64 k ∧ k ≤ r ∧ f < 4294967296 ∧ Hid (f = 2 ^ k)) (fun _ v7 => r - (intOf v7).toNat)
      case atStart => exact ⟨0, 1, rfl, rfl, Nat.zero_le _, by omega, Hd rfl⟩
      case round =>
        obtain ⟨k, f, rfl, rfl, hk, hf, HF⟩ := hrel
        by_cases hkr : k < r
        · have h2f : 2 * f < 4294967296 := by
            have e : 2 * f = 2 ^ (k + 1) := by rw [HF.out, Nat.pow_succ, Nat.mul_comm]
            rw [e]
            exact Nat.lt_of_le_of_lt (Nat.pow_le_pow_right (by omega) (show k + 1 ≤ 31 by omega)) (by decide)
          have hki : (k : Int) < (r : Int) := by omega
          have h2i : (2 * (f : Int)) % 4294967296 = ((2 * f : Nat) : Int) := by omega
          have HF2 := Hd (show 2 * f = 2 ^ (k + 1) by rw [HF.out, Nat.pow_succ, Nat.mul_comm])
          clear HF
          go_wp2_with fail
          go_round
          case rel => exact ⟨k + 1, 2 * f, by first | rfl | go_num, by go_num, hkr, h2f, HF2⟩
          case measure => simp [intOf]; omega
        · obtain rfl : k = r := by omega
          have hf0 : 0 < f := by rw [HF.out]; exact Nat.two_pow_pos _
          have C1 := Hd (fun (V : World) (hV : Raw V (some (ad.add i)) (c - i) (xs.drop i)) => ref_short (some (ad.add i)) (c - i) f (xs.drop i) hf0 hf (by rw [List.length_drop]; omega) V hV)
          have hll : (xs.drop i).length = xs.length - i := by rw [List.length_drop]
          rw [hll] at C1
          have HQ := Hd (show val (xs.drop i) / f = x.natAbs / 2 ^ n from by rw [HF.out, ← HHV.out, HV.out])
          rw [HQ.out] at C1
          obtain ⟨rs, hrs⟩ : ∃ rs, rs = val (xs.drop i) % f := ⟨_, rfl⟩
          rw [← hrs] at C1
          have HRR := Hd (show (x.natAbs % 2 ^ n = 0 ↔ b = false ∧ rs = 0) from by
            have h1 := HRS.out
            rw [HV.out, ← HF.out, ← hrs] at h1
            rw [h1, HLO.out]
            simp)
          clear hll hrs hf0
          go_wp2_with fail
          refine (C1.out W (RX.out.drop hm2)).mono ?_
          rintro e w1 ⟨v1, rfl, ho, hb⟩
          have hsz1 := P_r0.out.blk.lt
          have P_x := Hd (P_x.out.below hb)
          have P_r0 := Hd (P_r0.out.below hb)
          have hszW := HBW.out.size
          have HBW := Hd (belowTo HBW.out hb)
          have HO := Hd (ho.base (b' := w.heap.size + 2) (by omega))
          have hsz := P_r0.out.blk.lt
          clear hb ho C1 l_x a_x b_x
          obtain ⟨l_x, a_x, b_x, -, -⟩ := P_x.out.facts
          have HS1 := Hd (show Calls Tryz.prog 120 #[.bool false, v1] w1 (RetInt (w.heap.size + 2) w1 z) from by
            have := ref_signed_own false v1 (x.natAbs / 2 ^ n) _ (w.heap.size + 2) w1 (HO.out.ownL (Nat.le_refl _))
            rw [HZ.out]
            obtain ⟨t, rfl⟩ := Int.eq_ofNat_of_zero_le HS.out
            rw [floor_pos]
            exact this)
          go_wp2_with fail
          refine (HS1.out).mono ?_
          rintro e w9 ⟨v, rfl, hI, hb⟩
          obtain ⟨b9, A9, k9, c9, rfl⟩ := hI.shape
          have pr := P_r0.out.below hb
          have q1 := pr.facts
          have HI := Hd (hI.pair (g := w.heap.size + 1) (a := .bool b9) (b := .slice A9 k9 c9) (by omega))
          have HB := Hd (below2 (belowTo HBW.out hb) (show w.heap.size ≤ w.heap.size + 1 by omega) (.bool b9) (.slice A9 k9 c9))
          have HQ2 := Hd (pr.store (.bool b9) (.slice A9 k9 c9))
          clear hI hb pr
          go_wp2_with fail
          obtain ⟨_, k0, k1, _, _⟩ := HQ2.out.facts
          exact bodyPost_ret (by simp [results, Tryz.results39, go_sem, k0, k1]) rfl ⟨_, rfl, HI.out.base (by omega), HB.out⟩

theorem ref_Halved_exact (x z k : Int) (A : Option Addr) (c : Nat) (w : World) (h_x : Raw w A c (natL x.natAbs)) (hx : lz x ≤ 1000000) (hk0 : 0 ≤ k) (hk : k ≤ 1048576) (hlt : k < 32 * (lz x : Int)) (hs : x < 0) (hr0 : x.natAbs % 2 ^ k.toNat = 0) (hz : z = x / ((2 ^ k.toNat : Nat) : Int)) :
    Calls Tryz.prog 39 #[.agg #[.bool (decide (x < 0)), .slice A (natL x.natAbs).length c], .int .i64 k] w (RetInt w.heap.size w z) := by
  obtain ⟨n, rfl⟩ := Int.eq_ofNat_of_zero_le hk0
  rw [Int.toNat_natCast] at *
  obtain ⟨m, hm⟩ : ∃ m, m = n / 32 := ⟨_, rfl⟩
  obtain ⟨r, hr⟩ : ∃ r, r = n % 32 := ⟨_, rfl⟩
  obtain ⟨xs, hxs⟩ : ∃ xs, xs = natL x.natAbs := ⟨_, rfl⟩
  obtain ⟨L, hL⟩ : ∃ L, L = xs.length - m := ⟨_, rfl⟩
  unfold lz at hx hlt
  rw [← hxs] at hx hlt h_x ⊢
  have hmi : (n : Int) / 32 = (m : Int) := by omega
  have hri : (n : Int) % 32 = (r : Int) := by omega
  have hrt : (n : Int).tmod 32 = (r : Int) := by rw [Int.tmod_eq_emod_of_nonneg (by omega)]; exact hri
  have hm2 : m < xs.length := by omega
  have hr2 : r ≤ 31 := by omega
  have HLX := Hd (show lz x ≤ 1000000 from by unfold lz; rw [← hxs]; exact hx)
  have HNM := Hd (show n = 32 * m + r by omega)
  have hne : 0 < xs.length := by omega
  have hlm := h_x.limbs
  have hcap := h_x.cap
  have hmost := h_x.most
  have hm3 : (m : Int) < (xs.length : Int) := by omega
  have hm4 : (0 : Int) ≤ (m : Int) := by omega
  have hn1 : (n : Int) ≤ 1048576 := hk
  have hl1 : (xs.length : Int) ≤ 1000000 := by omega
  have g1 : (n : Int) < 32 * (xs.length : Int) := by omega
  have hcm : ¬ c = m := by omega
  have hLi : (xs.length : Int) - (m : Int) = (L : Int) := by omega
  have hv : val xs = x.natAbs := by rw [hxs, val_natL]
  have HV := Hd hv
  have hfl := half_val hlm (Nat.le_of_lt hm2) HNM.out
  have HHV := Hd hfl
  have hrest := half_rest hlm (Nat.le_of_lt hm2) HNM.out
  have HRS := Hd hrest
  have HZ := Hd hz
  have HS := Hd hs
  have HR0 := Hd hr0
  have hng : decide (x < 0) = true := decide_eq_true hs
  obtain ⟨ad, rfl, -, -⟩ := h_x.reads.2 hne
  have p0 := (Pair.new w 24 (.bool (decide (x < 0))) (.slice (some ad) xs.length c)).alloc (.cells #[.bool false, .slice none 0 0] 24)
  have p1 := Pair.new (w.alloc (.cells #[.bool (decide (x < 0)), .slice (some ad) xs.length c] 24)) 24 (.bool false) (.slice none 0 0)
  have b0 := ((Below.refl w.heap.size w).alloc (Nat.le_refl _) (.cells #[.bool (decide (x < 0)), .slice (some ad) xs.length c] 24)).alloc (by simp) (.cells #[.bool false, .slice none 0 0] 24)
  have rx := (h_x.alloc (.cells #[.bool (decide (x < 0)), .slice (some ad) xs.length c] 24)).alloc (.cells #[.bool false, .slice none 0 0] 24)
  simp only [World.size_alloc] at p1
  rw [hng] at p0 p1 b0 rx ⊢
  have P_x := Hd p0
  have P_r0 := Hd p1
  have HBW := Hd b0
  have RX := Hd rx
  have HLM := Hd hlm
  clear p0 p1 b0 rx h_x hs hz hlm hv hfl hrest hL hm hr hx hlt hk0 hk hxs hr0
  go_enter Tryz.func39, Tryz.ntmps39
  obtain ⟨W, E⟩ : ∃ W, W = (w.alloc (.cells #[.bool true, .slice (some ad) xs.length c] 24)).alloc (.cells #[.bool false, .slice none 0 0] 24) := ⟨_, rfl⟩
  go_upto_region 1 with fail
  rw [← E] at P_x P_r0 HBW RX ⊢
  clear E
  obtain ⟨l_x, a_x, b_x, -, -⟩ := P_x.out.facts
  go_wp2_with fail
  go_loop [6, 7] (fun v6 v7 => ∃ (i : Nat) (b : Bool), v6 = .bool b ∧ v7 = .int .i64 i ∧ i ≤ m ∧ Hid (b = decide (val (xs.take i) ≠ 0))) (fun _ v7 => m - (intOf v7).toNat)
  case atStart => exact ⟨0, false, rfl, rfl, Nat.zero_le _, Hd (by simp [val])⟩
  case round =>
    obtain ⟨i, b, rfl, rfl, hi, HB⟩ := hrel
    by_cases him : i < m
    · have i1 : (i : Int) < (m : Int) := by omega
      have i2 : (i : Int) < (xs.length : Int) := by omega
      have i0 : (0 : Int) ≤ (i : Int) := by omega
      have hil : i < xs.length := by omega
      have HN := Hd (part_any xs i hil b HB.out)
      obtain ⟨ad2, e2, had2, hc2⟩ := RX.out.reads.get hil
      obtain rfl := Option.some.inj e2
      obtain ⟨u, hu⟩ : ∃ u : Int, u = ((xs[i] : Nat) : Int) := ⟨_, rfl⟩
      rw [← hu] at hc2
      have HUB := Hd (show decide (xs[i] ≠ 0) = (u != 0) from by rw [hu, Bool.eq_iff_iff]; simp)
      clear hu e2
      cases b
      · by_cases hu0 : u = 0
        · have hub : (u != 0) = false := by rw [hu0]; rfl
          have HN2 := Hd (show false = decide (val (xs.take (i + 1)) ≠ 0) from by have h1 := HN.out; rw [HUB.out, hub] at h1; exact h1)
          subst hu0
          clear hub
          go_wp2_with fail
          go_round
          case rel => exact ⟨i + 1, false, rfl, by go_num, by omega, HN2⟩
          case measure => simp [intOf]; omega
        · have hub : (u != 0) = true := by simpa using hu0
          have HN2 := Hd (show true = decide (val (xs.take (i + 1)) ≠ 0) from by have h1 := HN.out; rw [HUB.out, hub] at h1; exact h1)
          clear hu0
          go_wp2_with fail
          go_round
          case rel => exact ⟨i + 1, true, rfl, by go_num, by omega, HN2⟩
          case measure => simp [intOf]; omega
      · have HN2 := Hd (show true = decide (val (xs.take (i + 1)) ≠ 0) from by have h1 := HN.out; rw [Bool.true_or] at h1; exact h1)
        go_wp2_with fail
        go_round
        case rel => exact ⟨i + 1, true, rfl, by go_num, by omega, HN2⟩
        case measure => simp [intOf]; omega
    · obtain rfl : i = m := by omega
      have HLO := Hd HB.out
      clear HB
      go_wp2_with fail
      go_loop [8, 9] (fun v6 v7 => ∃ k f : Nat, v6 = .int .u32 f ∧ v7 = .int .i64 k ∧ k ≤ r ∧ f < 4294967296 ∧ Hid (f = 2 ^ k)) (fun _ v7 => r - (intOf v7).toNat)
      case atStart => exact ⟨0, 1, rfl, rfl, Nat.zero_le _, by omega, Hd rfl⟩
      case round =>
        obtain ⟨k, f, rfl, rfl, hk, hf, HF⟩ := hrel
        by_cases hkr : k < r
        · have h2f : 2 * f < 4294967296 := by
            have e : 2 * f = 2 ^ (k + 1) := by rw [HF.out, Nat.pow_succ, Nat.mul_comm]
            rw [e]
            exact Nat.lt_of_le_of_lt (Nat.pow_le_pow_right (by omega) (show k + 1 ≤ 31 by omega)) (by decide)
          have hki : (k : Int) < (r : Int) := by omega
          have h2i : (2 * (f : Int)) % 4294967296 = ((2 * f : Nat) : Int) := by omega
          have HF2 := Hd (show 2 * f = 2 ^ (k + 1) by rw [HF.out, Nat.pow_succ, Nat.mul_comm])
          clear HF
          go_wp2_with fail
          go_round
          case rel => exact ⟨k + 1, 2 * f, by first | rfl | go_num, by go_num, hkr, h2f, HF2⟩
          case measure => simp [intOf]; omega
        · obtain rfl : k = r := by omega
          have hf0 : 0 < f := by rw [HF.out]; exact Nat.two_pow_pos _
          have C1 := Hd (fun (V : World) (hV : Raw V (some (ad.add i)) (c - i) (xs.drop i)) => ref_short (some (ad.add i)) (c - i) f (xs.drop i) hf0 hf (by rw [List.length_drop]; omega) V hV)
          have hll : (xs.drop i).length = xs.length - i := by rw [List.length_drop]
          rw [hll] at C1
          have HQ := Hd (show val (xs.drop i) / f = x.natAbs / 2 ^ n from by rw [HF.out, ← HHV.out, HV.out])
          rw [HQ.out] at C1
          obtain ⟨rs, hrs⟩ : ∃ rs, rs = val (xs.drop i) % f := ⟨_, rfl⟩
          rw [← hrs] at C1
          have HRR := Hd (show (x.natAbs % 2 ^ n = 0 ↔ b = false ∧ rs = 0) from by
            have h1 := HRS.out
            rw [HV.out, ← HF.out, ← hrs] at h1
            rw [h1, HLO.out]
            simp)
          clear hll hrs hf0
          go_wp2_with fail
          refine (C1.out W (RX.out.drop hm2)).mono ?_
          rintro e w1 ⟨v1, rfl, ho, hb⟩
          have hsz1 := P_r0.out.blk.lt
          have P_x := Hd (P_x.out.below hb)
          have P_r0 := Hd (P_r0.out.below hb)
          have hszW := HBW.out.size
          have HBW := Hd (belowTo HBW.out hb)
          have HO := Hd (ho.base (b' := w.heap.size + 2) (by omega))
          have hsz := P_r0.out.blk.lt
          clear hb ho C1 l_x a_x b_x
          obtain ⟨l_x, a_x, b_x, -, -⟩ := P_x.out.facts
          obtain ⟨rfl, rfl⟩ := HRR.out.1 HR0.out
          have HS1 := Hd (show Calls Tryz.prog 120 #[.bool true, v1] w1 (RetInt (w.heap.size + 2) w1 z) from by
            have := ref_signed_own true v1 (x.natAbs / 2 ^ n) _ (w.heap.size + 2) w1 (HO.out.ownL (Nat.le_refl _))
            rw [HZ.out]
            have e : x = -((x.natAbs : Nat) : Int) := by have := HS.out; omega
            rw [show x / ((2 ^ n : Nat) : Int) = -((x.natAbs / 2 ^ n : Nat) : Int) from by
              conv => lhs; rw [e]
              rw [floor_neg (Nat.two_pow_pos n), if_pos HR0.out]]
            exact this)
          go_wp2_with fail
          refine (HS1.out).mono ?_
          rintro e w9 ⟨v, rfl, hI, hb⟩
          obtain ⟨b9, A9, k9, c9, rfl⟩ := hI.shape
          have pr := P_r0.out.below hb
          have q1 := pr.facts
          have HI := Hd (hI.pair (g := w.heap.size + 1) (a := .bool b9) (b := .slice A9 k9 c9) (by omega))
          have HB := Hd (below2 (belowTo HBW.out hb) (show w.heap.size ≤ w.heap.size + 1 by omega) (.bool b9) (.slice A9 k9 c9))
          have HQ2 := Hd (pr.store (.bool b9) (.slice A9 k9 c9))
          clear hI hb pr
          go_wp2_with fail
          obtain ⟨_, k0, k1, _, _⟩ := HQ2.out.facts
          exact bodyPost_ret (by simp [results, Tryz.results39, go_sem, k0, k1]) rfl ⟨_, rfl, HI.out.base (by omega), HB.out⟩

theorem ref_Halved_lost (x z k : Int) (A : Option Addr) (c : Nat) (w : World) (h_x : Raw w A c (natL x.natAbs)) (hx : lz x ≤ 1000000) (hk0 : 0 ≤ k) (hk : k ≤ 1048576) (hlt : k < 32 * (lz x : Int)) (hs : x < 0) (hr0 : x.natAbs % 2 ^ k.toNat ≠ 0) (hz : z = x / ((2 ^ k.toNat : Nat) : Int)) :
    Calls Tryz.prog 39 #[.agg #[.bool (decide (x < 0)), .slice A (natL x.natAbs).length c], .int .i64 k] w (RetInt w.heap.size w z) := by
  obtain ⟨n, rfl⟩ := Int.eq_ofNat_of_zero_le hk0
  rw [Int.toNat_natCast] at *
  obtain ⟨m, hm⟩ : ∃ m, m = n / 32 := ⟨_, rfl⟩
  obtain ⟨r, hr⟩ : ∃ r, r = n % 32 := ⟨_, rfl⟩
  obtain ⟨xs, hxs⟩ : ∃ xs, xs = natL x.natAbs := ⟨_, rfl⟩
  obtain ⟨L, hL⟩ : ∃ L, L = xs.length - m := ⟨_, rfl⟩
  unfold lz at hx hlt
  rw [← hxs] at hx hlt h_x ⊢
  have hmi : (n : Int) / 32 = (m : Int) := by omega
  have hri : (n : Int) % 32 = (r : Int) := by omega
  have hrt : (n : Int).tmod 32 = (r : Int) := by rw [Int.tmod_eq_emod_of_nonneg (by omega)]; exact hri
  have hm2 : m < xs.length := by omega
  have hr2 : r ≤ 31 := by omega
  have HLX := Hd (show lz x ≤ 1000000 from by unfold lz; rw [← hxs]; exact hx)
  have HNM := Hd (show n = 32 * m + r by omega)
  have hne : 0 < xs.length := by omega
  have hlm := h_x.limbs
  have hcap := h_x.cap
  have hmost := h_x.most
  have hm3 : (m : Int) < (xs.length : Int) := by omega
  have hm4 : (0 : Int) ≤ (m : Int) := by omega
  have hn1 : (n : Int) ≤ 1048576 := hk
  have hl1 : (xs.length : Int) ≤ 1000000 := by omega
  have g1 : (n : Int) < 32 * (xs.length : Int) := by omega
  have hcm : ¬ c = m := by omega
  have hLi : (xs.length : Int) - (m : Int) = (L : Int) := by omega
  have hv : val xs = x.natAbs := by rw [hxs, val_natL]
  have HV := Hd hv
  have hfl := half_val hlm (Nat.le_of_lt hm2) HNM.out
  have HHV := Hd hfl
  have hrest := half_rest hlm (Nat.le_of_lt hm2) HNM.out
  have HRS := Hd hrest
  have HZ := Hd hz
  have HS := Hd hs
  have HR0 := Hd hr0
  have hng : decide (x < 0) = true := decide_eq_true hs
  obtain ⟨ad, rfl, -, -⟩ := h_x.reads.2 hne
  have p0 := (Pair.new w 24 (.bool (decide (x < 0))) (.slice (some ad) xs.length c)).alloc (.cells #[.bool false, .slice none 0 0] 24)
  have p1 := Pair.new (w.alloc (.cells #[.bool (decide (x < 0)), .slice (some ad) xs.length c] 24)) 24 (.bool false) (.slice none 0 0)
  have b0 := ((Below.refl w.heap.size w).alloc (Nat.le_refl _) (.cells #[.bool (decide (x < 0)), .slice (some ad) xs.length c] 24)).alloc (by simp) (.cells #[.bool false, .slice none 0 0] 24)
  have rx := (h_x.alloc (.cells #[.bool (decide (x < 0)), .slice (some ad) xs.length c] 24)).alloc (.cells #[.bool false, .slice none 0 0] 24)
  simp only [World.size_alloc] at p1
  rw [hng] at p0 p1 b0 rx ⊢
  have P_x := Hd p0
  have P_r0 := Hd p1
  have HBW := Hd b0
  have RX := Hd rx
  have HLM := Hd hlm
  clear p0 p1 b0 rx h_x hs hz hlm hv hfl hrest hL hm hr hx hlt hk0 hk hxs hr0
  go_enter Tryz.func39, Tryz.ntmps39
  obtain ⟨W, E⟩ : ∃ W, W = (w.alloc (.cells #[.bool true, .slice (some ad) xs.length c] 24)).alloc (.cells #[.bool false, .slice none 0 0] 24) := ⟨_, rfl⟩
  go_upto_region 1 with fail
  rw [← E] at P_x P_r0 HBW RX ⊢
  clear E
  obtain ⟨l_x, a_x, b_x, -, -⟩ := P_x.out.facts
  go_wp2_with fail
  go_loop [6, 7] (fun v6 v7 => ∃ (i : Nat) (b : Bool), v6 = .bool b ∧ v7 = .int .i64 i ∧ i ≤ m ∧ Hid (b = decide (val (xs.take i) ≠ 0))) (fun _ v7 => m - (intOf v7).toNat)
  case atStart => exact ⟨0, false, rfl, rfl, Nat.zero_le _, Hd (by simp [val])⟩
  case round =>
    obtain ⟨i, b, rfl, rfl, hi, HB⟩ := hrel
    by_cases him : i < m
    · have i1 : (i : Int) < (m : Int) := by omega
      have i2 : (i : Int) < (xs.length : Int) := by omega
      have i0 : (0 : Int) ≤ (i : Int) := by omega
      have hil : i < xs.length := by omega
      have HN := Hd (part_any xs i hil b HB.out)
      obtain ⟨ad2, e2, had2, hc2⟩ := RX.out.reads.get hil
      obtain rfl := Option.some.inj e2
      obtain ⟨u, hu⟩ : ∃ u : Int, u = ((xs[i] : Nat) : Int) := ⟨_, rfl⟩
      rw [← hu] at hc2
      have HUB := Hd (show decide (xs[i] ≠ 0) = (u != 0) from by rw [hu, Bool.eq_iff_iff]; simp)
      clear hu e2
      cases b
      · by_cases hu0 : u = 0
        · have hub : (u != 0) = false := by rw [hu0]; rfl
          have HN2 := Hd (show false = decide (val (xs.take (i + 1)) ≠ 0) from by have h1 := HN.out; rw [HUB.out, hub] at h1; exact h1)
          subst hu0
          clear hub
          go_wp2_with fail
          go_round
          case rel => exact ⟨i + 1, false, rfl, by go_num, by omega, HN2⟩
          case measure => simp [intOf]; omega
        · have hub : (u != 0) = true := by simpa using hu0
          have HN2 := Hd (show true = decide (val (xs.take (i + 1)) ≠ 0) from by have h1 := HN.out; rw [HUB.out, hub] at h1; exact h1)
          clear hu0
          go_wp2_with fail
          go_round
          case rel => exact ⟨i + 1, true, rfl, by go_num, by omega, HN2⟩
          case measure => simp [intOf]; omega
      · have HN2 := Hd (show true = decide (val (xs.take (i + 1)) ≠ 0) from by have h1 := HN.out; rw [Bool.true_or] at h1; exact h1)
        go_wp2_with fail
        go_round
        case rel => exact ⟨i + 1, true, rfl, by go_num, by omega, HN2⟩
        case measure => simp [intOf]; omega
    · obtain rfl : i = m := by omega
      have HLO := Hd HB.out
      clear HB
      go_wp2_with fail
      go_loop [8, 9] (fun v6 v7 => ∃ k f : Nat, v6 = .int .u32 f ∧ v7 = .int .i64 k ∧ k ≤ r ∧ f < 4294967296 ∧ Hid (f = 2 ^ k)) (fun _ v7 => r - (intOf v7).toNat)
      case atStart => exact ⟨0, 1, rfl, rfl, Nat.zero_le _, by omega, Hd rfl⟩
      case round =>
        obtain ⟨k, f, rfl, rfl, hk, hf, HF⟩ := hrel
        by_cases hkr : k < r
        · have h2f : 2 * f < 4294967296 := by
            have e : 2 * f = 2 ^ (k + 1) := by rw [HF.out, Nat.pow_succ, Nat.mul_comm]
            rw [e]
            exact Nat.lt_of_le_of_lt (Nat.pow_le_pow_right (by omega) (show k + 1 ≤ 31 by omega)) (by decide)
          have hki : (k : Int) < (r : Int) := by omega
          have h2i : (2 * (f : Int)) % 4294967296 = ((2 * f : Nat) : Int) := by omega
          have HF2 := Hd (show 2 * f = 2 ^ (k + 1) by rw [HF.out, Nat.pow_succ, Nat.mul_comm])
          clear HF
          go_wp2_with fail
          go_round
          case rel => exact ⟨k + 1, 2 * f, by first | rfl | go_num, by go_num, hkr, h2f, HF2⟩
          case measure => simp [intOf]; omega
        · obtain rfl : k = r := by omega
          have hf0 : 0 < f := by rw [HF.out]; exact Nat.two_pow_pos _
          have C1 := Hd (fun (V : World) (hV : Raw V (some (ad.add i)) (c - i) (xs.drop i)) => ref_short (some (ad.add i)) (c - i) f (xs.drop i) hf0 hf (by rw [List.length_drop]; omega) V hV)
          have hll : (xs.drop i).length = xs.length - i := by rw [List.length_drop]
          rw [hll] at C1
          have HQ := Hd (show val (xs.drop i) / f = x.natAbs / 2 ^ n from by rw [HF.out, ← HHV.out, HV.out])
          rw [HQ.out] at C1
          obtain ⟨rs, hrs⟩ : ∃ rs, rs = val (xs.drop i) % f := ⟨_, rfl⟩
          rw [← hrs] at C1
          have HRR := Hd (show (x.natAbs % 2 ^ n = 0 ↔ b = false ∧ rs = 0) from by
            have h1 := HRS.out
            rw [HV.out, ← HF.out, ← hrs] at h1
            rw [h1, HLO.out]
            simp)
          clear hll hrs hf0
          go_wp2_with fail
          refine (C1.out W (RX.out.drop hm2)).mono ?_
          rintro e w1 ⟨v1, rfl, ho, hb⟩
          have hsz1 := P_r0.out.blk.lt
          have P_x := Hd (P_x.out.below hb)
          have P_r0 := Hd (P_r0.out.below hb)
          have hszW := HBW.out.size
          have HBW := Hd (belowTo HBW.out hb)
          have HO := Hd (ho.base (b' := w.heap.size + 2) (by omega))
          have hsz := P_r0.out.blk.lt
          clear hb ho C1 l_x a_x b_x
          obtain ⟨l_x, a_x, b_x, -, -⟩ := P_x.out.facts
          obtain ⟨z1, hz1⟩ : ∃ z1 : Int, z1 = -((x.natAbs / 2 ^ n : Nat) : Int) := ⟨_, rfl⟩
          obtain ⟨one, hone⟩ : ∃ z1 : Int, z1 = 1 := ⟨_, rfl⟩
          have hll : lz z1 ≤ 1000000 := by
            refine Nat.le_trans (lz_mono (y := x) ?_) HLX.out
            rw [hz1, Int.natAbs_neg, Int.natAbs_natCast]
            exact Nat.div_le_self _ _
          have hl1' : lz one ≤ 2 := by rw [hone]; decide
          have HS1 := Hd (show Calls Tryz.prog 120 #[.bool true, v1] w1 (RetInt w.heap.size w1 z1) from by
            have := ref_signed_own true v1 (x.natAbs / 2 ^ n) _ (w.heap.size) w1 ((HO.out.base (b' := w.heap.size) (by omega)).ownL (Nat.le_refl _))
            rw [hz1]
            exact this)
          have HZ2 := Hd (show z = z1 - one from by
            rw [HZ.out, hz1, hone]
            have e : x = -((x.natAbs : Nat) : Int) := by have := HS.out; omega
            conv => lhs; rw [e]
            rw [floor_neg (Nat.two_pow_pos n), if_neg HR0.out]
            omega)
          have HC2 := Hd (fun V : World => rof 1 one hone (by decide) (by decide) V)
          have hrb : (b || decide (0 < rs)) = true := by
            have h1 := HRR.out
            cases b
            · rw [Bool.false_or]; exact decide_eq_true (by have h2 := HR0.out; rcases Nat.eq_zero_or_pos rs with h3 | h3; exact absurd (h1.2 ⟨rfl, h3⟩) h2; exact h3)
            · rfl
          clear hz1 hone
          cases b
          case' false => have hrs0 : 0 < rs := by simpa using hrb
          all_goals clear hrb
          all_goals go_wp2_with fail
          all_goals
            refine HS1.out.mono ?_
            rintro e w2 ⟨v2, rfl, hI2, hb2⟩
            obtain ⟨A2, c2, rfl, r2⟩ := hI2.raw
            have P_r0 := Hd (P_r0.out.below hb2)
            have HBW := Hd (belowTo HBW.out hb2)
            have R2 := Hd r2
            clear hI2 hb2 r2 l_x a_x b_x HS1
            go_wp2_with fail
            refine (HC2.out w2).mono ?_
            rintro e w3 ⟨v3, rfl, hI3, hb3⟩
            obtain ⟨A3, c3, rfl, r3⟩ := hI3.raw
            have P_r0 := Hd (P_r0.out.below hb3)
            have HBW := Hd (belowTo HBW.out hb3)
            have R2 := Hd (R2.out.below hb3)
            have R3 := Hd r3
            have hsz3 := P_r0.out.blk.lt
            clear hI3 hb3 r3 HC2
            go_wp2_with fail
            refine (rminus z1 one z A2 A3 c2 c3 w3 R2.out R3.out (by omega) (by omega) HZ2.out).mono ?_
            rintro e w9 ⟨v, rfl, hI, hb⟩
            obtain ⟨b9, A9, k9, c9, rfl⟩ := hI.shape
            have pr := P_r0.out.below hb
            have q1 := pr.facts
            have HI := Hd (hI.pair (g := w.heap.size + 1) (a := .bool b9) (b := .slice A9 k9 c9) (by omega))
            have HB := Hd (below2 (belowTo HBW.out hb) (show w.heap.size ≤ w.heap.size + 1 by omega) (.bool b9) (.slice A9 k9 c9))
            have HQ2 := Hd (pr.store (.bool b9) (.slice A9 k9 c9))
            clear hI hb pr
            go_wp2_with fail
            obtain ⟨_, k0, k1, _, _⟩ := HQ2.out.facts
            exact bodyPost_ret (by simp [results, Tryz.results39, go_sem, k0, k1]) rfl ⟨_, rfl, HI.out.base (by omega), HB.out⟩

theorem rhalved (x z k : Int) (A : Option Addr) (c : Nat) (w : World) (h : Raw w A c (natL x.natAbs)) (hx : lz x ≤ 1000000) (hk0 : 0 ≤ k) (hk : k ≤ 1048576) (hz : z = x / ((2 ^ k.toNat : Nat) : Int)) :
    Calls Tryz.prog 39 #[.agg #[.bool (decide (x < 0)), .slice A (natL x.natAbs).length c], .int .i64 k] w (RetInt w.heap.size w z) := by
  rcases (by omega : k < 32 * (lz x : Int) ∨ 32 * (lz x : Int) ≤ k) with hlt | hge
  · rcases (by omega : 0 ≤ x ∨ x < 0) with hs | hs
    · exact ref_Halved_pos x z k A c w h hx hk0 hk hlt hs hz
    · by_cases hr0 : x.natAbs % 2 ^ k.toNat = 0
      · exact ref_Halved_exact x z k A c w h hx hk0 hk hlt hs hr0 hz
      · exact ref_Halved_lost x z k A c w h hx hk0 hk hlt hs hr0 hz
  · have hl : x.natAbs < 2 ^ k.toNat := by
      have h1 := lz_lt x
      rw [show (4294967296 : Nat) = 2 ^ 32 by decide, ← Nat.pow_mul] at h1
      exact Nat.lt_of_lt_of_le h1 (Nat.pow_le_pow_right (by omega) (by omega))
    rcases (by omega : 0 ≤ x ∨ x < 0) with hs | hs
    · refine ref_Halved_all_pos x z k A c w h hx hk0 hk hge hs ?_
      obtain ⟨t, rfl⟩ := Int.eq_ofNat_of_zero_le hs
      rw [hz, floor_pos, Nat.div_eq_of_lt (by simpa using hl)]; rfl
    · refine ref_Halved_all_neg x z k A c w h hx hk0 hk hge hs ?_
      rw [hz]
      have e : x = -((x.natAbs : Nat) : Int) := by omega
      rw [e]
      exact floor_all (by omega) (by simpa using hl)
/- Shift of package whole. (Written by wip/exact/genshift.py.) -/

def shiftV (x n : Int) : Int := if x = 0 then 0 else if n < 0 then x / ((2 ^ (min (-n) 65536).toNat : Nat) : Int) else if 65536 < (bz x : Int) + n then 0 else x * ((2 ^ n.toNat : Nat) : Int)
def shiftE (x n : Int) : Int := if x ≠ 0 ∧ 0 ≤ n ∧ 65536 < (bz x : Int) + n then 4 else 0
theorem bz_le {x : Int} (hx : Fit x) : bz x ≤ 65536 := by
  by_cases h : x = 0
  · subst h; decide
  · exact (bits_two (L := 2048) hx h).2
theorem bz_double {x : Int} (hx : x ≠ 0) (n : Nat) : Fit (x * ((2 ^ n : Nat) : Int)) ↔ bz x + n ≤ 65536 := lz_double hx n 2048
theorem echeck_fit (x : Int) (A : Option Addr) (c : Nat) (w : World) (h : Raw w A c (natL x.natAbs)) (hx : Fit x) :
    Calls Tryz.prog 29 #[.agg #[.bool (decide (x < 0)), .slice A (natL x.natAbs).length c]] w fun e w' => e = .returned (.int .i64 0) ∧ Below w.heap.size w w' := by
  have := exact_Check_any (decide (x < 0)) A c _ w h
  unfold errI at this
  rwa [hx.ok, if_pos rfl] at this

theorem whole_Shift_nought (x z n : Int) (A : Option Addr) (c : Nat) (hx : Fit x) (w : World) (h_x : Raw w A c (natL x.natAbs)) (hx0 : x = 0) (hz : z = 0) :
    Calls Tryz.prog 9 #[.agg #[.bool (decide (x < 0)), .slice A (natL x.natAbs).length c], .int .i64 n] w (RetInt2 w.heap.size w z 0) := by
  have F_x := Hd hx
  have HX := Hd hx0
  have HZ := Hd hz
  clear hx hx0 hz
  have b0 := (((Below.refl w.heap.size w).alloc (Nat.le_refl _) (.cells #[.bool (decide (x < 0)), .slice A (natL x.natAbs).length c] 24)).alloc (by simp) (.cells #[.bool false, .slice none 0 0] 24))
  have p0 := (Pair.new w 24 (.bool (decide (x < 0))) (.slice A (natL x.natAbs).length c)).alloc (.cells #[.bool false, .slice none 0 0] 24)
  have p1 := Pair.new (w.alloc (.cells #[.bool (decide (x < 0)), .slice A (natL x.natAbs).length c] 24)) 24 (.bool false) (.slice none 0 0)
  simp only [World.size_alloc] at p1
  have V_x := Hd (NV.of h_x b0 p0)
  have P_r0 := Hd p1
  have RW_x := Hd h_x
  have HBW := Hd b0
  clear b0 p0 p1 h_x
  go_enter Tryz.func9, Tryz.ntmps9
  obtain ⟨W, E⟩ : ∃ W, W = ((w.alloc (.cells #[.bool (decide (x < 0)), .slice A (natL x.natAbs).length c] 24)).alloc (.cells #[.bool false, .slice none 0 0] 24)) := ⟨_, rfl⟩
  go_upto_region 1 with fail
  rw [← E] at V_x P_r0 HBW ⊢
  clear E
  obtain ⟨l_x, a_x, b_x, -, -⟩ := V_x.out.pair.facts
  go_wp2_with fail
  refine (echeck_fit x A c W V_x.out.raw F_x.out).mono ?_
  rintro e x1 ⟨rfl, hb⟩
  clear l_x a_x b_x
  have V_x := Hd (V_x.out.below hb)
  have P_r0 := Hd (P_r0.out.below hb)
  have HBW := Hd (belowTo HBW.out hb)
  clear hb
  have h1 := nought_len HX.out
  obtain ⟨l_x, a_x, b_x, -, -⟩ := V_x.out.pair.facts
  obtain ⟨l_r0, a_r0, b_r0, f_r0, g_r0⟩ := P_r0.out.facts
  have HQ := Hd (P_r0.out.store (.bool false) (.slice none 0 0))
  have HB := Hd (below2 HBW.out (show w.heap.size ≤ w.heap.size + 1 by omega) (.bool false) (.slice none 0 0))
  have hq0 := HQ.out.facts
  go_wp2_with fail
  obtain ⟨_, k0, k1, _, _⟩ := HQ.out.facts
  exact bodyPost_ret (by simp [results, Tryz.results9, go_sem, k0, k1]) rfl ⟨.agg #[.bool false, .slice none 0 0], rfl, by rw [HZ.out]; exact IntOwn.nought _ _, HB.out⟩

theorem whole_Shift_down (x z n : Int) (A : Option Addr) (c : Nat) (hx : Fit x) (w : World) (h_x : Raw w A c (natL x.natAbs)) (hx0 : x ≠ 0) (hn : n < 0) (hz : z = x / ((2 ^ (-max n (-65536) : Int).toNat : Nat) : Int)) :
    Calls Tryz.prog 9 #[.agg #[.bool (decide (x < 0)), .slice A (natL x.natAbs).length c], .int .i64 n] w (RetInt2 w.heap.size w z 0) := by
  have F_x := Hd hx
  have HX := Hd hx0
  have HZ := Hd hz
  have hlx : lz x ≤ 2048 := hx
  have C1 := Hd (fun (V : World) (a : Raw V A c (natL x.natAbs)) => ehalved x z (-max n (-65536)) A c V a (by omega) (by omega) (by omega) hz)
  clear hx hx0 hz hlx
  have b0 := (((Below.refl w.heap.size w).alloc (Nat.le_refl _) (.cells #[.bool (decide (x < 0)), .slice A (natL x.natAbs).length c] 24)).alloc (by simp) (.cells #[.bool false, .slice none 0 0] 24))
  have p0 := (Pair.new w 24 (.bool (decide (x < 0))) (.slice A (natL x.natAbs).length c)).alloc (.cells #[.bool false, .slice none 0 0] 24)
  have p1 := Pair.new (w.alloc (.cells #[.bool (decide (x < 0)), .slice A (natL x.natAbs).length c] 24)) 24 (.bool false) (.slice none 0 0)
  simp only [World.size_alloc] at p1
  have V_x := Hd (NV.of h_x b0 p0)
  have P_r0 := Hd p1
  have RW_x := Hd h_x
  have HBW := Hd b0
  clear b0 p0 p1 h_x
  go_enter Tryz.func9, Tryz.ntmps9
  obtain ⟨W, E⟩ : ∃ W, W = ((w.alloc (.cells #[.bool (decide (x < 0)), .slice A (natL x.natAbs).length c] 24)).alloc (.cells #[.bool false, .slice none 0 0] 24)) := ⟨_, rfl⟩
  go_upto_region 1 with fail
  rw [← E] at V_x P_r0 HBW ⊢
  clear E
  obtain ⟨l_x, a_x, b_x, -, -⟩ := V_x.out.pair.facts
  go_wp2_with fail
  refine (echeck_fit x A c W V_x.out.raw F_x.out).mono ?_
  rintro e x1 ⟨rfl, hb⟩
  clear l_x a_x b_x
  have V_x := Hd (V_x.out.below hb)
  have P_r0 := Hd (P_r0.out.below hb)
  have HBW := Hd (belowTo HBW.out hb)
  clear hb
  have h1 := more_len HX.out
  obtain ⟨l_x, a_x, b_x, -, -⟩ := V_x.out.pair.facts
  go_wp2_with fail
  refine (C1.out x1 V_x.out.raw).mono ?_
  rintro e w9 ⟨v, rfl, hI, hb⟩
  clear l_x a_x b_x
  have hsz := P_r0.out.blk.lt
  obtain ⟨b9, A9, k9, c9, rfl⟩ := hI.shape
  have pr := P_r0.out.below hb
  obtain ⟨q1, q2, q3, q4, q5⟩ := pr.facts
  have HI := Hd (hI.pair (g := w.heap.size + 1) (a := .bool b9) (b := .slice A9 k9 c9) (by omega))
  have HB := Hd (below2 (belowTo HBW.out hb) (show w.heap.size ≤ w.heap.size + 1 by omega) (.bool b9) (.slice A9 k9 c9))
  have HQ := Hd (pr.store (.bool b9) (.slice A9 k9 c9))
  clear hI hb pr
  go_wp2_with fail
  obtain ⟨_, k0, k1, _, _⟩ := HQ.out.facts
  exact bodyPost_ret (by simp [results, Tryz.results9, go_sem, k0, k1]) rfl ⟨_, rfl, HI.out.base (by omega), HB.out⟩

theorem whole_Shift_long (x z n : Int) (A : Option Addr) (c : Nat) (hx : Fit x) (w : World) (h_x : Raw w A c (natL x.natAbs)) (hx0 : x ≠ 0) (hn : 0 ≤ n) (hn2 : n ≤ 9223372036854775807) (hl : 65536 < (bz x : Int) + n) (hz : z = 0) :
    Calls Tryz.prog 9 #[.agg #[.bool (decide (x < 0)), .slice A (natL x.natAbs).length c], .int .i64 n] w (RetInt2 w.heap.size w z 4) := by
  have F_x := Hd hx
  have HX := Hd hx0
  have HZ := Hd hz
  have hlx : lz x ≤ 2048 := hx
  have hbz := bz_le hx
  have C1 := Hd (fun (V : World) (a : Raw V A c (natL x.natAbs)) => ebits x (bz x) A c V a (by omega) rfl)
  generalize bz x = b at *
  clear hx hx0 hz hlx
  have b0 := (((Below.refl w.heap.size w).alloc (Nat.le_refl _) (.cells #[.bool (decide (x < 0)), .slice A (natL x.natAbs).length c] 24)).alloc (by simp) (.cells #[.bool false, .slice none 0 0] 24))
  have p0 := (Pair.new w 24 (.bool (decide (x < 0))) (.slice A (natL x.natAbs).length c)).alloc (.cells #[.bool false, .slice none 0 0] 24)
  have p1 := Pair.new (w.alloc (.cells #[.bool (decide (x < 0)), .slice A (natL x.natAbs).length c] 24)) 24 (.bool false) (.slice none 0 0)
  simp only [World.size_alloc] at p1
  have V_x := Hd (NV.of h_x b0 p0)
  have P_r0 := Hd p1
  have RW_x := Hd h_x
  have HBW := Hd b0
  clear b0 p0 p1 h_x
  go_enter Tryz.func9, Tryz.ntmps9
  obtain ⟨W, E⟩ : ∃ W, W = ((w.alloc (.cells #[.bool (decide (x < 0)), .slice A (natL x.natAbs).length c] 24)).alloc (.cells #[.bool false, .slice none 0 0] 24)) := ⟨_, rfl⟩
  go_upto_region 1 with fail
  rw [← E] at V_x P_r0 HBW ⊢
  clear E
  obtain ⟨l_x, a_x, b_x, -, -⟩ := V_x.out.pair.facts
  go_wp2_with fail
  refine (echeck_fit x A c W V_x.out.raw F_x.out).mono ?_
  rintro e x1 ⟨rfl, hb⟩
  clear l_x a_x b_x
  have V_x := Hd (V_x.out.below hb)
  have P_r0 := Hd (P_r0.out.below hb)
  have HBW := Hd (belowTo HBW.out hb)
  clear hb
  have h1 := more_len HX.out
  obtain ⟨l_x, a_x, b_x, -, -⟩ := V_x.out.pair.facts
  go_wp2_with fail
  refine (C1.out x1 V_x.out.raw).mono ?_
  rintro e x2 ⟨rfl, hb⟩
  clear l_x a_x b_x
  have V_x := Hd (V_x.out.below hb)
  have P_r0 := Hd (P_r0.out.below hb)
  have HBW := Hd (belowTo HBW.out hb)
  clear hb
  obtain ⟨l_x, a_x, b_x, -, -⟩ := V_x.out.pair.facts
  obtain ⟨l_r0, a_r0, b_r0, f_r0, g_r0⟩ := P_r0.out.facts
  have HQ := Hd (P_r0.out.store (.bool false) (.slice none 0 0))
  have HB := Hd (below2 HBW.out (show w.heap.size ≤ w.heap.size + 1 by omega) (.bool false) (.slice none 0 0))
  have hq0 := HQ.out.facts
  go_wp2_with fail
  obtain ⟨_, k0, k1, _, _⟩ := HQ.out.facts
  exact bodyPost_ret (by simp [results, Tryz.results9, go_sem, k0, k1]) rfl ⟨.agg #[.bool false, .slice none 0 0], rfl, by rw [HZ.out]; exact IntOwn.nought _ _, HB.out⟩

theorem whole_Shift_up (x z n : Int) (A : Option Addr) (c : Nat) (hx : Fit x) (w : World) (h_x : Raw w A c (natL x.natAbs)) (hx0 : x ≠ 0) (hn : 0 ≤ n) (hl : (bz x : Int) + n ≤ 65536) (hz : z = x * ((2 ^ n.toNat : Nat) : Int)) :
    Calls Tryz.prog 9 #[.agg #[.bool (decide (x < 0)), .slice A (natL x.natAbs).length c], .int .i64 n] w (RetInt2 w.heap.size w z 0) := by
  have F_x := Hd hx
  have HX := Hd hx0
  have HZ := Hd hz
  have hlx : lz x ≤ 2048 := hx
  have hbz := bz_le hx
  have C1 := Hd (fun (V : World) (a : Raw V A c (natL x.natAbs)) => ebits x (bz x) A c V a (by omega) rfl)
  have C2 := Hd (fun (V : World) (a : Raw V A c (natL x.natAbs)) => edouble x z n A c V a (by omega) hx0 hn (by omega) hz)
  generalize bz x = b at *
  clear hx hx0 hz hlx
  have b0 := (((Below.refl w.heap.size w).alloc (Nat.le_refl _) (.cells #[.bool (decide (x < 0)), .slice A (natL x.natAbs).length c] 24)).alloc (by simp) (.cells #[.bool false, .slice none 0 0] 24))
  have p0 := (Pair.new w 24 (.bool (decide (x < 0))) (.slice A (natL x.natAbs).length c)).alloc (.cells #[.bool false, .slice none 0 0] 24)
  have p1 := Pair.new (w.alloc (.cells #[.bool (decide (x < 0)), .slice A (natL x.natAbs).length c] 24)) 24 (.bool false) (.slice none 0 0)
  simp only [World.size_alloc] at p1
  have V_x := Hd (NV.of h_x b0 p0)
  have P_r0 := Hd p1
  have RW_x := Hd h_x
  have HBW := Hd b0
  clear b0 p0 p1 h_x
  go_enter Tryz.func9, Tryz.ntmps9
  obtain ⟨W, E⟩ : ∃ W, W = ((w.alloc (.cells #[.bool (decide (x < 0)), .slice A (natL x.natAbs).length c] 24)).alloc (.cells #[.bool false, .slice none 0 0] 24)) := ⟨_, rfl⟩
  go_upto_region 1 with fail
  rw [← E] at V_x P_r0 HBW ⊢
  clear E
  obtain ⟨l_x, a_x, b_x, -, -⟩ := V_x.out.pair.facts
  go_wp2_with fail
  refine (echeck_fit x A c W V_x.out.raw F_x.out).mono ?_
  rintro e x1 ⟨rfl, hb⟩
  clear l_x a_x b_x
  have V_x := Hd (V_x.out.below hb)
  have P_r0 := Hd (P_r0.out.below hb)
  have HBW := Hd (belowTo HBW.out hb)
  clear hb
  have h1 := more_len HX.out
  obtain ⟨l_x, a_x, b_x, -, -⟩ := V_x.out.pair.facts
  go_wp2_with fail
  refine (C1.out x1 V_x.out.raw).mono ?_
  rintro e x2 ⟨rfl, hb⟩
  clear l_x a_x b_x
  have V_x := Hd (V_x.out.below hb)
  have P_r0 := Hd (P_r0.out.below hb)
  have HBW := Hd (belowTo HBW.out hb)
  clear hb
  obtain ⟨l_x, a_x, b_x, -, -⟩ := V_x.out.pair.facts
  go_wp2_with fail
  refine (C2.out x2 V_x.out.raw).mono ?_
  rintro e w9 ⟨v, rfl, hI, hb⟩
  clear l_x a_x b_x
  have hsz := P_r0.out.blk.lt
  obtain ⟨b9, A9, k9, c9, rfl⟩ := hI.shape
  have pr := P_r0.out.below hb
  obtain ⟨q1, q2, q3, q4, q5⟩ := pr.facts
  have HI := Hd (hI.pair (g := w.heap.size + 1) (a := .bool b9) (b := .slice A9 k9 c9) (by omega))
  have HB := Hd (below2 (belowTo HBW.out hb) (show w.heap.size ≤ w.heap.size + 1 by omega) (.bool b9) (.slice A9 k9 c9))
  have HQ := Hd (pr.store (.bool b9) (.slice A9 k9 c9))
  clear hI hb pr
  go_wp2_with fail
  obtain ⟨_, k0, k1, _, _⟩ := HQ.out.facts
  exact bodyPost_ret (by simp [results, Tryz.results9, go_sem, k0, k1]) rfl ⟨_, rfl, HI.out.base (by omega), HB.out⟩

theorem whole_Shift_z (x n : Int) (A : Option Addr) (c : Nat) (hx : Fit x) (h1 : -9223372036854775808 ≤ n) (h2 : n ≤ 9223372036854775807) (w : World) (h : Raw w A c (natL x.natAbs)) :
    Calls Tryz.prog 9 #[.agg #[.bool (decide (x < 0)), .slice A (natL x.natAbs).length c], .int .i64 n] w (RetInt2 w.heap.size w (shiftV x n) (shiftE x n)) := by
  unfold shiftV shiftE
  by_cases hx0 : x = 0
  · rw [if_pos hx0, if_neg (by simp [hx0])]
    exact whole_Shift_nought x 0 n A c hx w h hx0 rfl
  · rw [if_neg hx0]
    rcases (by omega : n < 0 ∨ 0 ≤ n) with hn | hn
    · rw [if_pos hn, if_neg (by omega)]
      refine whole_Shift_down x _ n A c hx w h hx0 hn ?_
      rw [show min (-n) 65536 = -max n (-65536) by omega]
    · rw [if_neg (show ¬ n < 0 by omega)]
      by_cases hl : 65536 < (bz x : Int) + n
      · rw [if_pos hl, if_pos ⟨hx0, hn, hl⟩]
        exact whole_Shift_long x 0 n A c hx w h hx0 hn h2 hl rfl
      · rw [if_neg hl, if_neg (fun e => hl e.2.2)]
        exact whole_Shift_up x _ n A c hx w h hx0 hn (by omega) rfl
end Go.Proofs.YtkncbenhfcpgkaaGreatDoor
