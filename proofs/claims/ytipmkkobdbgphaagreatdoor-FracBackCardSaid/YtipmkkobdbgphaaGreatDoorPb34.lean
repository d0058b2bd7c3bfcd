/- Several texts in one: RNearest, Nearest, FRefMake, FFloat. -/
import Derived.Test.YtipmkkobdbgphaaGreatDoorPb33
import Derived.Test.YtipmkkobdbgphaaGreatDoorPb27
import Derived.Test.YtipmkkobdbgphaaGreatDoorPb29
import Derived.Test.YtipmkkobdbgphaaGreatDoorPbHd
import Derived.Test.YtipmkkobdbgphaaGreatDoorPb17
import Derived.Test.YtipmkkobdbgphaaGreatDoorPb21
import Derived.Test.YtipmkkobdbgphaaGreatDoorPb18
import Derived.Test.YtipmkkobdbgphaaGreatDoorPb14
import Derived.Test.YtipmkkobdbgphaaGreatDoorPb22
set_option maxRecDepth 100000
set_option maxHeartbeats 8000000
/- Nearest of the references of chapter 02. (Written by wip/frac/genrnearest.py.) -/
namespace Go.Proofs.YtipmkkobdbgphaaGreatDoor
open Go.RowKit

def nearB (neg : Bool) (o : Option Nat) : Nat := match o with
  | none => 0
  | some r => if neg && decide (r ≠ 0) then r + 9223372036854775808 else r
/- Nearest of package ratio. (Written by wip/frac/gennearest.py.) -/

theorem or_lowU (x y : Int) (i : Nat) (hx0 : 0 ≤ x) (hx : x < 2 ^ i) (hx1 : x < 2 ^ 64) (hy0 : 0 ≤ y) (hy : y % 2 ^ i = 0) (hy1 : y < 2 ^ 64) : bits BinOp.or IntKind.u64 x y = x + y := by
  have h1 : bits BinOp.or IntKind.u64 x y = bits BinOp.or IntKind.u64 y x := by
    unfold bits
    simp only [BitVec.or_comm]
  rw [h1, bits_join .u64 64 (by decide) u64_fits i y x hy0 hy hy1 hx0 hx hx1, Int.add_comm]
theorem lz_p2 {x : Int} {j : Nat} (h : lz x ≤ j) : x.natAbs < p2 (32 * j) := by
  have h2 : x.natAbs < 4294967296 ^ j := natL_length_le.1 h
  rw [show (4294967296 : Nat) ^ j = p2 (32 * j) by unfold p2; rw [Nat.pow_mul]] at h2
  exact h2
theorem bits_p2 {x : Int} (h : x ≠ 0) : 1 ≤ bitsI (natL x.natAbs) ∧ p2 (bitsI (natL x.natAbs) - 1) ≤ x.natAbs ∧ x.natAbs < p2 (bitsI (natL x.natAbs)) := bits_val (n := x.natAbs) (by omega)
theorem bits_le {x : Int} (h : x ≠ 0) (hl : lz x ≤ 2048) : bitsI (natL x.natAbs) ≤ 65536 := by
  obtain ⟨h1, h2, -⟩ := bits_p2 h
  have h3 : x.natAbs < p2 (32 * 2048) := lz_p2 hl
  have := p2_le (Nat.lt_of_le_of_lt h2 h3)
  omega

theorem ratio_Nearest_nought (n d : Int) (A B : Option Addr) (c e0 : Nat) (w : World) (h_x : Raw w A c (natL n.natAbs)) (k_x : Raw w B e0 (natL d.natAbs)) (hn : n = 0) :
    Calls Tryz.prog 48 #[.agg #[.bool (decide (n < 0)), .slice A (natL n.natAbs).length c, .bool (decide (d < 0)), .slice B (natL d.natAbs).length e0]] w fun e w' => e = .returned (.tuple #[.float .f64 0, .bool true]) ∧ Below w.heap.size w w' := by
  have H1 := Hd (fun (V : World) (h : Raw V A c (natL n.natAbs)) => esign n 0 A c V h (by rw [hn]; rfl))
  clear hn
  have b0 := ((Below.refl w.heap.size w).alloc (Nat.le_refl _) (.cells #[.bool (decide (n < 0)), .slice A (natL n.natAbs).length c, .bool (decide (d < 0)), .slice B (natL d.natAbs).length e0] 27))
  have p0 := Quad.new w (.bool (decide (n < 0))) (.slice A (natL n.natAbs).length c) (.bool (decide (d < 0))) (.slice B (natL d.natAbs).length e0)
  have V_x := Hd (FV.mk p0 (h_x.below b0) (k_x.below b0))
  have KW_x := Hd k_x
  have RW_x := Hd h_x
  have HBW := Hd b0
  clear b0 p0 h_x k_x
  go_enter Tryz.func48, Tryz.ntmps48
  obtain ⟨W, E⟩ : ∃ W, W = (w.alloc (.cells #[.bool (decide (n < 0)), .slice A (natL n.natAbs).length c, .bool (decide (d < 0)), .slice B (natL d.natAbs).length e0] 27)) := ⟨_, rfl⟩
  go_upto_region 1 with fail
  rw [← E] at V_x HBW ⊢
  clear E
  obtain ⟨l_x, a_x, b_x, c_x, d_x, -, -, -, -⟩ := V_x.out.quad.facts
  go_wp2_with fail
  refine (H1.out W V_x.out.num).mono ?_
  rintro e x1 ⟨rfl, hb⟩
  clear l_x a_x b_x c_x d_x
  have V_x := Hd (V_x.out.below hb)
  have HBW := Hd (belowTo HBW.out hb)
  clear hb
  go_wp2_with fail
  go_ret2
  exact ⟨rfl, HBW.out⟩

theorem ratio_Nearest_all (n d : Int) (A B : Option Addr) (c e0 : Nat) (w : World) (h_x : Raw w A c (natL n.natAbs)) (k_x : Raw w B e0 (natL d.natAbs)) (hd : 0 < d) (hs : n ≠ 0) (neg : Bool) (hneg : neg = decide (n < 0)) (hln : lz n ≤ 2048) (hld : lz d ≤ 2048) (o : Option Nat) (ho : Near (n.natAbs * p2 1074) d.natAbs o) :
    Calls Tryz.prog 48 #[.agg #[.bool (decide (n < 0)), .slice A (natL n.natAbs).length c, .bool (decide (d < 0)), .slice B (natL d.natAbs).length e0]] w fun e w' => e = .returned (.tuple #[.float .f64 (nearB neg o), .bool o.isSome]) ∧ Below w.heap.size w w' := by
  obtain ⟨a, ha⟩ : ∃ k : Int, k = (n.natAbs : Int) := ⟨_, rfl⟩
  obtain ⟨sg, hsg⟩ : ∃ k : Int, k = n.sign := ⟨_, rfl⟩
  have hab : a.natAbs = n.natAbs := by rw [ha]; exact Int.natAbs_natCast _
  rw [← hab] at ho
  have hla : lz a ≤ 2048 := by unfold lz; rw [hab]; exact hln
  have ha0 : 0 < a := by omega
  have hbn := bits_p2 (x := a) (by omega)
  have hbd := bits_p2 (x := d) (by omega)
  have hbn2 := bits_le (x := a) (by omega) hla
  have hbd2 := bits_le (x := d) (by omega) hld
  obtain ⟨bn, hn9⟩ : ∃ k : Nat, k = bitsI (natL a.natAbs) := ⟨_, rfl⟩
  obtain ⟨bd, hd9⟩ : ∃ k : Nat, k = bitsI (natL d.natAbs) := ⟨_, rfl⟩
  rw [← hn9] at hbn hbn2
  rw [← hd9] at hbd hbd2
  obtain ⟨s, hs9⟩ : ∃ s : Int, s = min (54 - (bn : Int) + (bd : Int)) 1075 := ⟨_, rfl⟩
  obtain ⟨ea, hea⟩ : ∃ k : Nat, k = (-s).toNat := ⟨_, rfl⟩
  obtain ⟨eb, heb⟩ : ∃ k : Nat, k = s.toNat := ⟨_, rfl⟩
  obtain ⟨X, hX⟩ : ∃ z : Int, z = a * (p2 eb : Nat) := ⟨_, rfl⟩
  obtain ⟨D, hD⟩ : ∃ z : Int, z = d * (p2 ea : Nat) := ⟨_, rfl⟩
  obtain ⟨Q, hQ⟩ : ∃ z : Int, z = X.tdiv D := ⟨_, rfl⟩
  obtain ⟨R, hR⟩ : ∃ z : Int, z = X.tmod D := ⟨_, rfl⟩
  have hX0 : 0 < X := by rw [hX]; exact Int.mul_pos ha0 (by have := p2_pos eb; omega)
  have hD0 : 0 < D := by rw [hD]; exact Int.mul_pos hd (by have := p2_pos ea; omega)
  obtain ⟨qn, hqn⟩ : ∃ k : Nat, k = Q.natAbs := ⟨_, rfl⟩
  have hXn : X.natAbs = a.natAbs * p2 eb := by rw [hX, Int.natAbs_mul, Int.natAbs_natCast]
  have hDn : D.natAbs = d.natAbs * p2 ea := by rw [hD, Int.natAbs_mul, Int.natAbs_natCast]
  have hqd : qn = a.natAbs * p2 eb / (d.natAbs * p2 ea) := by rw [hqn, hQ, Int.natAbs_tdiv, hXn, hDn]; rfl
  have hrd : R.natAbs = a.natAbs * p2 eb % (d.natAbs * p2 ea) := by rw [hR, Int.natAbs_tmod, hXn, hDn]
  have hQ0 : 0 ≤ Q := by rw [hQ]; exact Int.tdiv_nonneg (by omega) (by omega)
  have hR0 : 0 ≤ R := by rw [hR]; exact Int.tmod_nonneg _ (by omega)
  have hroom := q_room (n := a.natAbs) (d := d.natAbs) (a := ea) (b := eb) hbn.2 hbd.2 hbn.1 hbd.1 (by omega) (by omega)
  rw [← hqd] at hroom
  have hdp : 0 < d.natAbs * p2 ea := Nat.mul_pos (by omega) (p2_pos ea)
  have hdm := Nat.div_add_mod (a.natAbs * p2 eb) (d.natAbs * p2 ea)
  have hml := Nat.mod_lt (a.natAbs * p2 eb) hdp
  rw [← hqd, ← hrd] at hdm
  rw [← hrd] at hml
  obtain ⟨st, hst⟩ : ∃ b : Bool, b = decide (R ≠ 0) := ⟨_, rfl⟩
  have g1 : qn * (d.natAbs * p2 ea) ≤ a.natAbs * p2 eb := by rw [Nat.mul_comm]; omega
  have g2 : a.natAbs * p2 eb < (qn + 1) * (d.natAbs * p2 ea) := by rw [Nat.add_mul, Nat.one_mul, Nat.mul_comm qn]; omega
  have g3 : st = decide (qn * (d.natAbs * p2 ea) ≠ a.natAbs * p2 eb) := by
    rw [hst]
    rw [Nat.mul_comm qn]
    by_cases h : R = 0
    · rw [decide_eq_false (by omega), decide_eq_false (by omega)]
    · rw [decide_eq_true (by omega), decide_eq_true (by omega)]
  have HOUT := Hd (fun (dr k low : Nat) (up : Bool) => near_out (an := a.natAbs) (dn := d.natAbs) (q := qn) (a := ea) (b := eb) (dr := dr) (k := k) (low := low) (s := s) st up ho (by omega) g1 g2 g3 hroom.1 (by rcases hroom.2 with h | h; exact .inl ⟨h, by omega⟩; exact .inr h) (by omega) (by omega))
  have hlX : lz X ≤ 5000 := by
    rw [hX]
    have h1 := lz_mul a (p2 eb : Nat)
    have h2 : lz ((p2 eb : Nat) : Int) ≤ 2500 := p2_lz (by rw [Int.natAbs_natCast]; exact p2_lt (by omega))
    omega
  have hlD : lz D ≤ 5000 := by
    rw [hD]
    have h1 := lz_mul d (p2 ea : Nat)
    have h2 : lz ((p2 ea : Nat) : Int) ≤ 2500 := p2_lz (by rw [Int.natAbs_natCast]; exact p2_lt (by omega))
    omega
  have HSG := Hd hsg
  have HA := Hd ha
  have HNG := Hd (show decide (n < 0) = neg from hneg.symm)
  have hsg0 : (sg == 0) = false := by
    have : n.sign ≠ 0 := fun e => hs (Int.sign_eq_zero_iff_zero.1 e)
    rw [hsg]
    simpa using this
  have HB1 := Hd (show (bn : Int) = ((bitsI (natL a.natAbs) : Nat) : Int) by rw [hn9])
  have HB2 := Hd (show (bd : Int) = ((bitsI (natL d.natAbs) : Nat) : Int) by rw [hd9])
  obtain ⟨bni, hbni⟩ : ∃ z : Int, z = (bn : Int) := ⟨_, rfl⟩
  obtain ⟨bdi, hbdi⟩ : ∃ z : Int, z = (bd : Int) := ⟨_, rfl⟩
  rw [← hbni] at HB1 hs9
  rw [← hbdi] at HB2 hs9
  have HXE := Hd (show (0 < s → X = a * ((2 ^ s.toNat : Nat) : Int)) ∧ (s ≤ 0 → X = a) from ⟨fun h => by rw [hX, heb]; rfl, fun h => by rw [hX, show eb = 0 by omega, p2_zero]; simp⟩)
  have HDE := Hd (show (s ≤ 0 → D = d * ((2 ^ (-s).toNat : Nat) : Int)) ∧ (0 < s → D = d) from ⟨fun h => by rw [hD, hea]; rfl, fun h => by rw [hD, show ea = 0 by omega, p2_zero]; simp⟩)
  have hsb : -65600 ≤ s ∧ s ≤ 1075 := by omega
  have hnb : 0 ≤ bni ∧ bni ≤ 65536 ∧ 0 ≤ bdi ∧ bdi ≤ 65536 := by omega
  have HQ := Hd hQ
  have HR := Hd hR
  have HST := Hd hst
  have HQN := Hd (show (qn : Int) = Q by omega)
  have hQl : Q < 36028797018963968 := by have := hroom.1; omega
  have HD9 := Hd (show D ≠ 0 by omega)
  have HA9 := Hd (show a ≠ 0 by omega)
  have HD8 := Hd (show d ≠ 0 by omega)
  obtain ⟨hsb1, hsb2⟩ := hsb
  obtain ⟨hnb1, hnb2, hnb3, hnb4⟩ := hnb
  have hmin : min (54 - bni + bdi) 1075 = s := hs9.symm
  have HOL := Hd (show ∀ r, o = some r → r < 9218868437227405312 from fun r h => near_lt (h ▸ ho))
  clear hneg ho hd hs hab hbn hbd hn9 hd9 hs9 hea heb hX hD hQ hR hXn hDn hqd hrd hroom hdp hdm hml g1 g2 g3 hst hsg ha hbni hbdi hqn hX0 hD0 ha0 hbn2 hbd2
  have b0 := ((Below.refl w.heap.size w).alloc (Nat.le_refl _) (.cells #[.bool (decide (n < 0)), .slice A (natL n.natAbs).length c, .bool (decide (d < 0)), .slice B (natL d.natAbs).length e0] 27))
  have p0 := Quad.new w (.bool (decide (n < 0))) (.slice A (natL n.natAbs).length c) (.bool (decide (d < 0))) (.slice B (natL d.natAbs).length e0)
  have V_x := Hd (FV.mk p0 (h_x.below b0) (k_x.below b0))
  have KW_x := Hd k_x
  have RW_x := Hd h_x
  have HBW := Hd b0
  clear b0 p0 h_x k_x
  go_enter Tryz.func48, Tryz.ntmps48
  obtain ⟨W, E⟩ : ∃ W, W = (w.alloc (.cells #[.bool (decide (n < 0)), .slice A (natL n.natAbs).length c, .bool (decide (d < 0)), .slice B (natL d.natAbs).length e0] 27)) := ⟨_, rfl⟩
  go_upto_region 1 with fail
  rw [← E] at V_x HBW ⊢
  clear E
  have HLT := Hd V_x.out.quad.blk.lt
  obtain ⟨l_x, a_x, b_x, c_x, d_x, -, -, -, -⟩ := V_x.out.quad.facts
  go_wp2_with fail
  refine (esign n sg A c W V_x.out.num HSG.out).mono ?_
  rintro e x1 ⟨rfl, hb⟩
  clear l_x a_x b_x c_x d_x
  have V_x := Hd (V_x.out.below hb)
  have HBW := Hd (belowTo HBW.out hb)
  clear hb
  have R_m := Hd V_x.out.num
  have HLX := Hd V_x.out.quad.blk.lt
  obtain ⟨l_x, a_x, b_x, c_x, d_x, -, -, -, -⟩ := V_x.out.quad.facts
  go_upto_region 4 with fail
  clear l_x a_x b_x c_x d_x
  have ha := ((Below.refl x1.heap.size x1).alloc (Nat.le_refl _) (.cells #[.bool (decide (n < 0)), .slice A (natL n.natAbs).length c] 25))
  have p_m := (Pair.new x1 25 (.bool (decide (n < 0))) (.slice A (natL n.natAbs).length c))
  obtain ⟨y2, E⟩ : ∃ W, W = (x1.alloc (.cells #[.bool (decide (n < 0)), .slice A (natL n.natAbs).length c] 25)) := ⟨_, rfl⟩
  rw [← E] at ha p_m ⊢
  have V_m := Hd (NV.of R_m.out ha p_m)
  have V_x := Hd (V_x.out.below ha)
  have HBW := Hd (belowTo HBW.out ha)
  obtain ⟨g2, hg⟩ : ∃ g, g = x1.heap.size := ⟨_, rfl⟩
  rw [← hg] at V_m ⊢
  have hge2 : x1.heap.size ≤ g2 := by omega
  clear E ha hg p_m
  have hgm : w.heap.size < g2 := by have := HLX.out; omega
  clear HLX
  have hng := HNG.out
  obtain ⟨l_m, a_m, b_m, -, -⟩ := V_m.out.pair.facts
  go_upto_if 24 with fail
  clear l_m a_m b_m
  go_cut [] (fun wc => ∃ A1 c1, Hid (NV wc (g2) a A1 c1) ∧ Hid (FV wc w.heap.size n d A c B e0) ∧ Hid (Below w.heap.size w wc))
  case first =>
    clear HOUT HOL
    cases neg
    case false =>
      have HAE := Hd (show n = a from by have := of_decide_eq_false HNG.out; rw [HA.out]; omega)
      have HV := Hd (show NV y2 (g2) a A c from HAE.out ▸ V_m.out)
      clear hng
      go_wp2_with fail
      go_meet
      case rel => exact ⟨_, _, HV, V_x, HBW⟩
    case true =>
      have HAE := Hd (show a = -n from by have := of_decide_eq_true HNG.out; rw [HA.out]; omega)
      obtain ⟨l_m, a_m, b_m, -, -⟩ := V_m.out.pair.facts
      go_wp2_with fail
      refine (show Calls Tryz.prog 135 #[.agg #[.bool true, .slice A (natL n.natAbs).length c]] y2 (RetInt y2.heap.size y2 a) from by have h := eturned n a A c y2 V_m.out.raw (by omega) HAE.out; rw [HNG.out] at h; exact h).mono ?_
      rintro e9 x3 ⟨v3, rfl, hI, hb⟩
      obtain ⟨A1, c1, rfl, r1⟩ := hI.raw
      clear l_m a_m b_m
      have V_x := Hd (V_x.out.below hb)
      have V_m := Hd (V_m.out.below hb)
      have HBW := Hd (belowTo HBW.out hb)
      have O_m := Hd (hI.base (Nat.zero_le _))
      clear hI hb r1 hng
      obtain ⟨l_s, a_s, b_s, f_s, g_s⟩ := V_m.out.pair.facts
      have M_x : Quad _ w.heap.size _ _ _ _ := ⟨V_x.out.quad.blk.far2 (show w.heap.size ≠ g2 by omega) (.bool (decide (a < 0))) (.slice A1 (natL a.natAbs).length c1)⟩
      have M_n := V_x.out.num.pairT V_m.out.pair (.bool (decide (a < 0))) (.slice A1 (natL a.natAbs).length c1)
      have M_d := V_x.out.den.pairT V_m.out.pair (.bool (decide (a < 0))) (.slice A1 (natL a.natAbs).length c1)
      have M_m := V_m.out.pair.store (.bool (decide (a < 0))) (.slice A1 (natL a.natAbs).length c1)
      have M_a := (O_m.out.pairT V_m.out.pair (.bool (decide (a < 0))) (.slice A1 (natL a.natAbs).length c1)).rawAt
      have HB9 := below2 HBW.out (show w.heap.size ≤ g2 by omega) (.bool (decide (a < 0))) (.slice A1 (natL a.natAbs).length c1)
      have HF1 := Hd (FV.mk M_x M_n M_d)
      have HF2 := Hd (show NV _ (g2) a A1 c1 from ⟨M_m, M_a⟩)
      have HF4 := Hd HB9
      clear M_x M_n M_d M_m M_a HB9 V_x V_m O_m
      go_wp2_with fail
      go_meet
      case rel => exact ⟨_, _, HF2, HF1, HF4⟩
  case rest =>
    clear V_x V_m HBW hng
    obtain ⟨Aa, ca, V_m, V_x, HBW⟩ := hcut
    obtain ⟨y20, hW⟩ : ∃ Y, Y = wc := ⟨_, rfl⟩
    rw [← hW] at V_m V_x HBW ⊢
    clear hW
    go_upto_region 6 with fail
    have hw1 : IntKind.i64.wrap (54 - bni) = 54 - bni := by apply IntWalk.i64_in <;> omega
    have hw2 : IntKind.i64.wrap (54 - bni + bdi) = 54 - bni + bdi := by apply IntWalk.i64_in <;> omega
    go_wp2_with fail
    refine wp_region_free [.val (.agg #[.bool (decide (a < 0)), .slice Aa (natL a.natAbs).length ca]) [], .val (.int .i64 bni) [], .val (.int .i64 (54 - bni)) [], .val (.pointer (some ⟨w.heap.size, 2, none⟩)) [], .val (.agg #[.bool (decide (d < 0)), .slice B (natL d.natAbs).length e0]) [], .val (.int .i64 bdi) [], .val (.int .i64 (54 - bni + bdi)) [], .val (.int .i64 (54 - bni + bdi)) []] y20.heap.size y20 [] (fun _ _ => False) _ mixedOrders2 (Nat.le_refl _) (Below.refl _ _) (KeptV.refl _ _ _) rfl (by kernel_rfl) (by kernel_rfl) (by kernel_rfl) (by kernel_rfl) (by kernel_rfl) (by kernel_rfl) (by kernel_rfl) (by kernel_rfl) rfl (by simp [oldsF]) ?_ ?_ ?_ ?_
    · simp only [StableF]
    · simp only [OldsF]
    · simp (maxSteps := 4000000) [StepsF, DepF, freeAct, fill, pairs]
      repeat' (first | apply And.intro | (intro (u : Value)) | (intro (u : Nat)))
      all_goals
        intro V hV hK
        have vm := Hd (V_m.out.below hV)
        have vx := Hd (V_x.out.below hV)
        obtain ⟨-, a_x, b_x, c_x, d_x, -, -, -, -⟩ := vx.out.quad.facts
        obtain ⟨-, a_m, b_m, -, -⟩ := vm.out.pair.facts
        clear hV hK
        go_simp
        first
        | exact Below.refl _ _
        | exact ⟨by first | rfl | decide | go_num, Below.refl _ _⟩
        | ((with_reducible refine (ebits a bni Aa ca V vm.out.raw (by omega) HB1.out).mono ?_); rintro e w' ⟨rfl, hb⟩; exact ⟨rfl, hb⟩)
        | ((with_reducible refine (ebits d bdi B e0 V vx.out.den (by omega) HB2.out).mono ?_); rintro e w' ⟨rfl, hb⟩; exact ⟨rfl, hb⟩)
    · simp [EndF, FactsF, freeAct, fill, pairs]
      intro V hV hK _ _ _
      have V_x := Hd (V_x.out.below hV)
      have V_m := Hd (V_m.out.below hV)
      have HBW := Hd (belowTo HBW.out hV)
      clear hV hK hw1 hw2
      obtain ⟨v3, hV0⟩ : ∃ Y, Y = V := ⟨_, rfl⟩
      rw [← hV0] at HBW V_x V_m ⊢
      clear hV0
      have R_e := Hd V_x.out.den
      have HLM := Hd V_m.out.pair.blk.lt
      obtain ⟨l_x, a_x, b_x, c_x, d_x, -, -, -, -⟩ := V_x.out.quad.facts
      go_upto_region 9 with fail
      clear l_x a_x b_x c_x d_x
      have ha := ((Below.refl v3.heap.size v3).alloc (Nat.le_refl _) (.cells #[.bool (decide (d < 0)), .slice B (natL d.natAbs).length e0] 25))
      have p_e := (Pair.new v3 25 (.bool (decide (d < 0))) (.slice B (natL d.natAbs).length e0))
      obtain ⟨y4, E⟩ : ∃ W, W = (v3.alloc (.cells #[.bool (decide (d < 0)), .slice B (natL d.natAbs).length e0] 25)) := ⟨_, rfl⟩
      rw [← E] at ha p_e ⊢
      have V_e := Hd (NV.of R_e.out ha p_e)
      have V_x := Hd (V_x.out.below ha)
      have V_m := Hd (V_m.out.below ha)
      have HBW := Hd (belowTo HBW.out ha)
      obtain ⟨g4, hg⟩ : ∃ g, g = v3.heap.size := ⟨_, rfl⟩
      rw [← hg] at V_e ⊢
      have hge4 : v3.heap.size ≤ g4 := by omega
      clear E ha hg p_e
      have hge9 : g2 < g4 := by have := HLM.out; omega
      clear HLM hmin
      go_upto_if 39 with fail
      go_cut [] (fun wc => ∃ A1 c1 A2 c2, Hid (NV wc (g2) X A1 c1) ∧ Hid (NV wc (g4) D A2 c2) ∧ Hid (FV wc w.heap.size n d A c B e0) ∧ Hid (Below w.heap.size w wc))
      case first =>
        clear HOUT HOL
        by_cases hsp : 0 < s
        · skip
          have hXE := HXE.out.1 hsp
          have hDE := HDE.out.2 hsp
          have HX1 := Hd hXE
          have HD1 := Hd hDE
          clear hXE hDE HXE HDE
          obtain ⟨l_m, a_m, b_m, -, -⟩ := V_m.out.pair.facts
          go_wp2_with fail
          refine (edouble a X s Aa ca y4 V_m.out.raw (by omega) HA9.out (by omega) (by omega) HX1.out).mono ?_
          rintro e9 x5 ⟨v3, rfl, hI, hb⟩
          obtain ⟨A7, c7, rfl, r7⟩ := hI.raw
          clear l_m a_m b_m
          have V_x := Hd (V_x.out.below hb)
          have V_m := Hd (V_m.out.below hb)
          have V_e := Hd (V_e.out.below hb)
          have HBW := Hd (belowTo HBW.out hb)
          have O_7 := Hd (hI.base (Nat.zero_le _))
          clear hI hb r7
          obtain ⟨l_s, a_s, b_s, f_s, g_s⟩ := V_m.out.pair.facts
          have M_x : Quad _ w.heap.size _ _ _ _ := ⟨V_x.out.quad.blk.far2 (show w.heap.size ≠ g2 by omega) (.bool (decide (X < 0))) (.slice A7 (natL X.natAbs).length c7)⟩
          have M_n := V_x.out.num.pairT V_m.out.pair (.bool (decide (X < 0))) (.slice A7 (natL X.natAbs).length c7)
          have M_d := V_x.out.den.pairT V_m.out.pair (.bool (decide (X < 0))) (.slice A7 (natL X.natAbs).length c7)
          have M_m := V_m.out.pair.store (.bool (decide (X < 0))) (.slice A7 (natL X.natAbs).length c7)
          have M_a := (O_7.out.pairT V_m.out.pair (.bool (decide (X < 0))) (.slice A7 (natL X.natAbs).length c7)).rawAt
          have M_o := V_e.out.pair.far (show g4 ≠ g2 by omega) (.bool (decide (X < 0))) (.slice A7 (natL X.natAbs).length c7)
          have M_p := V_e.out.raw.pairT V_m.out.pair (.bool (decide (X < 0))) (.slice A7 (natL X.natAbs).length c7)
          have HB9 := below2 HBW.out (show w.heap.size ≤ g2 by omega) (.bool (decide (X < 0))) (.slice A7 (natL X.natAbs).length c7)
          have HF1 := Hd (FV.mk M_x M_n M_d)
          have HF2 := Hd (show NV _ (g2) X A7 c7 from ⟨M_m, M_a⟩)
          have HF3 := Hd (show NV _ (g4) _ _ _ from ⟨M_o, M_p⟩)
          have HF4 := Hd HB9
          clear M_x M_n M_d M_m M_a HB9 M_o M_p V_x V_m V_e O_7
          have hq := HD1.out
          rw [← hq] at HF3
          clear hq
          go_wp2_with fail
          go_meet
          case rel => exact ⟨_, _, _, _, HF2, HF3, HF1, HF4⟩

        · skip
          have hXE := HXE.out.2 (by omega)
          have hDE := HDE.out.1 (by omega)
          have HX1 := Hd hXE
          have HD1 := Hd hDE
          clear hXE hDE HXE HDE
          obtain ⟨l_e, a_e, b_e, -, -⟩ := V_e.out.pair.facts
          go_wp2_with fail
          refine (edouble d D (-s) B e0 y4 V_e.out.raw (by omega) HD8.out (by omega) (by omega) HD1.out).mono ?_
          rintro e9 x5 ⟨v3, rfl, hI, hb⟩
          obtain ⟨A7, c7, rfl, r7⟩ := hI.raw
          clear l_e a_e b_e
          have V_x := Hd (V_x.out.below hb)
          have V_m := Hd (V_m.out.below hb)
          have V_e := Hd (V_e.out.below hb)
          have HBW := Hd (belowTo HBW.out hb)
          have O_7 := Hd (hI.base (Nat.zero_le _))
          clear hI hb r7
          obtain ⟨l_s, a_s, b_s, f_s, g_s⟩ := V_e.out.pair.facts
          have M_x : Quad _ w.heap.size _ _ _ _ := ⟨V_x.out.quad.blk.far2 (show w.heap.size ≠ g4 by omega) (.bool (decide (D < 0))) (.slice A7 (natL D.natAbs).length c7)⟩
          have M_n := V_x.out.num.pairT V_e.out.pair (.bool (decide (D < 0))) (.slice A7 (natL D.natAbs).length c7)
          have M_d := V_x.out.den.pairT V_e.out.pair (.bool (decide (D < 0))) (.slice A7 (natL D.natAbs).length c7)
          have M_m := V_e.out.pair.store (.bool (decide (D < 0))) (.slice A7 (natL D.natAbs).length c7)
          have M_a := (O_7.out.pairT V_e.out.pair (.bool (decide (D < 0))) (.slice A7 (natL D.natAbs).length c7)).rawAt
          have M_o := V_m.out.pair.far (show g2 ≠ g4 by omega) (.bool (decide (D < 0))) (.slice A7 (natL D.natAbs).length c7)
          have M_p := V_m.out.raw.pairT V_e.out.pair (.bool (decide (D < 0))) (.slice A7 (natL D.natAbs).length c7)
          have HB9 := below2 HBW.out (show w.heap.size ≤ g4 by omega) (.bool (decide (D < 0))) (.slice A7 (natL D.natAbs).length c7)
          have HF1 := Hd (FV.mk M_x M_n M_d)
          have HF2 := Hd (show NV _ (g4) D A7 c7 from ⟨M_m, M_a⟩)
          have HF3 := Hd (show NV _ (g2) _ _ _ from ⟨M_o, M_p⟩)
          have HF4 := Hd HB9
          clear M_x M_n M_d M_m M_a HB9 M_o M_p V_x V_m V_e O_7
          have hq := HX1.out
          rw [← hq] at HF3
          clear hq
          go_wp2_with fail
          go_meet
          case rel => exact ⟨_, _, _, _, HF3, HF2, HF1, HF4⟩
      case rest =>
        clear V_x V_m V_e HBW HXE HDE
        obtain ⟨A1, c1, A2, c2, V_m, V_e, V_x, HBW⟩ := hcut
        obtain ⟨y30, hW⟩ : ∃ Y, Y = wc := ⟨_, rfl⟩
        rw [← hW] at V_m V_e V_x HBW ⊢
        clear hW
        obtain ⟨l_m, a_m, b_m, -, -⟩ := V_m.out.pair.facts
        obtain ⟨l_e, a_e, b_e, -, -⟩ := V_e.out.pair.facts
        go_wp2_with fail
        refine (edivide X D Q R A1 A2 c1 c2 y30 V_m.out.raw V_e.out.raw (by omega) (by omega) HD9.out HQ.out HR.out).mono ?_
        rintro e9 x5 ⟨v1, v2, rfl, hI, hb⟩
        obtain ⟨A3, c3, rfl, r3⟩ := hI.one.raw
        obtain ⟨A4, c4, rfl, r4⟩ := hI.two.raw
        clear l_m a_m b_m l_e a_e b_e
        have V_x := Hd (V_x.out.below hb)
        have HBW := Hd (belowTo HBW.out hb)
        have R_q := Hd r3
        have R_r := Hd r4
        clear hb hI r3 r4 V_m V_e
        go_upto_region 13 with fail
        have ha := (((Below.refl x5.heap.size x5).alloc (Nat.le_refl _) (.cells #[.bool (decide (Q < 0)), .slice A3 (natL Q.natAbs).length c3] 25)).alloc (by simp) (.cells #[.bool (decide (R < 0)), .slice A4 (natL R.natAbs).length c4] 25))
        have p_q := ((Pair.new x5 25 (.bool (decide (Q < 0))) (.slice A3 (natL Q.natAbs).length c3)).alloc (.cells #[.bool (decide (R < 0)), .slice A4 (natL R.natAbs).length c4] 25))
        have p_r := (Pair.new (x5.alloc (.cells #[.bool (decide (Q < 0)), .slice A3 (natL Q.natAbs).length c3] 25)) 25 (.bool (decide (R < 0))) (.slice A4 (natL R.natAbs).length c4))
        simp only [World.size_alloc] at p_r
        obtain ⟨y6, E⟩ : ∃ W, W = ((x5.alloc (.cells #[.bool (decide (Q < 0)), .slice A3 (natL Q.natAbs).length c3] 25)).alloc (.cells #[.bool (decide (R < 0)), .slice A4 (natL R.natAbs).length c4] 25)) := ⟨_, rfl⟩
        rw [← E] at ha p_q p_r ⊢
        have V_q := Hd (NV.of R_q.out ha p_q)
        have V_r := Hd (NV.of R_r.out ha p_r)
        have V_x := Hd (V_x.out.below ha)
        have HBW := Hd (belowTo HBW.out ha)
        obtain ⟨g6, hg⟩ : ∃ g, g = x5.heap.size := ⟨_, rfl⟩
        rw [← hg] at V_q V_r ⊢
        have hge6 : x5.heap.size ≤ g6 := by omega
        clear E ha hg p_q p_r
        have hQ9 := HQN.out
        have hq55 : qn < 36028797018963968 := by omega
        have hQa : Q.natAbs = qn := by omega
        have hlen : (natL Q.natAbs).length ≤ 2 := by
          rw [hQa]
          exact natL_length_le.2 (Nat.lt_trans hq55 (by decide))
        have HLEN := Hd hlen
        obtain ⟨xs, hxs⟩ : ∃ l : List Nat, l = natL Q.natAbs := ⟨_, rfl⟩
        have HXS := Hd (show val xs = qn by rw [hxs, val_natL, hQa])
        have RQ := Hd V_q.out.raw
        rw [← hxs] at HLEN RQ
        have hxl : xs.length ≤ 2 := HLEN.out
        obtain ⟨l_q, a_q, b_q, -, -⟩ := V_q.out.pair.facts
        rw [← hxs] at b_q
        clear hlen hxs hQa HLEN
        go_wp2_with fail
        go_loop [9, 56] (fun s9 s56 => ∃ (i : Nat) (z : Int), s9 = .int .u64 z ∧ s56 = .int .i64 i ∧ i ≤ xs.length ∧ Hid (z = (val (xs.take i) : Nat))) (fun _ s56 => xs.length - (intOf s56).toNat)
        case atStart => exact ⟨0, 0, rfl, rfl, Nat.zero_le _, Hd rfl⟩
        case round =>
          obtain ⟨i, z, rfl, rfl, hi, HZ⟩ := hrel
          by_cases hlt : i < xs.length
          · obtain ⟨ad, rfl, hbl, hcell⟩ := RQ.out.reads.get hlt
            have hbk : (ad.add i).block < y6.heap.size := by rw [block_of_add]; exact hbl
            have HN := Hd (val_take_more hlt)
            have hx32 := RQ.out.limbs xs[i] (List.getElem_mem hlt)
            have htk := val_lt (xs := xs.take i) (fun x hx => RQ.out.limbs x (List.mem_of_mem_take hx))
            generalize hxx : xs[i] = x at *
            have a0 : (0 : Int) ≤ (i : Int) := by omega
            have a1 : (i : Int) < (xs.length : Int) := by omega
            rw [List.length_take, Nat.min_eq_left hi] at htk
            have hz0 : 0 ≤ z := by rw [HZ.out]; omega
            obtain ⟨xi, hxi⟩ : ∃ k : Int, k = (x : Int) := ⟨_, rfl⟩
            rw [← hxi] at hcell
            have hxi0 : 0 ≤ xi ∧ xi < 4294967296 := by omega
            obtain ⟨hxi1, hxi2⟩ := hxi0
            have HXI := Hd hxi
            have HLT2 := Hd hlt
            rcases (by omega : i = 0 ∨ i = 1) with h | h
            · have HI := Hd h
              have h32 : 32 * (i : Int) = 0 := by omega
              have hz : z = 0 := by rw [HZ.out, h]; simp [val]
              subst hz
              have hor : bits BinOp.or IntKind.u64 0 xi = xi := by rw [or_lowU 0 xi 0 (by decide) (by decide) (by decide) hxi1 (by simp) (by omega), Int.zero_add]
              have HNN := Hd (show xi = (val (xs.take (i + 1)) : Nat) from by rw [HN.out, HXI.out, h]; simp [val])
              clear HN HZ hxi htk h
              go_wp2_with fail
              go_round
              case rel => exact ⟨i + 1, _, rfl, by go_num, HLT2.out, HNN⟩
              case measure => have := HLT2.out; simp [intOf]; omega
            · have HI := Hd h
              have h32 : 32 * (i : Int) = 32 := by omega
              have htk1 : val (xs.take i) < 4294967296 := by rw [h] at htk ⊢; simpa using htk
              have hzl : z < 4294967296 := by rw [HZ.out]; omega
              have hshw : IntKind.u64.wrap (xi * 4294967296) = xi * 4294967296 := by rw [IntKind.wrap_u64]; omega
              have hor : bits BinOp.or IntKind.u64 z (xi * 4294967296) = z + xi * 4294967296 := or_lowU z (xi * 4294967296) 32 hz0 hzl (by omega) (by omega) (by omega) (by omega)
              have HNN := Hd (show z + xi * 4294967296 = (val (xs.take (i + 1)) : Nat) from by rw [HN.out, HZ.out, HXI.out, h]; simp [Int.mul_comm])
              clear HN HZ hxi htk h
              go_wp2_with fail
              go_round
              case rel => exact ⟨i + 1, _, rfl, by go_num, HLT2.out, HNN⟩
              case measure => have := HLT2.out; simp [intOf]; omega
          · have hzq : z = Q := by rw [HZ.out, List.take_of_length_le (by omega), HXS.out]; exact HQN.out
            subst hzq
            have hno : ¬ (i : Int) < (xs.length : Int) := by omega
            clear HZ HXS RQ l_q a_q b_q hlt hQ9
            obtain ⟨sr, hsr⟩ : ∃ k : Int, k = R.sign := ⟨_, rfl⟩
            have HSR := Hd hsr
            have hst2 : (sr != 0) = st := by
              rw [HST.out, hsr]
              by_cases h : R = 0
              · rw [h]; rfl
              · have : R.sign ≠ 0 := fun e => h (Int.sign_eq_zero_iff_zero.1 e)
                rw [decide_eq_true h]
                simpa using this
            clear hsr
            clear V_q
            obtain ⟨l_r, a_r, b_r, -, -⟩ := V_r.out.pair.facts
            go_wp2_with fail
            refine (esign R sr A4 c4 y6 V_r.out.raw HSR.out).mono ?_
            rintro e x7 ⟨rfl, hb⟩
            clear l_r a_r b_r
            have V_x := Hd (V_x.out.below hb)
            have V_r := Hd (V_r.out.below hb)
            have HBW := Hd (belowTo HBW.out hb)
            clear hb
            clear V_r HR HQ HSR
            by_cases hbig : 18014398509481984 ≤ z
            · skip
              have h54 : ((z / 18014398509481984) != 0) = true := by simp; omega
              obtain ⟨low, hlow⟩ : ∃ k : Int, k = z % 4 := ⟨_, rfl⟩
              obtain ⟨k, hk⟩ : ∃ k : Int, k = z / 4 := ⟨_, rfl⟩
              have hand : bits BinOp.and IntKind.u64 z 3 = low := by
                have h := and_mask qn 2 (by omega) (by decide)
                rw [HQN.out] at h
                rw [hlow, show (3 : Int) = ((2 ^ 2 - 1 : Nat) : Int) from rfl, h]
                have := HQN.out
                omega
              have hdv : z / 4 = k := hk.symm
              have HO2 := Hd (HOUT.out 2 k.toNat low.toNat)
              have hk0 : 0 ≤ k ∧ k < 9007199254740992 := by omega
              obtain ⟨hk1, hk2⟩ := hk0
              have hl0 : 0 ≤ low := by omega
              have HK := Hd (show k.toNat = qn / p2 2 ∧ low.toNat = qn % p2 2 from by
                have := HQN.out
                rw [show p2 2 = 4 from rfl]
                omega)
              have HDR := Hd (show (2 = 1 ∧ qn < 18014398509481984) ∨ (2 = 2 ∧ 18014398509481984 ≤ qn) from by have := HQN.out; omega)
              clear hlow hk HOUT
              obtain ⟨kb, hkb⟩ : ∃ k2 : Int, k2 = bits BinOp.and IntKind.u64 k 1 := ⟨_, rfl⟩
              have hkb2 : kb = k % 2 := by
                have h := and_mask k.toNat 1 (by omega) (by decide)
                rw [show ((k.toNat : Nat) : Int) = k by omega] at h
                rw [hkb, show (1 : Int) = ((2 ^ 1 - 1 : Nat) : Int) from rfl, h]
                omega
              have hkb3 : bits BinOp.and IntKind.u64 k 1 = kb := hkb.symm
              clear hkb
              obtain ⟨up, hup⟩ : ∃ b : Bool, b = decide (2 < low.toNat ∨ (low.toNat = 2 ∧ (st = true ∨ k.toNat % 2 = 1))) := ⟨_, rfl⟩
              have HNO := Hd (HO2.out up HDR.out HK.out.1 HK.out.2 hup)
              have HUP := Hd hup
              clear HO2 HDR HK hup
              go_upto_region 26 with fail
              have hq9 := HQN.out
              go_cut [101] (fun s101 wc => s101 = .bool up ∧ wc = x7)
              case first =>
                clear HNO HOL
                by_cases c1 : 2 < low
                · have cu : up = true := by rw [HUP.out]; exact decide_eq_true (.inl (by omega))
                  have cd : decide (2 < low) = true := decide_eq_true c1
                  subst cu
                  clear c1 HUP
                  go_wp2_with fail
                  go_meet
                  case rel => exact ⟨rfl, rfl⟩
                · have cd : decide (2 < low) = false := decide_eq_false c1
                  by_cases c2 : low = 2
                  · have ce : (low == 2) = true := by simp; exact c2
                    cases st
                    case true =>
                      have cu : up = true := by rw [HUP.out]; exact decide_eq_true (.inr ⟨by omega, .inl rfl⟩)
                      subst cu
                      clear c1 c2 HUP
                      go_wp2_with fail
                      go_meet
                      case rel => exact ⟨rfl, rfl⟩
                    case false =>
                      by_cases c3 : k % 2 = 1
                      · have cu : up = true := by rw [HUP.out]; exact decide_eq_true (.inr ⟨by omega, .inr (by omega)⟩)
                        have cf : ((k % 2) == 1) = true := by simp; omega
                        subst cu
                        have CF := Hd cf
                        clear c1 c2 c3 HUP
                        go_wp2_with fail
                        go_meet
                        case rel => exact ⟨by first | rfl | rw [CF.out], rfl⟩
                      · have cu : up = false := by rw [HUP.out]; exact decide_eq_false (by rintro (h | ⟨h, h2 | h2⟩) <;> first | omega | cases h2)
                        have cf : ((k % 2) == 1) = false := by simp; omega
                        subst cu
                        have CF := Hd cf
                        clear c1 c2 c3 HUP
                        go_wp2_with fail
                        go_meet
                        case rel => exact ⟨by first | rfl | rw [CF.out], rfl⟩
                  · have ce : (low == 2) = false := by simp; exact c2
                    have cu : up = false := by rw [HUP.out]; exact decide_eq_false (by omega)
                    subst cu
                    clear c1 c2 HUP
                    go_wp2_with fail
                    go_meet
                    case rel => exact ⟨rfl, rfl⟩
              case rest =>
                obtain ⟨h101, hw⟩ := hcut
                subst h101 hw
                obtain ⟨y31, hW⟩ : ∃ Y, Y = wc := ⟨_, rfl⟩
                subst hW
                obtain ⟨k2, hk2v⟩ : ∃ z : Int, z = k + (up.toNat : Int) := ⟨_, rfl⟩
                have hub : (up.toNat : Int) = 0 ∨ (up.toNat : Int) = 1 := by cases up <;> simp
                have HK2 := Hd (show k.toNat + up.toNat = k2.toNat by omega)
                have hk20 : 0 ≤ k2 := by omega
                have hk21 : k2 ≤ 9007199254740992 := by omega
                have HNP := HNO.out.2
                rw [HK2.out] at HNP
                have HNO := Hd HNP
                clear HNP HUP HK2
                go_upto_if 101 with fail
                go_cut [9] (fun s9 wc => s9 = .int .u64 k2 ∧ wc = y31)
                case first =>
                  clear HNO HOL
                  cases up
                  · have : k2 = k := by rw [hk2v]; simp
                    subst this
                    go_wp2_with fail
                    go_meet
                    case rel => exact ⟨rfl, rfl⟩
                  · have hkk : k + 1 = k2 := by rw [hk2v]; rfl
                    have hkw : IntKind.u64.wrap (k + 1) = k + 1 := by rw [IntKind.wrap_u64]; omega
                    clear hk2v
                    go_wp2_with fail
                    go_meet
                    case rel => exact ⟨by first | rfl | rw [hkk] | (rw [hkw, hkk]), rfl⟩
                case rest =>
                  obtain ⟨h9, hw⟩ := hcut
                  subst h9 hw
                  obtain ⟨y32, hW⟩ : ∃ Y, Y = wc := ⟨_, rfl⟩
                  subst hW
                  clear hk2v hub hand hdv hk1 hk2 hl0 hkb2 hkb3 hq9
                  obtain ⟨ex, hex⟩ : ∃ z : Int, z = 2 - s := ⟨_, rfl⟩
                  have hex2 : 2 - s = ex := hex.symm
                  have hexb : -1074 ≤ ex ∧ ex ≤ 65700 := by omega
                  obtain ⟨hxb1, hxb2⟩ := hexb
                  have HNP := HNO.out
                  rw [show ((2 : Nat) : Int) - s = ex from hex2] at HNP
                  have HNO := Hd HNP
                  clear HNP hex
                  by_cases hcar : k2 = 9007199254740992
                  · have hc1 : ((k2 / 9007199254740992) != 0) = true := by simp; omega
                    have hc2 : k2 / 2 = 4503599627370496 := by omega
                    obtain ⟨hA, hB⟩ := HNO.out.2.2 (by omega)
                    have HAA := Hd hA
                    have HBB := Hd hB
                    clear HNO hA hB
                    have hd52 : ((4503599627370496 : Int) / 4503599627370496 == 0) = false := by decide
                    by_cases hov : 971 < ex + 1
                    · have HON := Hd (HAA.out hov)
                      clear HAA HBB hcar
                      go_wp2_with fail
                      go_ret2
                      exact ⟨by rw [HON.out]; rfl, HBW.out⟩
                    · obtain ⟨hx1, hx2⟩ := HBB.out (by omega)
                      obtain ⟨r, hr⟩ : ∃ r : Nat, r = (ex + 1 + 1075).toNat * 4503599627370496 := ⟨_, rfl⟩
                      rw [← hr] at hx2
                      have HOS := Hd hx2
                      have hrl : r < 9218868437227405312 := HOL.out r hx2
                      obtain ⟨ri, hri⟩ : ∃ z : Int, (r : Int) = z := ⟨_, rfl⟩
                      have hriv : ri = (ex + 1 + 1075) * 4503599627370496 := by omega
                      have e1 : IntKind.i64.wrap (ex + 1 + 1075) = ex + 1 + 1075 := by apply IntWalk.i64_in <;> omega
                      have e2 : IntKind.u64.wrap (ex + 1 + 1075) = ex + 1 + 1075 := by rw [IntKind.wrap_u64]; omega
                      have e3 : IntKind.u64.wrap ((ex + 1 + 1075) * 4503599627370496) = (ex + 1 + 1075) * 4503599627370496 := by rw [IntKind.wrap_u64]; omega
                      have e4 : bits BinOp.and IntKind.u64 4503599627370496 4503599627370495 = 0 := by decide
                      have e5 : bits BinOp.or IntKind.u64 ((ex + 1 + 1075) * 4503599627370496) 0 = ri := by
                        rw [show bits BinOp.or IntKind.u64 ((ex + 1 + 1075) * 4503599627370496) 0 = (ex + 1 + 1075) * 4503599627370496 + 0 from bits_join .u64 64 (by decide) u64_fits 52 _ 0 (by omega) (by omega) (by omega) (by decide) (by decide) (by decide)]
                        omega
                      clear HAA HBB hr hcar hx2 hriv
                      have h2 := ffrom r
                      rw [hri] at h2
                      have H1 := Hd (fun (V : World) => (ratio_signed r neg hrl V))
                      have HRES := Hd (show nearB neg (some r) = (if neg && decide (r ≠ 0) then r + 9223372036854775808 else r) from rfl)
                      have hng := HNG.out
                      go_upto_region 36 with fail
                      go_wp2_with fail
                      obtain ⟨fr, hfr⟩ : ∃ k : Nat, k = (if neg && decide (r ≠ 0) then r + 9223372036854775808 else r) := ⟨_, rfl⟩
                      rw [← hfr] at HRES
                      have H1 := Hd (fun (V : World) => hfr ▸ H1.out V)
                      clear hfr
                      refine wp_region_free [.val (.int .i64 (ex + 1)) [], .val (.int .i64 (ex + 1 + 1075)) [], .val (.int .u64 (ex + 1 + 1075)) [], .val (.int .u64 ((ex + 1 + 1075) * 4503599627370496)) [], .val (.int .u64 4503599627370496) [], .val (.int .u64 0) [], .val (.int .u64 ri) [], .val (.float .f64 r) [], .val (.pointer (some ⟨w.heap.size, 0, none⟩)) [], .val (.pointer (some ⟨w.heap.size, 0, none⟩)) [], .val (.bool neg) [], .val (.float .f64 fr) [], .val (.float .f64 fr) [], .val (.bool true) []] y32.heap.size y32 [] (fun _ _ => False) _ mixedOrders2 (Nat.le_refl _) (Below.refl _ _) (KeptV.refl _ _ _) rfl (by kernel_rfl) (by kernel_rfl) (by kernel_rfl) (by kernel_rfl) (by kernel_rfl) (by kernel_rfl) (by kernel_rfl) (by kernel_rfl) rfl (by simp [oldsF]) ?_ ?_ ?_ ?_
                      · simp only [StableF]
                      · simp only [OldsF]
                      · simp (maxSteps := 4000000) [StepsF, DepF, freeAct, fill, pairs]
                        repeat' (first | apply And.intro | (intro (u : Value)) | (intro (u : Nat)))
                        all_goals
                          intro V hV hK
                          obtain ⟨-, a_x, b_x, c_x, d_x, -, -, -, -⟩ := (V_x.out.below hV).quad.facts
                          rw [hng] at a_x
                          clear hV hK
                          go_simp
                          first
                          | exact Below.refl _ _
                          | exact ⟨by first | rfl | decide | go_num, Below.refl _ _⟩
                          | ((with_reducible refine (H1.out V).mono ?_); rintro e w' ⟨rfl, rfl⟩; exact ⟨rfl, Below.refl _ _⟩)
                      · simp [EndF, FactsF, freeAct, fill, pairs]
                        intro V hV hK _ _ _
                        have HB := Hd (belowTo HBW.out hV)
                        clear hV hK
                        go_wp2_with fail
                        go_ret2
                        exact ⟨by rw [HOS.out, HRES.out]; rfl, HB.out⟩
                  · have hc1 : k2 / 9007199254740992 = 0 := by omega
                    by_cases hsub : k2 < 4503599627370496
                    · have hd52 : k2 / 4503599627370496 = 0 := by omega
                      have hx2 := HNO.out.1 (by omega)
                      obtain ⟨r, hr⟩ : ∃ r : Nat, r = k2.toNat := ⟨_, rfl⟩
                      rw [← hr] at hx2
                      have HOS := Hd hx2
                      have hrl : r < 9218868437227405312 := HOL.out r hx2
                      have hri : (r : Int) = k2 := by omega
                      clear HNO hr hcar hx2 hsub
                      have h2 := ffrom r
                      rw [hri] at h2
                      have H1 := Hd (fun (V : World) => (ratio_signed r neg hrl V))
                      have HRES := Hd (show nearB neg (some r) = (if neg && decide (r ≠ 0) then r + 9223372036854775808 else r) from rfl)
                      have hng := HNG.out
                      go_upto_region 33 with fail
                      go_wp2_with fail
                      obtain ⟨fr, hfr⟩ : ∃ k : Nat, k = (if neg && decide (r ≠ 0) then r + 9223372036854775808 else r) := ⟨_, rfl⟩
                      rw [← hfr] at HRES
                      have H1 := Hd (fun (V : World) => hfr ▸ H1.out V)
                      clear hfr
                      refine wp_region_free [.val (.int .u64 k2) [], .val (.float .f64 r) [], .val (.pointer (some ⟨w.heap.size, 0, none⟩)) [], .val (.pointer (some ⟨w.heap.size, 0, none⟩)) [], .val (.bool neg) [], .val (.float .f64 fr) [], .val (.float .f64 fr) [], .val (.bool true) []] y32.heap.size y32 [] (fun _ _ => False) _ mixedOrders2 (Nat.le_refl _) (Below.refl _ _) (KeptV.refl _ _ _) rfl (by kernel_rfl) (by kernel_rfl) (by kernel_rfl) (by kernel_rfl) (by kernel_rfl) (by kernel_rfl) (by kernel_rfl) (by kernel_rfl) rfl (by simp [oldsF]) ?_ ?_ ?_ ?_
                      · simp only [StableF]
                      · simp only [OldsF]
                      · simp (maxSteps := 4000000) [StepsF, DepF, freeAct, fill, pairs]
                        repeat' (first | apply And.intro | (intro (u : Value)) | (intro (u : Nat)))
                        all_goals
                          intro V hV hK
                          obtain ⟨-, a_x, b_x, c_x, d_x, -, -, -, -⟩ := (V_x.out.below hV).quad.facts
                          rw [hng] at a_x
                          clear hV hK
                          go_simp
                          first
                          | exact Below.refl _ _
                          | exact ⟨by first | rfl | decide | go_num, Below.refl _ _⟩
                          | ((with_reducible refine (H1.out V).mono ?_); rintro e w' ⟨rfl, rfl⟩; exact ⟨rfl, Below.refl _ _⟩)
                      · simp [EndF, FactsF, freeAct, fill, pairs]
                        intro V hV hK _ _ _
                        have HB := Hd (belowTo HBW.out hV)
                        clear hV hK
                        go_wp2_with fail
                        go_ret2
                        exact ⟨by rw [HOS.out, HRES.out]; rfl, HB.out⟩
                    · have hd52 : ((k2 / 4503599627370496) == 0) = false := by simp; omega
                      obtain ⟨hA, hB⟩ := HNO.out.2.1 (by omega) (by omega)
                      have HAA := Hd hA
                      have HBB := Hd hB
                      clear HNO hA hB
                      by_cases hov : 971 < ex
                      · have HON := Hd (HAA.out hov)
                        clear HAA HBB hcar hsub
                        go_wp2_with fail
                        go_ret2
                        exact ⟨by rw [HON.out]; rfl, HBW.out⟩
                      · obtain ⟨hx1, hx2⟩ := HBB.out (by omega)
                        obtain ⟨r, hr⟩ : ∃ r : Nat, r = (ex + 1075).toNat * 4503599627370496 + (k2.toNat - 4503599627370496) := ⟨_, rfl⟩
                        rw [← hr] at hx2
                        have HOS := Hd hx2
                        have hrl : r < 9218868437227405312 := HOL.out r hx2
                        obtain ⟨ri, hri⟩ : ∃ z : Int, (r : Int) = z := ⟨_, rfl⟩
                        have hriv : ri = (ex + 1075) * 4503599627370496 + (k2 - 4503599627370496) := by omega
                        have e1 : IntKind.i64.wrap (ex + 1075) = ex + 1075 := by apply IntWalk.i64_in <;> omega
                        have e2 : IntKind.u64.wrap (ex + 1075) = ex + 1075 := by rw [IntKind.wrap_u64]; omega
                        have e3 : IntKind.u64.wrap ((ex + 1075) * 4503599627370496) = (ex + 1075) * 4503599627370496 := by rw [IntKind.wrap_u64]; omega
                        have e4 : bits BinOp.and IntKind.u64 k2 4503599627370495 = k2 - 4503599627370496 := by
                          have h := and_mask k2.toNat 52 (by omega) (by decide)
                          rw [show ((k2.toNat : Nat) : Int) = k2 by omega, show ((2 ^ 52 - 1 : Nat) : Int) = 4503599627370495 from rfl] at h
                          rw [h]
                          have : k2.toNat % 2 ^ 52 = k2.toNat - 4503599627370496 := by
                            have : (2 : Nat) ^ 52 = 4503599627370496 := rfl
                            omega
                          omega
                        have e5 : bits BinOp.or IntKind.u64 ((ex + 1075) * 4503599627370496) (k2 - 4503599627370496) = ri := by
                          rw [show bits BinOp.or IntKind.u64 ((ex + 1075) * 4503599627370496) (k2 - 4503599627370496) = (ex + 1075) * 4503599627370496 + (k2 - 4503599627370496) from bits_join .u64 64 (by decide) u64_fits 52 _ _ (by omega) (by omega) (by omega) (by omega) (by omega) (by omega)]
                          omega
                        clear HAA HBB hr hcar hx2 hsub hriv
                        have h2 := ffrom r
                        rw [hri] at h2
                        have H1 := Hd (fun (V : World) => (ratio_signed r neg hrl V))
                        have HRES := Hd (show nearB neg (some r) = (if neg && decide (r ≠ 0) then r + 9223372036854775808 else r) from rfl)
                        have hng := HNG.out
                        go_upto_region 36 with fail
                        go_wp2_with fail
                        obtain ⟨fr, hfr⟩ : ∃ k : Nat, k = (if neg && decide (r ≠ 0) then r + 9223372036854775808 else r) := ⟨_, rfl⟩
                        rw [← hfr] at HRES
                        have H1 := Hd (fun (V : World) => hfr ▸ H1.out V)
                        clear hfr
                        refine wp_region_free [.val (.int .i64 ex) [], .val (.int .i64 (ex + 1075)) [], .val (.int .u64 (ex + 1075)) [], .val (.int .u64 ((ex + 1075) * 4503599627370496)) [], .val (.int .u64 k2) [], .val (.int .u64 (k2 - 4503599627370496)) [], .val (.int .u64 ri) [], .val (.float .f64 r) [], .val (.pointer (some ⟨w.heap.size, 0, none⟩)) [], .val (.pointer (some ⟨w.heap.size, 0, none⟩)) [], .val (.bool neg) [], .val (.float .f64 fr) [], .val (.float .f64 fr) [], .val (.bool true) []] y32.heap.size y32 [] (fun _ _ => False) _ mixedOrders2 (Nat.le_refl _) (Below.refl _ _) (KeptV.refl _ _ _) rfl (by kernel_rfl) (by kernel_rfl) (by kernel_rfl) (by kernel_rfl) (by kernel_rfl) (by kernel_rfl) (by kernel_rfl) (by kernel_rfl) rfl (by simp [oldsF]) ?_ ?_ ?_ ?_
                        · simp only [StableF]
                        · simp only [OldsF]
                        · simp (maxSteps := 4000000) [StepsF, DepF, freeAct, fill, pairs]
                          repeat' (first | apply And.intro | (intro (u : Value)) | (intro (u : Nat)))
                          all_goals
                            intro V hV hK
                            obtain ⟨-, a_x, b_x, c_x, d_x, -, -, -, -⟩ := (V_x.out.below hV).quad.facts
                            rw [hng] at a_x
                            clear hV hK
                            go_simp
                            first
                            | exact Below.refl _ _
                            | exact ⟨by first | rfl | decide | go_num, Below.refl _ _⟩
                            | ((with_reducible refine (H1.out V).mono ?_); rintro e w' ⟨rfl, rfl⟩; exact ⟨rfl, Below.refl _ _⟩)
                        · simp [EndF, FactsF, freeAct, fill, pairs]
                          intro V hV hK _ _ _
                          have HB := Hd (belowTo HBW.out hV)
                          clear hV hK
                          go_wp2_with fail
                          go_ret2
                          exact ⟨by rw [HOS.out, HRES.out]; rfl, HB.out⟩
            · skip
              have h54 : z / 18014398509481984 = 0 := by omega
              obtain ⟨low, hlow⟩ : ∃ k : Int, k = z % 2 := ⟨_, rfl⟩
              obtain ⟨k, hk⟩ : ∃ k : Int, k = z / 2 := ⟨_, rfl⟩
              have hand : bits BinOp.and IntKind.u64 z 1 = low := by
                have h := and_mask qn 1 (by omega) (by decide)
                rw [HQN.out] at h
                rw [hlow, show (1 : Int) = ((2 ^ 1 - 1 : Nat) : Int) from rfl, h]
                have := HQN.out
                omega
              have hdv : z / 2 = k := hk.symm
              have HO2 := Hd (HOUT.out 1 k.toNat low.toNat)
              have hk0 : 0 ≤ k ∧ k < 9007199254740992 := by omega
              obtain ⟨hk1, hk2⟩ := hk0
              have hl0 : 0 ≤ low := by omega
              have HK := Hd (show k.toNat = qn / p2 1 ∧ low.toNat = qn % p2 1 from by
                have := HQN.out
                rw [show p2 1 = 2 from rfl]
                omega)
              have HDR := Hd (show (1 = 1 ∧ qn < 18014398509481984) ∨ (1 = 2 ∧ 18014398509481984 ≤ qn) from by have := HQN.out; omega)
              clear hlow hk HOUT
              obtain ⟨kb, hkb⟩ : ∃ k2 : Int, k2 = bits BinOp.and IntKind.u64 k 1 := ⟨_, rfl⟩
              have hkb2 : kb = k % 2 := by
                have h := and_mask k.toNat 1 (by omega) (by decide)
                rw [show ((k.toNat : Nat) : Int) = k by omega] at h
                rw [hkb, show (1 : Int) = ((2 ^ 1 - 1 : Nat) : Int) from rfl, h]
                omega
              have hkb3 : bits BinOp.and IntKind.u64 k 1 = kb := hkb.symm
              clear hkb
              obtain ⟨up, hup⟩ : ∃ b : Bool, b = decide (1 < low.toNat ∨ (low.toNat = 1 ∧ (st = true ∨ k.toNat % 2 = 1))) := ⟨_, rfl⟩
              have HNO := Hd (HO2.out up HDR.out HK.out.1 HK.out.2 hup)
              have HUP := Hd hup
              clear HO2 HDR HK hup
              go_upto_region 26 with fail
              have hq9 := HQN.out
              go_cut [101] (fun s101 wc => s101 = .bool up ∧ wc = x7)
              case first =>
                clear HNO HOL
                by_cases c1 : 1 < low
                · have cu : up = true := by rw [HUP.out]; exact decide_eq_true (.inl (by omega))
                  have cd : decide (1 < low) = true := decide_eq_true c1
                  subst cu
                  clear c1 HUP
                  go_wp2_with fail
                  go_meet
                  case rel => exact ⟨rfl, rfl⟩
                · have cd : decide (1 < low) = false := decide_eq_false c1
                  by_cases c2 : low = 1
                  · have ce : (low == 1) = true := by simp; exact c2
                    cases st
                    case true =>
                      have cu : up = true := by rw [HUP.out]; exact decide_eq_true (.inr ⟨by omega, .inl rfl⟩)
                      subst cu
                      clear c1 c2 HUP
                      go_wp2_with fail
                      go_meet
                      case rel => exact ⟨rfl, rfl⟩
                    case false =>
                      by_cases c3 : k % 2 = 1
                      · have cu : up = true := by rw [HUP.out]; exact decide_eq_true (.inr ⟨by omega, .inr (by omega)⟩)
                        have cf : ((k % 2) == 1) = true := by simp; omega
                        subst cu
                        have CF := Hd cf
                        clear c1 c2 c3 HUP
                        go_wp2_with fail
                        go_meet
                        case rel => exact ⟨by first | rfl | rw [CF.out], rfl⟩
                      · have cu : up = false := by rw [HUP.out]; exact decide_eq_false (by rintro (h | ⟨h, h2 | h2⟩) <;> first | omega | cases h2)
                        have cf : ((k % 2) == 1) = false := by simp; omega
                        subst cu
                        have CF := Hd cf
                        clear c1 c2 c3 HUP
                        go_wp2_with fail
                        go_meet
                        case rel => exact ⟨by first | rfl | rw [CF.out], rfl⟩
                  · have ce : (low == 1) = false := by simp; exact c2
                    have cu : up = false := by rw [HUP.out]; exact decide_eq_false (by omega)
                    subst cu
                    clear c1 c2 HUP
                    go_wp2_with fail
                    go_meet
                    case rel => exact ⟨rfl, rfl⟩
              case rest =>
                obtain ⟨h101, hw⟩ := hcut
                subst h101 hw
                obtain ⟨y31, hW⟩ : ∃ Y, Y = wc := ⟨_, rfl⟩
                subst hW
                obtain ⟨k2, hk2v⟩ : ∃ z : Int, z = k + (up.toNat : Int) := ⟨_, rfl⟩
                have hub : (up.toNat : Int) = 0 ∨ (up.toNat : Int) = 1 := by cases up <;> simp
                have HK2 := Hd (show k.toNat + up.toNat = k2.toNat by omega)
                have hk20 : 0 ≤ k2 := by omega
                have hk21 : k2 ≤ 9007199254740992 := by omega
                have HNP := HNO.out.2
                rw [HK2.out] at HNP
                have HNO := Hd HNP
                clear HNP HUP HK2
                go_upto_if 101 with fail
                go_cut [9] (fun s9 wc => s9 = .int .u64 k2 ∧ wc = y31)
                case first =>
                  clear HNO HOL
                  cases up
                  · have : k2 = k := by rw [hk2v]; simp
                    subst this
                    go_wp2_with fail
                    go_meet
                    case rel => exact ⟨rfl, rfl⟩
                  · have hkk : k + 1 = k2 := by rw [hk2v]; rfl
                    have hkw : IntKind.u64.wrap (k + 1) = k + 1 := by rw [IntKind.wrap_u64]; omega
                    clear hk2v
                    go_wp2_with fail
                    go_meet
                    case rel => exact ⟨by first | rfl | rw [hkk] | (rw [hkw, hkk]), rfl⟩
                case rest =>
                  obtain ⟨h9, hw⟩ := hcut
                  subst h9 hw
                  obtain ⟨y32, hW⟩ : ∃ Y, Y = wc := ⟨_, rfl⟩
                  subst hW
                  clear hk2v hub hand hdv hk1 hk2 hl0 hkb2 hkb3 hq9
                  obtain ⟨ex, hex⟩ : ∃ z : Int, z = 1 - s := ⟨_, rfl⟩
                  have hex2 : 1 - s = ex := hex.symm
                  have hexb : -1074 ≤ ex ∧ ex ≤ 65700 := by omega
                  obtain ⟨hxb1, hxb2⟩ := hexb
                  have HNP := HNO.out
                  rw [show ((1 : Nat) : Int) - s = ex from hex2] at HNP
                  have HNO := Hd HNP
                  clear HNP hex
                  by_cases hcar : k2 = 9007199254740992
                  · have hc1 : ((k2 / 9007199254740992) != 0) = true := by simp; omega
                    have hc2 : k2 / 2 = 4503599627370496 := by omega
                    obtain ⟨hA, hB⟩ := HNO.out.2.2 (by omega)
                    have HAA := Hd hA
                    have HBB := Hd hB
                    clear HNO hA hB
                    have hd52 : ((4503599627370496 : Int) / 4503599627370496 == 0) = false := by decide
                    by_cases hov : 971 < ex + 1
                    · have HON := Hd (HAA.out hov)
                      clear HAA HBB hcar
                      go_wp2_with fail
                      go_ret2
                      exact ⟨by rw [HON.out]; rfl, HBW.out⟩
                    · obtain ⟨hx1, hx2⟩ := HBB.out (by omega)
                      obtain ⟨r, hr⟩ : ∃ r : Nat, r = (ex + 1 + 1075).toNat * 4503599627370496 := ⟨_, rfl⟩
                      rw [← hr] at hx2
                      have HOS := Hd hx2
                      have hrl : r < 9218868437227405312 := HOL.out r hx2
                      obtain ⟨ri, hri⟩ : ∃ z : Int, (r : Int) = z := ⟨_, rfl⟩
                      have hriv : ri = (ex + 1 + 1075) * 4503599627370496 := by omega
                      have e1 : IntKind.i64.wrap (ex + 1 + 1075) = ex + 1 + 1075 := by apply IntWalk.i64_in <;> omega
                      have e2 : IntKind.u64.wrap (ex + 1 + 1075) = ex + 1 + 1075 := by rw [IntKind.wrap_u64]; omega
                      have e3 : IntKind.u64.wrap ((ex + 1 + 1075) * 4503599627370496) = (ex + 1 + 1075) * 4503599627370496 := by rw [IntKind.wrap_u64]; omega
                      have e4 : bits BinOp.and IntKind.u64 4503599627370496 4503599627370495 = 0 := by decide
                      have e5 : bits BinOp.or IntKind.u64 ((ex + 1 + 1075) * 4503599627370496) 0 = ri := by
                        rw [show bits BinOp.or IntKind.u64 ((ex + 1 + 1075) * 4503599627370496) 0 = (ex + 1 + 1075) * 4503599627370496 + 0 from bits_join .u64 64 (by decide) u64_fits 52 _ 0 (by omega) (by omega) (by omega) (by decide) (by decide) (by decide)]
                        omega
                      clear HAA HBB hr hcar hx2 hriv
                      have h2 := ffrom r
                      rw [hri] at h2
                      have H1 := Hd (fun (V : World) => (ratio_signed r neg hrl V))
                      have HRES := Hd (show nearB neg (some r) = (if neg && decide (r ≠ 0) then r + 9223372036854775808 else r) from rfl)
                      have hng := HNG.out
                      go_upto_region 36 with fail
                      go_wp2_with fail
                      obtain ⟨fr, hfr⟩ : ∃ k : Nat, k = (if neg && decide (r ≠ 0) then r + 9223372036854775808 else r) := ⟨_, rfl⟩
                      rw [← hfr] at HRES
                      have H1 := Hd (fun (V : World) => hfr ▸ H1.out V)
                      clear hfr
                      refine wp_region_free [.val (.int .i64 (ex + 1)) [], .val (.int .i64 (ex + 1 + 1075)) [], .val (.int .u64 (ex + 1 + 1075)) [], .val (.int .u64 ((ex + 1 + 1075) * 4503599627370496)) [], .val (.int .u64 4503599627370496) [], .val (.int .u64 0) [], .val (.int .u64 ri) [], .val (.float .f64 r) [], .val (.pointer (some ⟨w.heap.size, 0, none⟩)) [], .val (.pointer (some ⟨w.heap.size, 0, none⟩)) [], .val (.bool neg) [], .val (.float .f64 fr) [], .val (.float .f64 fr) [], .val (.bool true) []] y32.heap.size y32 [] (fun _ _ => False) _ mixedOrders2 (Nat.le_refl _) (Below.refl _ _) (KeptV.refl _ _ _) rfl (by kernel_rfl) (by kernel_rfl) (by kernel_rfl) (by kernel_rfl) (by kernel_rfl) (by kernel_rfl) (by kernel_rfl) (by kernel_rfl) rfl (by simp [oldsF]) ?_ ?_ ?_ ?_
                      · simp only [StableF]
                      · simp only [OldsF]
                      · simp (maxSteps := 4000000) [StepsF, DepF, freeAct, fill, pairs]
                        repeat' (first | apply And.intro | (intro (u : Value)) | (intro (u : Nat)))
                        all_goals
                          intro V hV hK
                          obtain ⟨-, a_x, b_x, c_x, d_x, -, -, -, -⟩ := (V_x.out.below hV).quad.facts
                          rw [hng] at a_x
                          clear hV hK
                          go_simp
                          first
                          | exact Below.refl _ _
                          | exact ⟨by first | rfl | decide | go_num, Below.refl _ _⟩
                          | ((with_reducible refine (H1.out V).mono ?_); rintro e w' ⟨rfl, rfl⟩; exact ⟨rfl, Below.refl _ _⟩)
                      · simp [EndF, FactsF, freeAct, fill, pairs]
                        intro V hV hK _ _ _
                        have HB := Hd (belowTo HBW.out hV)
                        clear hV hK
                        go_wp2_with fail
                        go_ret2
                        exact ⟨by rw [HOS.out, HRES.out]; rfl, HB.out⟩
                  · have hc1 : k2 / 9007199254740992 = 0 := by omega
                    by_cases hsub : k2 < 4503599627370496
                    · have hd52 : k2 / 4503599627370496 = 0 := by omega
                      have hx2 := HNO.out.1 (by omega)
                      obtain ⟨r, hr⟩ : ∃ r : Nat, r = k2.toNat := ⟨_, rfl⟩
                      rw [← hr] at hx2
                      have HOS := Hd hx2
                      have hrl : r < 9218868437227405312 := HOL.out r hx2
                      have hri : (r : Int) = k2 := by omega
                      clear HNO hr hcar hx2 hsub
                      have h2 := ffrom r
                      rw [hri] at h2
                      have H1 := Hd (fun (V : World) => (ratio_signed r neg hrl V))
                      have HRES := Hd (show nearB neg (some r) = (if neg && decide (r ≠ 0) then r + 9223372036854775808 else r) from rfl)
                      have hng := HNG.out
                      go_upto_region 33 with fail
                      go_wp2_with fail
                      obtain ⟨fr, hfr⟩ : ∃ k : Nat, k = (if neg && decide (r ≠ 0) then r + 9223372036854775808 else r) := ⟨_, rfl⟩
                      rw [← hfr] at HRES
                      have H1 := Hd (fun (V : World) => hfr ▸ H1.out V)
                      clear hfr
                      refine wp_region_free [.val (.int .u64 k2) [], .val (.float .f64 r) [], .val (.pointer (some ⟨w.heap.size, 0, none⟩)) [], .val (.pointer (some ⟨w.heap.size, 0, none⟩)) [], .val (.bool neg) [], .val (.float .f64 fr) [], .val (.float .f64 fr) [], .val (.bool true) []] y32.heap.size y32 [] (fun _ _ => False) _ mixedOrders2 (Nat.le_refl _) (Below.refl _ _) (KeptV.refl _ _ _) rfl (by kernel_rfl) (by kernel_rfl) (by kernel_rfl) (by kernel_rfl) (by kernel_rfl) (by kernel_rfl) (by kernel_rfl) (by kernel_rfl) rfl (by simp [oldsF]) ?_ ?_ ?_ ?_
                      · simp only [StableF]
                      · simp only [OldsF]
                      · simp (maxSteps := 4000000) [StepsF, DepF, freeAct, fill, pairs]
                        repeat' (first | apply And.intro | (intro (u : Value)) | (intro (u : Nat)))
                        all_goals
                          intro V hV hK
                          obtain ⟨-, a_x, b_x, c_x, d_x, -, -, -, -⟩ := (V_x.out.below hV).quad.facts
                          rw [hng] at a_x
                          clear hV hK
                          go_simp
                          first
                          | exact Below.refl _ _
                          | exact ⟨by first | rfl | decide | go_num, Below.refl _ _⟩
                          | ((with_reducible refine (H1.out V).mono ?_); rintro e w' ⟨rfl, rfl⟩; exact ⟨rfl, Below.refl _ _⟩)
                      · simp [EndF, FactsF, freeAct, fill, pairs]
                        intro V hV hK _ _ _
                        have HB := Hd (belowTo HBW.out hV)
                        clear hV hK
                        go_wp2_with fail
                        go_ret2
                        exact ⟨by rw [HOS.out, HRES.out]; rfl, HB.out⟩
                    · have hd52 : ((k2 / 4503599627370496) == 0) = false := by simp; omega
                      obtain ⟨hA, hB⟩ := HNO.out.2.1 (by omega) (by omega)
                      have HAA := Hd hA
                      have HBB := Hd hB
                      clear HNO hA hB
                      by_cases hov : 971 < ex
                      · have HON := Hd (HAA.out hov)
                        clear HAA HBB hcar hsub
                        go_wp2_with fail
                        go_ret2
                        exact ⟨by rw [HON.out]; rfl, HBW.out⟩
                      · obtain ⟨hx1, hx2⟩ := HBB.out (by omega)
                        obtain ⟨r, hr⟩ : ∃ r : Nat, r = (ex + 1075).toNat * 4503599627370496 + (k2.toNat - 4503599627370496) := ⟨_, rfl⟩
                        rw [← hr] at hx2
                        have HOS := Hd hx2
                        have hrl : r < 9218868437227405312 := HOL.out r hx2
                        obtain ⟨ri, hri⟩ : ∃ z : Int, (r : Int) = z := ⟨_, rfl⟩
                        have hriv : ri = (ex + 1075) * 4503599627370496 + (k2 - 4503599627370496) := by omega
                        have e1 : IntKind.i64.wrap (ex + 1075) = ex + 1075 := by apply IntWalk.i64_in <;> omega
                        have e2 : IntKind.u64.wrap (ex + 1075) = ex + 1075 := by rw [IntKind.wrap_u64]; omega
                        have e3 : IntKind.u64.wrap ((ex + 1075) * 4503599627370496) = (ex + 1075) * 4503599627370496 := by rw [IntKind.wrap_u64]; omega
                        have e4 : bits BinOp.and IntKind.u64 k2 4503599627370495 = k2 - 4503599627370496 := by
                          have h := and_mask k2.toNat 52 (by omega) (by decide)
                          rw [show ((k2.toNat : Nat) : Int) = k2 by omega, show ((2 ^ 52 - 1 : Nat) : Int) = 4503599627370495 from rfl] at h
                          rw [h]
                          have : k2.toNat % 2 ^ 52 = k2.toNat - 4503599627370496 := by
                            have : (2 : Nat) ^ 52 = 4503599627370496 := rfl
                            omega
                          omega
                        have e5 : bits BinOp.or IntKind.u64 ((ex + 1075) * 4503599627370496) (k2 - 4503599627370496) = ri := by
                          rw [show bits BinOp.or IntKind.u64 ((ex + 1075) * 4503599627370496) (k2 - 4503599627370496) = (ex + 1075) * 4503599627370496 + (k2 - 4503599627370496) from bits_join .u64 64 (by decide) u64_fits 52 _ _ (by omega) (by omega) (by omega) (by omega) (by omega) (by omega)]
                          omega
                        clear HAA HBB hr hcar hx2 hsub hriv
                        have h2 := ffrom r
                        rw [hri] at h2
                        have H1 := Hd (fun (V : World) => (ratio_signed r neg hrl V))
                        have HRES := Hd (show nearB neg (some r) = (if neg && decide (r ≠ 0) then r + 9223372036854775808 else r) from rfl)
                        have hng := HNG.out
                        go_upto_region 36 with fail
                        go_wp2_with fail
                        obtain ⟨fr, hfr⟩ : ∃ k : Nat, k = (if neg && decide (r ≠ 0) then r + 9223372036854775808 else r) := ⟨_, rfl⟩
                        rw [← hfr] at HRES
                        have H1 := Hd (fun (V : World) => hfr ▸ H1.out V)
                        clear hfr
                        refine wp_region_free [.val (.int .i64 ex) [], .val (.int .i64 (ex + 1075)) [], .val (.int .u64 (ex + 1075)) [], .val (.int .u64 ((ex + 1075) * 4503599627370496)) [], .val (.int .u64 k2) [], .val (.int .u64 (k2 - 4503599627370496)) [], .val (.int .u64 ri) [], .val (.float .f64 r) [], .val (.pointer (some ⟨w.heap.size, 0, none⟩)) [], .val (.pointer (some ⟨w.heap.size, 0, none⟩)) [], .val (.bool neg) [], .val (.float .f64 fr) [], .val (.float .f64 fr) [], .val (.bool true) []] y32.heap.size y32 [] (fun _ _ => False) _ mixedOrders2 (Nat.le_refl _) (Below.refl _ _) (KeptV.refl _ _ _) rfl (by kernel_rfl) (by kernel_rfl) (by kernel_rfl) (by kernel_rfl) (by kernel_rfl) (by kernel_rfl) (by kernel_rfl) (by kernel_rfl) rfl (by simp [oldsF]) ?_ ?_ ?_ ?_
                        · simp only [StableF]
                        · simp only [OldsF]
                        · simp (maxSteps := 4000000) [StepsF, DepF, freeAct, fill, pairs]
                          repeat' (first | apply And.intro | (intro (u : Value)) | (intro (u : Nat)))
                          all_goals
                            intro V hV hK
                            obtain ⟨-, a_x, b_x, c_x, d_x, -, -, -, -⟩ := (V_x.out.below hV).quad.facts
                            rw [hng] at a_x
                            clear hV hK
                            go_simp
                            first
                            | exact Below.refl _ _
                            | exact ⟨by first | rfl | decide | go_num, Below.refl _ _⟩
                            | ((with_reducible refine (H1.out V).mono ?_); rintro e w' ⟨rfl, rfl⟩; exact ⟨rfl, Below.refl _ _⟩)
                        · simp [EndF, FactsF, freeAct, fill, pairs]
                          intro V hV hK _ _ _
                          have HB := Hd (belowTo HBW.out hV)
                          clear hV hK
                          go_wp2_with fail
                          go_ret2
                          exact ⟨by rw [HOS.out, HRES.out]; rfl, HB.out⟩

theorem ratio_Nearest (n d : Int) (A B : Option Addr) (c e0 : Nat) (w : World) (h : Raw w A c (natL n.natAbs)) (g : Raw w B e0 (natL d.natAbs)) (hd : 0 < d) (hln : lz n ≤ 2048) (hld : lz d ≤ 2048) (o : Option Nat) (ho : Near (n.natAbs * p2 1074) d.natAbs o) :
    Calls Tryz.prog 48 #[.agg #[.bool (decide (n < 0)), .slice A (natL n.natAbs).length c, .bool (decide (d < 0)), .slice B (natL d.natAbs).length e0]] w fun e w' => e = .returned (.tuple #[.float .f64 (nearB (decide (n < 0)) o), .bool o.isSome]) ∧ Below w.heap.size w w' := by
  by_cases h0 : n = 0
  · have ho2 : o = some 0 := near_one ho ⟨0, ⟨by rw [fval_zero]; omega, by
      rw [h0, show (0 : Int).natAbs = 0 from rfl, Nat.zero_mul]
      exact Nat.mul_pos (fval_pos (by omega)) (by omega)⟩, by
      have hu : upR (n.natAbs * p2 1074) d.natAbs 0 = 0 := by
        unfold upR
        rw [h0, show (0 : Int).natAbs = 0 from rfl, Nat.zero_mul, if_neg (by omega)]
      rw [hu]
      rfl⟩
    rw [ho2, show nearB (decide (n < 0)) (some 0) = 0 by rw [decide_eq_false (by omega)]; rfl]
    exact ratio_Nearest_nought n d A B c e0 w h g h0
  · exact ratio_Nearest_all n d A B c e0 w h g hd h0 _ rfl hln hld o ho
/- Make of the references of chapter 02. (Written by wip/frac/genfmake.py ref.) -/

def RetFrac2 (w : World) (n d k : Int) (e : Ending) (w' : World) : Prop := ∃ v, e = .returned (.tuple #[v, .int .i64 k]) ∧ FracAt w' v n d ∧ Below w.heap.size w w'
theorem FracAt.quad {w : World} {g : Nat} {v : Value} {n d : Int} (h : FracAt w v n d) {b1 b2 : Bool} {A1 A2 : Option Addr} {n1 n2 c1 c2 : Nat} (q : Quad w g (.bool b1) (.slice A1 n1 c1) (.bool b2) (.slice A2 n2 c2)) (x y z u : Value) : FracAt ((((w.setCell ⟨g, 0, none⟩ x).setCell ⟨g, 1, none⟩ y).setCell ⟨g, 2, none⟩ z).setCell ⟨g, 3, none⟩ u) v n d := by
  obtain ⟨A, k, B, e, h1, h2, h3⟩ := h.form
  exact ⟨A, k, B, e, h1, h2.quad q _ _ _ _, h3.quad q _ _ _ _⟩

/- FromFloat, Float of package frac; Worth, Float of the references of chapter 02; SameFloat. (Written by wip/frac/genffloat.py.) -/

def flN (v : Nat) : Int := if ffin v then fltN v else 0
def flD (v : Nat) : Int := if ffin v then fltD v else 0
def flK (v : Nat) : Int := if ffin v then 0 else 6
theorem p2_lz2 {k j : Nat} {x : Int} (h : x.natAbs ≤ p2 k) (hk : k < 32 * j) : lz x ≤ j := p2_lz (Nat.lt_of_le_of_lt h (p2_lt hk))
theorem fl_lz (v : Nat) : lz (flN v) ≤ 2048 ∧ lz (flD v) ≤ 2048 := by
  unfold flN flD
  cases h : ffin v with
  | false => simp only [Bool.false_eq_true, if_false]; decide
  | true =>
    simp only [if_true]
    have hf : frun v < 9218868437227405312 := of_decide_eq_true h
    have h1 := lowN_lz (fint v) unitQ
    have h2 := lowD_lz (fint v) unitQ
    have h3 : fval (frun v) ≤ p2 2098 := by
      have h4 := fval_mono (Nat.le_of_lt hf)
      have e : fval 9218868437227405312 = p2 2098 := by
        rw [show 9218868437227405312 = 2046 * 4503599627370496 + 4503599627370496 from rfl, fval_at (E := 2046) (k := 4503599627370496) (by omega) (by omega), show 4503599627370496 = p2 52 from rfl, ← p2_add]
      rw [← e]
      exact h4
    have h5 : (fint v).natAbs ≤ p2 2098 := by unfold fint; split <;> omega
    exact ⟨Nat.le_trans h1 (p2_lz2 h5 (by omega)), Nat.le_trans h2 (p2_lz2 (k := 1074) (by unfold unitQ; rw [Int.natAbs_natCast]; exact Nat.le_refl _) (by omega))⟩

theorem frac_FromFloat_fin (v : Nat) (hv : v < 18446744073709551616) (w : World)  (hf : frun v < 9218868437227405312) (htab : tzTab w) :
    Calls Tryz.prog 11 #[.float .f64 v] w (RetFracOwn2 w.heap.size w (fltN v) (fltD v) 0) := by
  have C1 := fun (V : World) => math_IsNaN v V
  have C2 := fun (V : World) => math_IsInf v hv (by omega) V
  rw [decide_eq_false (by omega)] at C1
  rw [decide_eq_false (by omega)] at C2
  have HTW := Hd htab
  have H3 := Hd (fun (V : World) (t : tzTab V) => ratio_FromFloat v hv hf V t)
  obtain ⟨N, hN⟩ : ∃ k : Int, k = fltN v := ⟨_, rfl⟩
  obtain ⟨D, hD⟩ : ∃ k : Int, k = fltD v := ⟨_, rfl⟩
  rw [← hN, ← hD] at H3 ⊢
  have H1 := Hd C1
  have H2 := Hd C2
  clear C2
  clear C1 hf hv htab hN hD
  have b0 := ((Below.refl w.heap.size w).alloc (Nat.le_refl _) (.cells #[.bool false, .slice none 0 0, .bool false, .slice none 0 0] 27))
  have p0 := Quad.new w (.bool false) (.slice none 0 0) (.bool false) (.slice none 0 0)
  have P_r0 := Hd p0
  have HBW := Hd b0
  clear b0 p0 
  go_enter Tryz.func11, Tryz.ntmps11
  obtain ⟨W, E⟩ : ∃ W, W = (w.alloc (.cells #[.bool false, .slice none 0 0, .bool false, .slice none 0 0] 27)) := ⟨_, rfl⟩
  go_upto_region 1 with fail
  rw [← E] at P_r0 HBW ⊢
  clear E
  go_wp2_with fail
  refine (H1.out W).mono ?_
  rintro e9 wz ⟨rfl, rfl⟩
  go_wp2_with fail
  refine (H2.out _).mono ?_
  rintro e8 wy ⟨rfl, rfl⟩
  obtain ⟨y1, hy1⟩ : ∃ Y, Y = wy := ⟨_, rfl⟩
  rw [← hy1] at P_r0 HBW ⊢
  clear hy1
  go_wp2_with fail
  refine (H3.out y1 (HTW.out.below HBW.out)).mono ?_
  rintro e x1 ⟨v2, rfl, hF, hb⟩
  have hFb := hF.base HBW.out.size
  obtain ⟨A3, c3, A4, c4, rfl, -⟩ := hF.form
  have P_r0 := Hd (P_r0.out.below hb)
  have HBW := Hd (belowTo HBW.out hb)
  clear hb
  have HF := Hd hFb
  clear hF hFb
  obtain ⟨l_r0, a_r0, b_r0, f_r0, g_r0⟩ := P_r0.out.facts
  have HQ := Hd (P_r0.out.store (.bool (decide (N < 0))) (.slice A3 (natL N.natAbs).length c3) (.bool (decide (D < 0))) (.slice A4 (natL D.natAbs).length c4))
  have HB := Hd (below4 HBW.out (show w.heap.size ≤ w.heap.size by omega) (.bool (decide (N < 0))) (.slice A3 (natL N.natAbs).length c3) (.bool (decide (D < 0))) (.slice A4 (natL D.natAbs).length c4))
  have HF9 := Hd (HF.out.quad P_r0.out (.bool (decide (N < 0))) (.slice A3 (natL N.natAbs).length c3) (.bool (decide (D < 0))) (.slice A4 (natL D.natAbs).length c4))
  go_wp2_with fail
  obtain ⟨_, k0, k1, k2, k3, _, _, _, _⟩ := HQ.out.facts
  exact bodyPost_ret (by simp [results, Tryz.results11, go_sem, k0, k1, k2, k3]) rfl ⟨_, rfl, HF9.out, HB.out⟩

theorem frac_FromFloat_inf (v : Nat) (hv : v < 18446744073709551616) (w : World)  (hf : frun v = 9218868437227405312) :
    Calls Tryz.prog 11 #[.float .f64 v] w (RetFracOwn2 w.heap.size w 0 0 6) := by
  have C1 := fun (V : World) => math_IsNaN v V
  have C2 := fun (V : World) => math_IsInf v hv (by omega) V
  rw [decide_eq_false (by omega)] at C1
  rw [decide_eq_true hf] at C2
  have H1 := Hd C1
  have H2 := Hd C2
  clear C2
  clear C1 hf hv
  have b0 := ((Below.refl w.heap.size w).alloc (Nat.le_refl _) (.cells #[.bool false, .slice none 0 0, .bool false, .slice none 0 0] 27))
  have p0 := Quad.new w (.bool false) (.slice none 0 0) (.bool false) (.slice none 0 0)
  have P_r0 := Hd p0
  have HBW := Hd b0
  clear b0 p0 
  go_enter Tryz.func11, Tryz.ntmps11
  obtain ⟨W, E⟩ : ∃ W, W = (w.alloc (.cells #[.bool false, .slice none 0 0, .bool false, .slice none 0 0] 27)) := ⟨_, rfl⟩
  go_upto_region 1 with fail
  rw [← E] at P_r0 HBW ⊢
  clear E
  go_wp2_with fail
  refine (H1.out W).mono ?_
  rintro e9 wz ⟨rfl, rfl⟩
  go_wp2_with fail
  refine (H2.out _).mono ?_
  rintro e8 wy ⟨rfl, rfl⟩
  obtain ⟨y1, hy1⟩ : ∃ Y, Y = wy := ⟨_, rfl⟩
  rw [← hy1] at P_r0 HBW ⊢
  clear hy1
  obtain ⟨l_r0, a_r0, b_r0, f_r0, g_r0⟩ := P_r0.out.facts
  have HQ := Hd (P_r0.out.store (.bool false) (.slice none 0 0) (.bool false) (.slice none 0 0))
  have HB := Hd (below4 HBW.out (show w.heap.size ≤ w.heap.size by omega) (.bool false) (.slice none 0 0) (.bool false) (.slice none 0 0))
  go_wp2_with fail
  obtain ⟨_, k0, k1, k2, k3, _, _, _, _⟩ := HQ.out.facts
  exact bodyPost_ret (by simp [results, Tryz.results11, go_sem, k0, k1, k2, k3]) rfl ⟨_, rfl, FracOwn.nought _ _, HB.out⟩

theorem frac_FromFloat_nan (v : Nat) (w : World)  (hf : 9218868437227405312 < frun v) :
    Calls Tryz.prog 11 #[.float .f64 v] w (RetFracOwn2 w.heap.size w 0 0 6) := by
  have C1 := fun (V : World) => math_IsNaN v V
  rw [decide_eq_true hf] at C1
  have H1 := Hd C1
  clear C1 hf
  have b0 := ((Below.refl w.heap.size w).alloc (Nat.le_refl _) (.cells #[.bool false, .slice none 0 0, .bool false, .slice none 0 0] 27))
  have p0 := Quad.new w (.bool false) (.slice none 0 0) (.bool false) (.slice none 0 0)
  have P_r0 := Hd p0
  have HBW := Hd b0
  clear b0 p0 
  go_enter Tryz.func11, Tryz.ntmps11
  obtain ⟨W, E⟩ : ∃ W, W = (w.alloc (.cells #[.bool false, .slice none 0 0, .bool false, .slice none 0 0] 27)) := ⟨_, rfl⟩
  go_upto_region 1 with fail
  rw [← E] at P_r0 HBW ⊢
  clear E
  go_wp2_with fail
  refine (H1.out W).mono ?_
  rintro e9 wz ⟨rfl, rfl⟩
  obtain ⟨y1, hy1⟩ : ∃ Y, Y = wz := ⟨_, rfl⟩
  rw [← hy1] at P_r0 HBW ⊢
  clear hy1
  obtain ⟨l_r0, a_r0, b_r0, f_r0, g_r0⟩ := P_r0.out.facts
  have HQ := Hd (P_r0.out.store (.bool false) (.slice none 0 0) (.bool false) (.slice none 0 0))
  have HB := Hd (below4 HBW.out (show w.heap.size ≤ w.heap.size by omega) (.bool false) (.slice none 0 0) (.bool false) (.slice none 0 0))
  go_wp2_with fail
  obtain ⟨_, k0, k1, k2, k3, _, _, _, _⟩ := HQ.out.facts
  exact bodyPost_ret (by simp [results, Tryz.results11, go_sem, k0, k1, k2, k3]) rfl ⟨_, rfl, FracOwn.nought _ _, HB.out⟩

theorem frac_FromFloat (v : Nat) (hv : v < 18446744073709551616) (w : World) (htab : tzTab w) : Calls Tryz.prog 11 #[.float .f64 v] w (RetFracOwn2 w.heap.size w (flN v) (flD v) (flK v)) := by
  unfold flN flD flK ffin
  rcases (by omega : frun v < 9218868437227405312 ∨ frun v = 9218868437227405312 ∨ 9218868437227405312 < frun v) with h | h | h
  · rw [decide_eq_true h]
    simp only [if_true]
    exact frac_FromFloat_fin v hv w h htab
  · rw [decide_eq_false (by omega)]
    simp only [Bool.false_eq_true, if_false]
    exact frac_FromFloat_inf v hv w h
  · rw [decide_eq_false (by omega)]
    simp only [Bool.false_eq_true, if_false]
    exact frac_FromFloat_nan v w h

def fltT (b ok : Bool) (f : Nat) : Nat := if b then (if ok then f else 0) else 0
def fltE (b ok : Bool) : Int := if b then (if ok then 0 else 6) else 1

theorem frac_Float_all (n1 n2 b ok : Bool) (A B : Option Addr) (c e0 : Nat) (xs ys : List Nat) (f : Nat) (hc : (chkE n1 n2 xs ys == 0) = b) (w : World) (h : Raw w A c xs) (g : Raw w B e0 ys) (C2 : b = true → ∀ V, Raw V A c xs → Raw V B e0 ys → Calls Tryz.prog 48 #[.agg #[.bool n1, .slice A xs.length c, .bool n2, .slice B ys.length e0]] V fun e w' => e = .returned (.tuple #[.float .f64 f, .bool ok]) ∧ Below V.heap.size V w') :
    Calls Tryz.prog 13 #[.agg #[.bool n1, .slice A xs.length c, .bool n2, .slice B ys.length e0]] w fun e w' => e = .returned (.tuple #[.float .f64 (fltT b ok f), .int .i64 (fltE b ok)]) ∧ Below w.heap.size w w' := by
  have C1 := fun (V : World) (g' : Nat) (h : Raw V A c xs) (g : Raw V B e0 ys) (hg : V.heap.size = g') => checks_new n1 n2 A B c e0 xs ys V g' h g hg
  rw [hc] at C1
  have H1 := Hd C1
  have H2 := Hd C2
  have px := Quad.new w (.bool n1) (.slice A xs.length c) (.bool n2) (.slice B ys.length e0)
  have b0 := (Below.refl w.heap.size w).alloc (Nat.le_refl _) (.cells #[.bool n1, .slice A xs.length c, .bool n2, .slice B ys.length e0] 27)
  have PX := Hd px
  have B0 := Hd b0
  have RX := Hd (h.below b0)
  have RY := Hd (g.below b0)
  clear px b0 h g C1 C2 hc
  go_enter Tryz.func13, Tryz.ntmps13
  obtain ⟨W, E⟩ : ∃ W, W = w.alloc (.cells #[.bool n1, .slice A xs.length c, .bool n2, .slice B ys.length e0] 27) := ⟨_, rfl⟩
  go_upto_region 1 with fail
  rw [← E] at PX B0 RX RY ⊢
  clear E
  obtain ⟨l_x, a_x, b_x, c_x, d_x, -, -, -, -⟩ := PX.out.facts
  go_wp2_with fail
  refine (H1.out W _ RX.out RY.out rfl).mono ?_
  rintro e w1 ⟨rfl, hb⟩
  have PX := Hd ((PX.out.alloc (.cells #[.bool n1, .slice A xs.length c, .bool n2, .slice B ys.length e0] 27)).below hb)
  have BB := Hd (belowTo (B0.out.alloc B0.out.size (.cells #[.bool n1, .slice A xs.length c, .bool n2, .slice B ys.length e0] 27)) hb)
  have RX := Hd ((RX.out.alloc (.cells #[.bool n1, .slice A xs.length c, .bool n2, .slice B ys.length e0] 27)).below hb)
  have RY := Hd ((RY.out.alloc (.cells #[.bool n1, .slice A xs.length c, .bool n2, .slice B ys.length e0] 27)).below hb)
  clear B0 hb l_x a_x b_x c_x d_x
  cases b
  case false =>
    clear H2
    go_wp2_with fail
    go_ret2
    exact ⟨rfl, BB.out⟩
  case true =>
    have H3 := Hd (H2.out rfl)
    clear H2
    obtain ⟨l_x, a_x, b_x, c_x, d_x, -, -, -, -⟩ := PX.out.facts
    go_wp2_with fail
    refine (H3.out w1 RX.out RY.out).mono ?_
    rintro e w2 ⟨rfl, hb⟩
    have HF := Hd (belowTo BB.out hb)
    clear hb l_x a_x b_x c_x d_x
    cases ok
    case true =>
      go_wp2_with fail
      go_ret2
      exact ⟨rfl, HF.out⟩
    case false =>
      go_wp2_with fail
      go_ret2
      exact ⟨rfl, HF.out⟩

end Go.Proofs.YtipmkkobdbgphaaGreatDoor
