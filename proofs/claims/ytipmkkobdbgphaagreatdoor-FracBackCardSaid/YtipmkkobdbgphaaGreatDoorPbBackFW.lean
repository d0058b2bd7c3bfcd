/- Several texts in one: BackFW. -/
import Derived.Test.YtipmkkobdbgphaaGreatDoorPb39
import Derived.Test.YtipmkkobdbgphaaGreatDoorPbHd
import Derived.Test.YtipmkkobdbgphaaGreatDoorPb36
import Derived.Test.YtipmkkobdbgphaaGreatDoorPb27
set_option maxRecDepth 100000
set_option maxHeartbeats 8000000
/- FracBack: the walk. (Written by wip/frac/genfback.py.) -/
namespace Go.Proofs.YtipmkkobdbgphaaGreatDoor
open Go.RowKit

theorem fback_true (fz : Nat) (hv : fz < 18446744073709551616) (n1 n2 : Bool) (A B : Option Addr) (c e0 : Nat) (xs ys : List Nat) (s : ByteArray) (w : World) (h : Raw w A c xs) (g : Raw w B e0 ys) (htab : powTab w) (htz : tzTab w) (hx : xs.length ≤ 1152921504606846975) (hy : ys.length ≤ 1152921504606846975) (hz : s.size ≤ 4611686018427387903) :
    Calls Tryz.prog 6 #[.float .f64 fz, .agg #[.bool n1, .slice A xs.length c, .bool n2, .slice B ys.length e0], .string s] w fun e w' => e = .returned (.bool true) ∧ Below w.heap.size w w' := by
  have px := Quad.new w (.bool n1) (.slice A xs.length c) (.bool n2) (.slice B ys.length e0)
  have b0 := (Below.refl w.heap.size w).alloc (Nat.le_refl _) (.cells #[.bool n1, .slice A xs.length c, .bool n2, .slice B ys.length e0] 27)
  have C1 := fun (V : World) (h : Raw V A c xs) (g : Raw V B e0 ys) => frac_cost n1 n2 A B c e0 xs ys hx hy V h g
  have hs1 := fcost_le hx hy
  obtain ⟨s1, e1⟩ : ∃ k : Nat, k = fcost xs.length ys.length := ⟨_, rfl⟩
  rw [← e1] at C1 hs1
  obtain ⟨b, hb⟩ : ∃ b : Bool, b = decide (1048576 < [s1, s.size].sum) := ⟨_, rfl⟩
  have H2 := Hd (fun (u : Value) (V : World) (h : SliceOf [s1, s.size] u V) => beyond_of2 [s1, s.size] b (by simp) (by simp; omega) hb u V h)
  have H1 := Hd C1
  obtain ⟨t, k, D5, d5⟩ := text_back n1 n2 xs ys h.limbs g.limbs
  obtain ⟨N, D, K, D8, d8⟩ := mul_back n1 n2 xs ys h.limbs g.limbs
  have D3 := fun (V : World) (t : tzTab V) => frac_FromFloat fz hv V t
  obtain ⟨a, ha⟩ : ∃ a : Nat, a = nearB (decide (fltN fz < 0)) (some (frun fz)) := ⟨_, rfl⟩
  have D4 : frun fz < 9218868437227405312 → ∀ (V : World) (A B : Option Addr) (c e0 : Nat), Raw V A c (natL (flN fz).natAbs) → Raw V B e0 (natL (flD fz).natAbs) → Calls Tryz.prog 13 #[.agg #[.bool (decide (flN fz < 0)), .slice A (natL (flN fz).natAbs).length c, .bool (decide (flD fz < 0)), .slice B (natL (flD fz).natAbs).length e0]] V fun e w' => e = .returned (.tuple #[.float .f64 a, .int .i64 0]) ∧ Below V.heap.size V w' := fun hf V A B c e0 h g => by
    have e1 : flN fz = fltN fz := by unfold flN ffin; rw [decide_eq_true hf, if_pos rfl]
    have e2 : flD fz = fltD fz := by unfold flD ffin; rw [decide_eq_true hf, if_pos rfl]
    rw [e1] at h ⊢
    rw [e2] at g ⊢
    exact frac_Float_back fz a hf ha A B c e0 V h g
  obtain ⟨sg, hsg⟩ : ∃ b : Bool, b = decide (fint fz < 0) := ⟨_, rfl⟩
  have hfl : frun fz < 9218868437227405312 → (FloatKind.f64.format.order a fz != some .eq) = false ∧ (FloatKind.f64.format.order fz 0 == some .lt) = sg ∧ fneg a = sg ∧ a < 18446744073709551616 := fun hf => by
    have h := back_float hf ha
    refine ⟨?_, ?_, by rw [hsg]; exact h.2.2.1, h.2.2.2⟩
    · show (Ieee.double.order a fz != some .eq) = false
      rw [bne, order_eq h.1 hf, decide_eq_true h.2.1]
      rfl
    · show (Ieee.double.order fz 0 == some .lt) = sg
      rw [order_lt hf (by decide), hsg]
      have e2 : fint 0 = 0 := by rw [show fint 0 = (fval 0 : Int) from rfl, fval_zero]; rfl
      rw [e2]
  have hcs : (frun fz < 9218868437227405312 ∧ flK fz = 0) ∨ (frun fz = 9218868437227405312 ∧ flK fz = 6) ∨ (9218868437227405312 < frun fz ∧ flK fz = 6) := by
    unfold flK ffin
    rcases (by omega : frun fz < 9218868437227405312 ∨ frun fz = 9218868437227405312 ∨ 9218868437227405312 < frun fz) with h | h | h
    · rw [decide_eq_true h]; exact .inl ⟨h, rfl⟩
    · rw [decide_eq_false (by omega)]; exact .inr (.inl ⟨h, rfl⟩)
    · rw [decide_eq_false (by omega)]; exact .inr (.inr ⟨h, rfl⟩)
  obtain ⟨r, hr⟩ : ∃ k : Int, k = flN fz := ⟨_, rfl⟩
  obtain ⟨u, hu⟩ : ∃ k : Int, k = flD fz := ⟨_, rfl⟩
  obtain ⟨m, hm⟩ : ∃ k : Int, k = flK fz := ⟨_, rfl⟩
  rw [← hr, ← hu, ← hm] at D3
  rw [← hr, ← hu] at D4
  rw [← hm] at hcs
  have D7 := fun (V : World) => frac_Parse s V
  have d7 := fpr_good (s := s.data.toList)
  obtain ⟨r2, hr2⟩ : ∃ k : Int, k = fprN s.data.toList := ⟨_, rfl⟩
  obtain ⟨u2, hu2⟩ : ∃ k : Int, k = fprD s.data.toList := ⟨_, rfl⟩
  obtain ⟨m2, hm2⟩ : ∃ k : Int, k = fprK s.data.toList := ⟨_, rfl⟩
  rw [← hr2, ← hu2, ← hm2] at D7 d7
  have HV := Hd hv
  have HC := Hd hcs
  have HFL := Hd hfl
  have H3 := Hd D3
  have H4 := Hd D4
  have H5 := Hd D5
  have HE5 := Hd d5
  have H7 := Hd D7
  have HE7 := Hd d7
  have H8 := Hd D8
  have HE8 := Hd d8
  have HZ := Hd (htz.below b0)
  have PX := Hd px
  have RX := Hd (h.below b0)
  have RY := Hd (g.below b0)
  have HT := Hd (htab.below2 b0)
  have HB := Hd b0
  clear px b0 h g htab htz hx hy hz hv C1 hs1 e1 hb D3 D4 D5 D7 D8 d5 d7 d8 ha hsg hfl hcs hr hu hm hr2 hu2 hm2
  go_enter Tryz.func6, Tryz.ntmps6
  go_upto_region 1 with fail
  obtain ⟨W, E⟩ : ∃ W, W = w.alloc (.cells #[.bool n1, .slice A xs.length c, .bool n2, .slice B ys.length e0] 27) := ⟨_, rfl⟩
  rw [← E] at PX RX RY HT HZ HB ⊢
  clear E
  obtain ⟨l_x, x0, x1, x2, x3, -, -, -, -⟩ := PX.out.facts
  go_wp2_with fail
  refine (H1.out W RX.out RY.out).mono ?_
  rintro e wx1 ⟨rfl, hb⟩
  clear l_x x0 x1 x2 x3
  have HS_wx1 := Hd (show W.heap.size ≤ wx1.heap.size from hb.size)
  have PX := Hd (PX.out.below hb)
  have RX := Hd (RX.out.below hb)
  have RY := Hd (RY.out.below hb)
  have HT := Hd (HT.out.below2 hb)
  have HZ := Hd (HZ.out.below hb)
  have HB := Hd (belowTo HB.out hb)
  go_wp2_with fail
  refine (H2.out _ _ (SliceOf.new [s1, s.size] 3 wx1 _ rfl)).mono ?_
  rintro e wz ⟨rfl, hb⟩
  have hb := ((Below.refl wx1.heap.size wx1).alloc (Nat.le_refl _) (.cells #[.int .i64 (s1 : Int), .int .i64 (s.size : Int)] 3)).trans (hb.mono (by simp))
  have PX := Hd (PX.out.below hb)
  have RX := Hd (RX.out.below hb)
  have RY := Hd (RY.out.below hb)
  have HT := Hd (HT.out.below2 hb)
  have HZ := Hd (HZ.out.below hb)
  have HB := Hd (belowTo HB.out hb)
  clear hb H1 H2
  cases b
  case true =>
    go_wp2_with fail
    go_ret
    exact ⟨rfl, HB.out⟩
  have F := Hd ((((Kp.base HB.out).add HT.out (fun _ _ => powTab.below2)).add HZ.out (fun _ _ => tzTab.below)).add (RQ.mk PX.out RX.out RY.out) (fun _ _ => RQ.below))
  clear PX RX RY HT HZ HB
  obtain ⟨-, HZ, -⟩ := F.out.h
  go_wp2_with fail
  refine (H3.out wz HZ).mono ?_
  rintro e wx1 ⟨v, rfl, hI, hb⟩
  obtain ⟨Ar1, cr1, Br1, er1, rfl, i1, i2, -⟩ := hI.form
  have hn := FV.new i1.rawAt i2.rawAt
  have ha := (Below.refl wx1.heap.size wx1).alloc (Nat.le_refl _) (.cells #[.bool (decide (r < 0)), .slice Ar1 (natL r.natAbs).length cr1, .bool (decide (u < 0)), .slice Br1 (natL u.natAbs).length er1] 27)
  have F := Hd (((F.out.below hb).below ha).add hn (fun _ _ => FV.below))
  clear HZ
  clear hI i1 i2 hb hn ha
  go_upto_region 4 with fail
  obtain ⟨wy1, E⟩ : ∃ W, W = wx1.alloc (.cells #[.bool (decide (r < 0)), .slice Ar1 (natL r.natAbs).length cr1, .bool (decide (u < 0)), .slice Br1 (natL u.natAbs).length er1] 27) := ⟨_, rfl⟩
  obtain ⟨q1, hq⟩ : ∃ q, q = wx1.heap.size := ⟨_, rfl⟩
  rw [← E, ← hq] at F ⊢
  clear E hq
  skip
  obtain ⟨yc2, E⟩ : ∃ Y, Y = wy1 := ⟨_, rfl⟩
  rw [← E] at F ⊢
  clear E
  go_cut [46] (fun s46 wc => s46 = .bool false ∧ Below yc2.heap.size yc2 wc)
  case first => as_aux_lemma =>
    have F := Hd (F.out.add (Below.refl yc2.heap.size yc2) (fun _ _ a b => belowTo a b))
    rcases HC.out with ⟨h, hm⟩ | ⟨h, hm⟩ | ⟨h, hm⟩
    · have G1 := fun (V : World) => is_nan fz false (by exact (decide_eq_false (by omega)).symm) V
      have G2 := fun (V : World) => is_inf fz HV.out (by omega) false (by exact (decide_eq_false (by omega)).symm) V
      have G1 := Hd G1

      have G2 := Hd G2
      subst hm
      clear h HC HFL H4
      go_wp2_with fail
      refine (G1.out _).mono ?_
      rintro e wx3 ⟨rfl, hb⟩
      have F := Hd (F.out.below hb)
      clear hb
      go_wp2_with fail
      refine (G2.out _).mono ?_
      rintro e wx4 ⟨rfl, hb⟩
      have F := Hd (F.out.below hb)
      clear hb
      obtain ⟨HC0, -⟩ := F.out.h
      go_wp2_with fail
      go_meet
      case rel => exact ⟨rfl, HC0⟩
    · have G1 := fun (V : World) => is_nan fz false (by exact (decide_eq_false (by omega)).symm) V
      have G2 := fun (V : World) => is_inf fz HV.out (by omega) true (by exact (decide_eq_true h).symm) V
      have G1 := Hd G1

      have G2 := Hd G2
      subst hm
      clear h HC HFL H4
      go_wp2_with fail
      refine (G1.out _).mono ?_
      rintro e wx5 ⟨rfl, hb⟩
      have F := Hd (F.out.below hb)
      clear hb
      go_wp2_with fail
      refine (G2.out _).mono ?_
      rintro e wx6 ⟨rfl, hb⟩
      have F := Hd (F.out.below hb)
      clear hb
      obtain ⟨HC0, -⟩ := F.out.h
      go_wp2_with fail
      go_meet
      case rel => exact ⟨rfl, HC0⟩
    · have G1 := fun (V : World) => is_nan fz true (by exact (decide_eq_true h).symm) V
      have G1 := Hd G1
      subst hm
      clear h HC HFL H4
      go_wp2_with fail
      refine (G1.out _).mono ?_
      rintro e wx7 ⟨rfl, hb⟩
      have F := Hd (F.out.below hb)
      clear hb
      obtain ⟨HC0, -⟩ := F.out.h
      go_wp2_with fail
      go_meet
      case rel => exact ⟨rfl, HC0⟩
  case rest =>
    obtain ⟨h46, hcut⟩ := hcut
    subst h46
    have F := Hd (F.out.below hcut)
    clear hcut
    obtain ⟨yr8, E⟩ : ∃ Y, Y = wc := ⟨_, rfl⟩
    subst E
    go_upto_if 48 with fail
    obtain ⟨yc9, E⟩ : ∃ Y, Y = yr8 := ⟨_, rfl⟩
    rw [← E] at F ⊢
    clear E
    go_cut [] (fun wc => Below yc9.heap.size yc9 wc)
    case first => as_aux_lemma =>
      have F := Hd (F.out.add (Below.refl yc9.heap.size yc9) (fun _ _ a b => belowTo a b))
      rcases HC.out with ⟨h, hm⟩ | ⟨h, hm⟩ | ⟨h, hm⟩
      · have G4 := Hd (H4.out h)
        obtain ⟨f1, f2, f3, f4⟩ := HFL.out h
        have G5 := Hd (fun (V : World) => sign_bit a f4 sg f3.symm V)
        subst hm
        clear h f3 f4 HC HFL H4
        obtain ⟨-, V_w, -⟩ := F.out.h
        obtain ⟨l_w, a_w, b_w, c_w, d_w, -, -, -, -⟩ := V_w.quad.facts
        go_wp2_with fail
        refine (G4.out yc9 _ _ _ _ V_w.num V_w.den).mono ?_
        rintro e wx10 ⟨rfl, hb⟩
        have F := Hd (F.out.below hb)
        clear l_w a_w b_w c_w d_w V_w
        clear hb
        go_wp2_with fail
        refine (G5.out _).mono ?_
        rintro e wx11 ⟨rfl, hb⟩
        have F := Hd (F.out.below hb)
        clear hb
        cases sg
        case false =>
          obtain ⟨HC0, -⟩ := F.out.h
          go_wp2_with fail
          go_meet
          case rel => exact HC0
        case true =>
          obtain ⟨HC0, -⟩ := F.out.h
          go_wp2_with fail
          go_meet
          case rel => exact HC0
      · subst hm
        clear h HC HFL H4
        obtain ⟨HC0, -⟩ := F.out.h
        go_wp2_with fail
        go_meet
        case rel => exact HC0
      · subst hm
        clear h HC HFL H4
        obtain ⟨HC0, -⟩ := F.out.h
        go_wp2_with fail
        go_meet
        case rel => exact HC0
    case rest =>
      have F := Hd (F.out.below hcut)
      clear hcut
      obtain ⟨yr12, E⟩ : ∃ Y, Y = wc := ⟨_, rfl⟩
      subst E
      obtain ⟨-, V_x, -, HT, -⟩ := F.out.h
      obtain ⟨l_x, a_x, b_x, c_x, d_x, -, -, -, -⟩ := V_x.quad.facts
      go_wp2_with fail
      refine (H5.out yr12 A B c e0 V_x.num V_x.den HT).mono ?_
      rintro e wx13 ⟨rfl, hb⟩
      have F := Hd (F.out.below hb)
      clear l_x a_x b_x c_x d_x HT V_x
      clear hb
      go_upto_if 74 with fail
      obtain ⟨yc14, E⟩ : ∃ Y, Y = wx13 := ⟨_, rfl⟩
      rw [← E] at F ⊢
      clear E
      go_cut [] (fun wc => Below yc14.heap.size yc14 wc)
      case first => as_aux_lemma =>
        have F := Hd (F.out.add (Below.refl yc14.heap.size yc14) (fun _ _ a b => belowTo a b))
        by_cases hk : k = 0
        · obtain ⟨n, d, f, rfl, rfl, rfl, rfl, e1, e2, e3⟩ := HE5.out hk
          have G := fun (V : World) => frac_Parse t V
          rw [e1, e2, e3] at G
          have G := Hd G
          subst hk
          clear e1 e2 e3 f HE5 HE8 HE7
          go_wp2_with fail
          refine (G.out yc14).mono ?_
          rintro e wx15 ⟨v, rfl, hI, hb⟩
          obtain ⟨Ar15, cr15, Br15, er15, rfl, i1, i2, -⟩ := hI.form
          have hn := FV.new i1.rawAt i2.rawAt
          have ha := (Below.refl wx15.heap.size wx15).alloc (Nat.le_refl _) (.cells #[.bool (decide (n < 0)), .slice Ar15 (natL n.natAbs).length cr15, .bool (decide (d < 0)), .slice Br15 (natL d.natAbs).length er15] 27)
          have F := Hd (((F.out.below hb).below ha).add hn (fun _ _ => FV.below))
          clear hI i1 i2 hb hn ha
          go_upto_region 13 with fail
          obtain ⟨wy15, E⟩ : ∃ W, W = wx15.alloc (.cells #[.bool (decide (n < 0)), .slice Ar15 (natL n.natAbs).length cr15, .bool (decide (d < 0)), .slice Br15 (natL d.natAbs).length er15] 27) := ⟨_, rfl⟩
          obtain ⟨q15, hq⟩ : ∃ q, q = wx15.heap.size := ⟨_, rfl⟩
          rw [← E, ← hq] at F ⊢
          clear E hq
          obtain ⟨V_p, -, -, V_x, -⟩ := F.out.h
          obtain ⟨l_x, a_x, b_x, c_x, d_x, -, -, -, -⟩ := V_x.quad.facts
          obtain ⟨l_p, a_p, b_p, c_p, d_p, -, -, -, -⟩ := V_p.quad.facts
          go_wp2_with fail
          refine (sameFrac_true _ _ n d wy15 ⟨_, _, _, _, rfl, V_x.num, V_x.den⟩ V_p.at_).mono ?_
          rintro e wx16 ⟨rfl, hb⟩
          have F := Hd (F.out.below hb)
          clear l_x a_x b_x c_x d_x l_p a_p b_p c_p d_p V_p V_x
          clear hb
          obtain ⟨-, HC0, -⟩ := F.out.h
          go_wp2_with fail
          go_meet
          case rel => exact HC0
        · have hk2 : decide (k = 0) = false := decide_eq_false hk
          clear HE5 HE8 HE7
          obtain ⟨HC0, -⟩ := F.out.h
          go_wp2_with fail
          go_meet
          case rel => exact HC0
      case rest =>
        have F := Hd (F.out.below hcut)
        clear hcut
        obtain ⟨yr17, E⟩ : ∃ Y, Y = wc := ⟨_, rfl⟩
        subst E
        go_wp2_with fail
        refine (H7.out yr17).mono ?_
        rintro e wx18 ⟨v, rfl, hI, hb⟩
        obtain ⟨Ar18, cr18, Br18, er18, rfl, i1, i2, -⟩ := hI.form
        have hn := FV.new i1.rawAt i2.rawAt
        have ha := (Below.refl wx18.heap.size wx18).alloc (Nat.le_refl _) (.cells #[.bool (decide (r2 < 0)), .slice Ar18 (natL r2.natAbs).length cr18, .bool (decide (u2 < 0)), .slice Br18 (natL u2.natAbs).length er18] 27)
        have F := Hd (((F.out.below hb).below ha).add hn (fun _ _ => FV.below))
        clear hI i1 i2 hb hn ha
        go_upto_region 16 with fail
        obtain ⟨wy18, E⟩ : ∃ W, W = wx18.alloc (.cells #[.bool (decide (r2 < 0)), .slice Ar18 (natL r2.natAbs).length cr18, .bool (decide (u2 < 0)), .slice Br18 (natL u2.natAbs).length er18] 27) := ⟨_, rfl⟩
        obtain ⟨q18, hq⟩ : ∃ q, q = wx18.heap.size := ⟨_, rfl⟩
        rw [← E, ← hq] at F ⊢
        clear E hq
        go_upto_if 94 with fail
        obtain ⟨yc19, E⟩ : ∃ Y, Y = wy18 := ⟨_, rfl⟩
        rw [← E] at F ⊢
        clear E
        go_cut [] (fun wc => Below yc19.heap.size yc19 wc)
        case first => as_aux_lemma =>
          have F := Hd (F.out.add (Below.refl yc19.heap.size yc19) (fun _ _ a b => belowTo a b))
          by_cases hk : m2 = 0
          · obtain ⟨f, f2, f3⟩ := HE7.out hk
            have ht : s = ⟨(fracText r2 u2).toArray⟩ := by rw [f2]
            have G := Hd (fun (V : World) (A B : Option Addr) (c e0 : Nat) (h : Raw V A c (natL r2.natAbs)) (g : Raw V B e0 (natL u2.natAbs)) (T : powTab V) => frac_Text_good r2 u2 s A B c e0 V h g T f.num f.den f.chk ht f3)
            have G2 := fun (V : World) (A B : Option Addr) (c e0 : Nat) (h : Raw V A c (natL r2.natAbs)) (g : Raw V B e0 (natL u2.natAbs)) => frac_Check (decide (r2 < 0)) (decide (u2 < 0)) A B c e0 _ _ V h g
            rw [f.chk] at G2
            have G2 := Hd G2
            subst hk
            clear f f2 f3 ht HE7 HE5 HE8
            obtain ⟨-, V_y, -, -, -, HT, -⟩ := F.out.h
            obtain ⟨l_y, a_y, b_y, c_y, d_y, -, -, -, -⟩ := V_y.quad.facts
            go_wp2_with fail
            refine (G.out yc19 _ _ _ _ V_y.num V_y.den HT).mono ?_
            rintro e wx20 ⟨rfl, hb⟩
            have F := Hd (F.out.below hb)
            clear l_y a_y b_y c_y d_y HT V_y
            clear hb
            obtain ⟨-, V_y, -⟩ := F.out.h
            obtain ⟨l_y, a_y, b_y, c_y, d_y, -, -, -, -⟩ := V_y.quad.facts
            go_wp2_with fail
            refine (G2.out wx20 _ _ _ _ V_y.num V_y.den).mono ?_
            rintro e wx21 ⟨rfl, hb⟩
            have F := Hd (F.out.below hb)
            clear l_y a_y b_y c_y d_y V_y
            clear hb
            obtain ⟨HC0, -⟩ := F.out.h
            go_wp2_with fail
            go_meet
            case rel => exact HC0
          · have hk2 : decide (m2 = 0) = false := decide_eq_false hk
            clear HE5 HE8 HE7
            obtain ⟨HC0, -⟩ := F.out.h
            go_wp2_with fail
            go_meet
            case rel => exact HC0
        case rest =>
          have F := Hd (F.out.below hcut)
          clear hcut
          obtain ⟨yr22, E⟩ : ∃ Y, Y = wc := ⟨_, rfl⟩
          subst E
          obtain ⟨-, -, V_x, -⟩ := F.out.h
          obtain ⟨l_x, a_x, b_x, c_x, d_x, -, -, -, -⟩ := V_x.quad.facts
          go_wp2_with fail
          refine (H8.out yr22 A B c e0 V_x.num V_x.den).mono ?_
          rintro e wx23 ⟨v, rfl, hI, hb⟩
          obtain ⟨Ar23, cr23, Br23, er23, rfl, i1, i2, -⟩ := hI.form
          have hn := FV.new i1.rawAt i2.rawAt
          have ha := (Below.refl wx23.heap.size wx23).alloc (Nat.le_refl _) (.cells #[.bool (decide (N < 0)), .slice Ar23 (natL N.natAbs).length cr23, .bool (decide (D < 0)), .slice Br23 (natL D.natAbs).length er23] 27)
          have F := Hd (((F.out.below hb).below ha).add hn (fun _ _ => FV.below))
          clear l_x a_x b_x c_x d_x V_x
          clear hI i1 i2 hb hn ha
          go_upto_region 21 with fail
          obtain ⟨wy23, E⟩ : ∃ W, W = wx23.alloc (.cells #[.bool (decide (N < 0)), .slice Ar23 (natL N.natAbs).length cr23, .bool (decide (D < 0)), .slice Br23 (natL D.natAbs).length er23] 27) := ⟨_, rfl⟩
          obtain ⟨q23, hq⟩ : ∃ q, q = wx23.heap.size := ⟨_, rfl⟩
          rw [← E, ← hq] at F ⊢
          clear E hq
          by_cases hk : K = 0
          · obtain ⟨n, d, f, rfl, rfl, rfl, rfl, e1, e2, f9⟩ := HE8.out hk
            have HF := Hd f
            have HQ := Hd (And.intro e1 (And.intro e2 f9))
            subst hk
            clear f f9 e1 e2 HE8 HE7 HE5
            by_cases hn : n < 0
            · obtain ⟨m1, hm1⟩ : ∃ k : Int, k = (n.natAbs : Int) := ⟨_, rfl⟩
              have G := Hd (fun (V : World) (A B : Option Addr) (c e0 : Nat) (h : Raw V A c (natL N.natAbs)) (g : Raw V B e0 (natL D.natAbs)) => root_back HF.out HQ.out.1 HQ.out.2.1 HQ.out.2.2 hm1 A B c e0 V h g)
              have fa := fine_abs HF.out
              rw [← hm1] at fa
              obtain ⟨z, o, c1, c2⟩ := sub_two HF.out hn hm1
              have C1 := Hd c1
              have C2 := Hd c2
              obtain ⟨sr, hsr⟩ : ∃ k : Int, k = m1.sign := ⟨_, rfl⟩
              have g1 : decide (sr < 0) = false := decide_eq_false (by have := Int.sign_nonneg_iff.2 (show 0 ≤ m1 by omega); omega)
              have G2 := Hd (fun (V : World) (A B : Option Addr) (c e0 : Nat) (h : Raw V A c (natL m1.natAbs)) (g : Raw V B e0 (natL d.natAbs)) => frac_Sign_good m1 d sr A B c e0 V h g fa.chk hsr)
              have g2 : n.sign = -1 := Int.sign_eq_neg_one_iff_neg.2 hn
              have G3 := Hd (fun (V : World) (A B : Option Addr) (c e0 : Nat) (h : Raw V A c (natL n.natAbs)) (g : Raw V B e0 (natL d.natAbs)) => frac_Sign_good n d (-1) A B c e0 V h g HF.out.chk g2.symm)
              have HG1 := Hd g1
              clear c1 c2 hsr g1 g2 hm1 hn fa
              obtain ⟨V_q, -⟩ := F.out.h
              obtain ⟨l_q, a_q, b_q, c_q, d_q, -, -, -, -⟩ := V_q.quad.facts
              go_wp2_with fail
              refine (G.out wy23 _ _ _ _ V_q.num V_q.den).mono ?_
              rintro e wx24 ⟨v, rfl, hI, hb⟩
              obtain ⟨Ar24, cr24, Br24, er24, rfl, i1, i2, -⟩ := hI.form
              have hn := FV.new i1.rawAt i2.rawAt
              have ha := (Below.refl wx24.heap.size wx24).alloc (Nat.le_refl _) (.cells #[.bool (decide (m1 < 0)), .slice Ar24 (natL m1.natAbs).length cr24, .bool (decide (d < 0)), .slice Br24 (natL d.natAbs).length er24] 27)
              have F := Hd (((F.out.below hb).below ha).add hn (fun _ _ => FV.below))
              clear l_q a_q b_q c_q d_q V_q
              clear hI i1 i2 hb hn ha
              go_upto_region 24 with fail
              obtain ⟨wy24, E⟩ : ∃ W, W = wx24.alloc (.cells #[.bool (decide (m1 < 0)), .slice Ar24 (natL m1.natAbs).length cr24, .bool (decide (d < 0)), .slice Br24 (natL d.natAbs).length er24] 27) := ⟨_, rfl⟩
              obtain ⟨q24, hq⟩ : ∃ q, q = wx24.heap.size := ⟨_, rfl⟩
              rw [← E, ← hq] at F ⊢
              clear E hq
              have g1 := HG1.out
              obtain ⟨V_r, -⟩ := F.out.h
              obtain ⟨l_r, a_r, b_r, c_r, d_r, -, -, -, -⟩ := V_r.quad.facts
              go_wp2_with fail
              refine (G2.out wy24 _ _ _ _ V_r.num V_r.den).mono ?_
              rintro e wx25 ⟨rfl, hb⟩
              have F := Hd (F.out.below hb)
              clear l_r a_r b_r c_r d_r V_r
              clear hb
              obtain ⟨-, -, -, -, V_x, -⟩ := F.out.h
              obtain ⟨l_x, a_x, b_x, c_x, d_x, -, -, -, -⟩ := V_x.quad.facts
              go_wp2_with fail
              refine (G3.out wx25 _ _ _ _ V_x.num V_x.den).mono ?_
              rintro e wx26 ⟨rfl, hb⟩
              have F := Hd (F.out.below hb)
              clear l_x a_x b_x c_x d_x V_x
              clear hb
              clear g1
              obtain ⟨V_r, -⟩ := F.out.h
              obtain ⟨l_r, a_r, b_r, c_r, d_r, -, -, -, -⟩ := V_r.quad.facts
              go_wp2_with fail
              refine (C1.out wx26 _ _ _ _ _ _ _ _ V_r.num V_r.den V_r.num V_r.den).mono ?_
              rintro e wx27 ⟨v, rfl, hI, hb⟩
              obtain ⟨Ar27, cr27, Br27, er27, rfl, i1, i2, -⟩ := hI.form
              have hn := FV.new i1.rawAt i2.rawAt
              have ha := (Below.refl wx27.heap.size wx27).alloc (Nat.le_refl _) (.cells #[.bool (decide (z < 0)), .slice Ar27 (natL z.natAbs).length cr27, .bool (decide (o < 0)), .slice Br27 (natL o.natAbs).length er27] 27)
              have F := Hd (((F.out.below hb).below ha).add hn (fun _ _ => FV.below))
              clear l_r a_r b_r c_r d_r V_r
              clear hI i1 i2 hb hn ha
              go_upto_region 28 with fail
              obtain ⟨wy27, E⟩ : ∃ W, W = wx27.alloc (.cells #[.bool (decide (z < 0)), .slice Ar27 (natL z.natAbs).length cr27, .bool (decide (o < 0)), .slice Br27 (natL o.natAbs).length er27] 27) := ⟨_, rfl⟩
              obtain ⟨q27, hq⟩ : ∃ q, q = wx27.heap.size := ⟨_, rfl⟩
              rw [← E, ← hq] at F ⊢
              clear E hq
              obtain ⟨V_n, V_r, -⟩ := F.out.h
              obtain ⟨l_n, a_n, b_n, c_n, d_n, -, -, -, -⟩ := V_n.quad.facts
              obtain ⟨l_r, a_r, b_r, c_r, d_r, -, -, -, -⟩ := V_r.quad.facts
              go_wp2_with fail
              refine (C2.out wy27 _ _ _ _ _ _ _ _ V_n.num V_n.den V_r.num V_r.den).mono ?_
              rintro e wx28 ⟨v, rfl, hI, hb⟩
              obtain ⟨Ar28, cr28, Br28, er28, rfl, i1, i2, -⟩ := hI.form
              have hn := FV.new i1.rawAt i2.rawAt
              have ha := (Below.refl wx28.heap.size wx28).alloc (Nat.le_refl _) (.cells #[.bool (decide (n < 0)), .slice Ar28 (natL n.natAbs).length cr28, .bool (decide (d < 0)), .slice Br28 (natL d.natAbs).length er28] 27)
              have F := Hd (((F.out.below hb).below ha).add hn (fun _ _ => FV.below))
              clear l_n a_n b_n c_n d_n l_r a_r b_r c_r d_r V_n V_r
              clear hI i1 i2 hb hn ha
              go_upto_region 29 with fail
              obtain ⟨wy28, E⟩ : ∃ W, W = wx28.alloc (.cells #[.bool (decide (n < 0)), .slice Ar28 (natL n.natAbs).length cr28, .bool (decide (d < 0)), .slice Br28 (natL d.natAbs).length er28] 27) := ⟨_, rfl⟩
              obtain ⟨q28, hq⟩ : ∃ q, q = wx28.heap.size := ⟨_, rfl⟩
              rw [← E, ← hq] at F ⊢
              clear E hq
              obtain ⟨V_m, -, -, -, -, -, V_x, -⟩ := F.out.h
              obtain ⟨l_m, a_m, b_m, c_m, d_m, -, -, -, -⟩ := V_m.quad.facts
              obtain ⟨l_x, a_x, b_x, c_x, d_x, -, -, -, -⟩ := V_x.quad.facts
              go_wp2_with fail
              refine (sameFrac_true _ _ n d wy28 V_m.at_ ⟨_, _, _, _, rfl, V_x.num, V_x.den⟩).mono ?_
              rintro e wx29 ⟨rfl, hb⟩
              have F := Hd (F.out.below hb)
              clear l_m a_m b_m c_m d_m l_x a_x b_x c_x d_x V_m V_x
              clear hb
              obtain ⟨-, -, -, -, -, -, -, -, HT, -⟩ := F.out.h
              go_wp2_with fail
              refine (lives_ours wx29 HT).mono ?_
              rintro e wx30 ⟨rfl, hb⟩
              have F := Hd (F.out.below hb)
              clear HT
              clear hb
              obtain ⟨-, -, -, -, -, -, -, -, -, HB⟩ := F.out.h
              go_wp2_with fail
              go_ret
              exact ⟨rfl, HB⟩
            · have hm1 : n = (n.natAbs : Int) := by omega
              have G := Hd (fun (V : World) (A B : Option Addr) (c e0 : Nat) (h : Raw V A c (natL N.natAbs)) (g : Raw V B e0 (natL D.natAbs)) => root_back HF.out HQ.out.1 HQ.out.2.1 HQ.out.2.2 hm1 A B c e0 V h g)
              obtain ⟨sr, hsr⟩ : ∃ k : Int, k = n.sign := ⟨_, rfl⟩
              have g1 : decide (sr < 0) = false := decide_eq_false (by have := Int.sign_nonneg_iff.2 (show 0 ≤ n by omega); omega)
              have G2 := Hd (fun (V : World) (A B : Option Addr) (c e0 : Nat) (h : Raw V A c (natL n.natAbs)) (g : Raw V B e0 (natL d.natAbs)) => frac_Sign_good n d sr A B c e0 V h g HF.out.chk hsr)
              have HG1 := Hd g1
              clear hsr g1 hm1 hn
              obtain ⟨V_q, -⟩ := F.out.h
              obtain ⟨l_q, a_q, b_q, c_q, d_q, -, -, -, -⟩ := V_q.quad.facts
              go_wp2_with fail
              refine (G.out wy23 _ _ _ _ V_q.num V_q.den).mono ?_
              rintro e wx31 ⟨v, rfl, hI, hb⟩
              obtain ⟨Ar31, cr31, Br31, er31, rfl, i1, i2, -⟩ := hI.form
              have hn := FV.new i1.rawAt i2.rawAt
              have ha := (Below.refl wx31.heap.size wx31).alloc (Nat.le_refl _) (.cells #[.bool (decide (n < 0)), .slice Ar31 (natL n.natAbs).length cr31, .bool (decide (d < 0)), .slice Br31 (natL d.natAbs).length er31] 27)
              have F := Hd (((F.out.below hb).below ha).add hn (fun _ _ => FV.below))
              clear l_q a_q b_q c_q d_q V_q
              clear hI i1 i2 hb hn ha
              go_upto_region 24 with fail
              obtain ⟨wy31, E⟩ : ∃ W, W = wx31.alloc (.cells #[.bool (decide (n < 0)), .slice Ar31 (natL n.natAbs).length cr31, .bool (decide (d < 0)), .slice Br31 (natL d.natAbs).length er31] 27) := ⟨_, rfl⟩
              obtain ⟨q31, hq⟩ : ∃ q, q = wx31.heap.size := ⟨_, rfl⟩
              rw [← E, ← hq] at F ⊢
              clear E hq
              have g1 := HG1.out
              obtain ⟨V_r, -⟩ := F.out.h
              obtain ⟨l_r, a_r, b_r, c_r, d_r, -, -, -, -⟩ := V_r.quad.facts
              go_wp2_with fail
              refine (G2.out wy31 _ _ _ _ V_r.num V_r.den).mono ?_
              rintro e wx32 ⟨rfl, hb⟩
              have F := Hd (F.out.below hb)
              clear l_r a_r b_r c_r d_r V_r
              clear hb
              obtain ⟨-, -, -, -, V_x, -⟩ := F.out.h
              obtain ⟨l_x, a_x, b_x, c_x, d_x, -, -, -, -⟩ := V_x.quad.facts
              go_wp2_with fail
              refine (G2.out wx32 _ _ _ _ V_x.num V_x.den).mono ?_
              rintro e wx33 ⟨rfl, hb⟩
              have F := Hd (F.out.below hb)
              clear l_x a_x b_x c_x d_x V_x
              clear hb
              obtain ⟨V_r, -, -, -, V_x, -⟩ := F.out.h
              obtain ⟨l_r, a_r, b_r, c_r, d_r, -, -, -, -⟩ := V_r.quad.facts
              obtain ⟨l_x, a_x, b_x, c_x, d_x, -, -, -, -⟩ := V_x.quad.facts
              go_wp2_with fail
              refine (sameFrac_true _ _ n d wx33 V_r.at_ ⟨_, _, _, _, rfl, V_x.num, V_x.den⟩).mono ?_
              rintro e wx34 ⟨rfl, hb⟩
              have F := Hd (F.out.below hb)
              clear l_r a_r b_r c_r d_r l_x a_x b_x c_x d_x V_r V_x
              clear hb
              obtain ⟨-, -, -, -, -, -, HT, -⟩ := F.out.h
              go_wp2_with fail
              refine (lives_ours wx34 HT).mono ?_
              rintro e wx35 ⟨rfl, hb⟩
              have F := Hd (F.out.below hb)
              clear HT
              clear hb
              obtain ⟨-, -, -, -, -, -, -, HB⟩ := F.out.h
              go_wp2_with fail
              go_ret
              exact ⟨rfl, HB⟩
          · have hk2 : decide (K = 0) = false := decide_eq_false hk
            clear HE8 HE7 HE5
            obtain ⟨-, -, -, -, -, HT, -⟩ := F.out.h
            go_wp2_with fail
            refine (lives_ours wy23 HT).mono ?_
            rintro e wx36 ⟨rfl, hb⟩
            have F := Hd (F.out.below hb)
            clear HT
            clear hb
            obtain ⟨-, -, -, -, -, -, HB⟩ := F.out.h
            go_wp2_with fail
            go_ret
            exact ⟨rfl, HB⟩
end Go.Proofs.YtipmkkobdbgphaaGreatDoor
