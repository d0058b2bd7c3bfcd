/- Several texts in one: ERead, RFromFloat, TreesR, Below. -/
import Derived.Test.YtipmkkobdbgphaaGreatDoorPf31
import Derived.Test.YtipmkkobdbgphaaGreatDoorPfHd
import Derived.Test.YtipmkkobdbgphaaGreatDoorPf32
import Derived.Test.YtipmkkobdbgphaaGreatDoorPf28
import Derived.Test.YtipmkkobdbgphaaGreatDoorPf14
import Derived.Test.YtipmkkobdbgphaaGreatDoorPf29
import Derived.Test.YtipmkkobdbgphaaGreatDoorPf18
import Derived.Test.YtipmkkobdbgphaaGreatDoorPf12
import Derived.Deep.CutBlock
import Derived.Test.YtipmkkobdbgphaaGreatDoorPf19
set_option maxRecDepth 100000
set_option maxHeartbeats 8000000
/- Whole of package ratio and of the references; Read of package ratio. (Written by wip/frac/genread.py.) -/
namespace Go.Proofs.YtipmkkobdbgphaaGreatDoor
open Go.RowKit

theorem ZQ.zero (w : World) (base : Nat) : ZQ w base (.agg #[.bool false, .slice none 0 0, .bool false, .slice none 0 0]) 0 0 := ⟨none, 0, none, 0, rfl, Zc.nought _ _, Zc.nought _ _⟩
def RetReadF (w : World) (o : Option (Int × Int)) (e : Ending) (w' : World) : Prop := ∃ n d, RetFracB w n d o.isSome e w' ∧ ∀ p, o = some p → p = (n, d)
def RetZB (w : World) (z : Int) (b : Bool) (e : Ending) (w' : World) : Prop := ∃ v, e = .returned (.tuple #[v, .bool b]) ∧ Zc w' w.heap.size v z ∧ Below w.heap.size w w'

theorem YI (z one : Int) (A : Option Addr) (c : Nat) (w : World) (h_z : Zh w A c (Za z.natAbs)) (o_z : Zc w 0 (.agg #[.bool (decide (z < 0)), .slice A (Za z.natAbs).length c]) z) (h1 : one = 1) :
   Calls Tryz.prog 132 #[.agg #[.bool (decide (z < 0)), .slice A (Za z.natAbs).length c]] w (Z6 w z one) := by
 have OW := Hd o_z
 have H1 := Hd h1
 clear o_z h1
 have b0 := (((Below.refl w.heap.size w).alloc (Nat.le_refl _) (.cells #[.bool (decide (z < 0)), .slice A (Za z.natAbs).length c] 25)).alloc (by simp) (.cells #[.bool false, .slice none 0 0, .bool false, .slice none 0 0] 27))
 have p0 := (Zi.new w 25 (.bool (decide (z < 0))) (.slice A (Za z.natAbs).length c)).alloc (.cells #[.bool false, .slice none 0 0, .bool false, .slice none 0 0] 27)
 have p1 := Zv.new (w.alloc (.cells #[.bool (decide (z < 0)), .slice A (Za z.natAbs).length c] 25)) (.bool false) (.slice none 0 0) (.bool false) (.slice none 0 0)
 simp only [World.size_alloc] at p1
 have V_z := Hd (NV.of h_z b0 p0)
 have P_r0 := Hd p1
 have RW_z := Hd h_z
 have HBW := Hd b0
 clear b0 p0 p1 h_z
 go_enter Tryz.func132, Tryz.ntmps132
 obtain ⟨W, E⟩ : ∃ W, W = ((w.alloc (.cells #[.bool (decide (z < 0)), .slice A (Za z.natAbs).length c] 25)).alloc (.cells #[.bool false, .slice none 0 0, .bool false, .slice none 0 0] 27)) := ⟨_, rfl⟩
 go_upto_region 1 with fail
 rw [← E] at V_z P_r0 HBW ⊢
 clear E
 have hszr := P_r0.out.blk.lt
 have O_z := Hd (OW.out.below HBW.out)
 clear OW
 go_wp2_with fail
 refine Ze [.val (.agg #[.bool (decide (z < 0)), .slice A (Za z.natAbs).length c]) [], .any false (fun u V => Zc V 0 u one) [], .any false (fun u V => ZQ V 0 u z one) [1], .old (w.heap.size + 1) 27 #[.bool false, .slice none 0 0, .bool false, .slice none 0 0] 0 4 2 []] (w.heap.size + 1) W [27] XM _ Zd (by have := P_r0.out.blk.lt; omega) (Below.refl _ _) (Zo.refl _ _ _) rfl (by kernel_rfl) (by kernel_rfl) (by kernel_rfl) (by kernel_rfl) (by kernel_rfl) (by kernel_rfl) (by kernel_rfl) (by kernel_rfl) rfl (by simp [ZL]) ?_ ?_ ?_ ?_
 · simp only [Zr, and_true]
   exact ⟨fun u V V' h k => h.kept k (by decide), fun u V V' h k => h.kept k (by decide)⟩
 · simp only [ZP, and_true]
   exact ⟨Nat.le_refl _, P_r0.out.blk.lt, P_r0.out.blk, by simp⟩
 · simp (maxSteps := 4000000) [ZA, Z9, Zf, Zs, Zj]
   repeat' (first | apply And.intro | (intro (u : Value)) | (intro (u : Nat)))
   all_goals try exact ⟨_, _, _, rfl, rfl, rfl, rfl, Xc⟩
   all_goals first
   | (intro V hV hK
      obtain ⟨-, a_z, b_z, -, -⟩ := (Zi.mk (hK.blk V_z.out.pair.blk (by decide))).facts
      clear hV hK
      go_simp
      first
      | exact Below.refl _ _
      | ((with_reducible refine (rof 1 one H1.out (by decide) (by decide) V).mono ?_); rintro e w' ⟨v, rfl, hv, hb⟩; exact ⟨hv.base (Nat.zero_le _), hb⟩))
   | (intro V hV hK h1
      have oz := O_z.out.kept hK (by decide)
      obtain ⟨A6, c6, rfl, -⟩ := h1.raw
      clear hV hK
      go_simp
      exact ⟨⟨_, _, _, _, rfl, oz, h1⟩, Below.refl _ _⟩)
   | exact fun _ _ _ (h : ZQ _ _ _ _ _) => h.cells
 · simp [Yd, ZC, Zf, Zs, Zj]
   intro u1 u2 V hV hK h1 h2 bq _ _ _
   have HF := Hd h2
   obtain ⟨A6, c6, A7, c7, rfl, -⟩ := h2.form
   simp [Yb, Value.cells] at bq
   have k0 := bq.cell 0
   have k1 := bq.cell 1
   have k2 := bq.cell 2
   have k3 := bq.cell 3
   simp at k0 k1 k2 k3
   have HB9 := Hd (HBW.out.trans (hV.mono (by omega)))
   clear h1 h2 hV hK bq
   go_wp2_with fail
   exact bodyPost_ret (by simp [results, Tryz.results132, go_sem, k0, k1, k2, k3]) rfl ⟨_, rfl, HF.out, HB9.out⟩

/- FromFloat of the references of chapter 02. (Written by wip/frac/genrfromfloat.py.) -/

theorem rdouble_nil (n1 : Bool) (A : Option Addr) (c : Nat) (k : Int) (xs : List Nat) (w : World) (h_x : Zh w A c xs) (hl : xs.length = 0) :
   Calls Tryz.prog 133 #[.agg #[.bool n1, .slice A xs.length c], .int .i64 k] w (Zw w.heap.size w 0) := by
 have hl2 : ((xs.length : Int) == 0) = true := by rw [hl]; rfl
 clear hl
 have b0 := (((Below.refl w.heap.size w).alloc (Nat.le_refl _) (.cells #[.bool n1, .slice A xs.length c] 25)).alloc (by simp) (.cells #[.bool false, .slice none 0 0] 25))
 have p0 := (Zi.new w 25 (.bool n1) (.slice A xs.length c)).alloc (.cells #[.bool false, .slice none 0 0] 25)
 have p1 := Zi.new (w.alloc (.cells #[.bool n1, .slice A xs.length c] 25)) 25 (.bool false) (.slice none 0 0)
 simp only [World.size_alloc] at p1
 have V_x := Hd (NR.of h_x b0 p0)
 have P_r0 := Hd p1
 have RW_x := Hd h_x
 have HBW := Hd b0
 clear b0 p0 p1 h_x
 go_enter Tryz.func133, Tryz.ntmps133
 obtain ⟨W, E⟩ : ∃ W, W = ((w.alloc (.cells #[.bool n1, .slice A xs.length c] 25)).alloc (.cells #[.bool false, .slice none 0 0] 25)) := ⟨_, rfl⟩
 go_upto_region 1 with fail
 rw [← E] at V_x P_r0 HBW ⊢
 clear E
 obtain ⟨l_x, a_x, b_x, -, -⟩ := V_x.out.pair.facts
 obtain ⟨l_r0, a_r0, b_r0, f_r0, g_r0⟩ := P_r0.out.facts
 have HQ := Hd (P_r0.out.store (.bool false) (.slice none 0 0))
 have HB := Hd (ZE HBW.out (show w.heap.size ≤ w.heap.size + 1 by omega) (.bool false) (.slice none 0 0))
 have hq0 := HQ.out.facts
 go_wp2_with fail
 obtain ⟨_, k0, k1, _, _⟩ := HQ.out.facts
 exact bodyPost_ret (by simp [results, Tryz.results133, go_sem, k0, k1]) rfl ⟨_, rfl, Zc.nought _ _, HB.out⟩

theorem YJ (x z k : Int) (A : Option Addr) (c : Nat) (w : World) (h : Zh w A c (Za x.natAbs)) (hx : lz x ≤ 1000000) (hk0 : 0 ≤ k) (hk : k ≤ 1048576) (hz : z = x * ((2 ^ k.toNat : Nat) : Int)) :
   Calls Tryz.prog 133 #[.agg #[.bool (decide (x < 0)), .slice A (Za x.natAbs).length c], .int .i64 k] w (Zw w.heap.size w z) := by
 by_cases hx0 : x = 0
 · subst hx0
   rw [hz, Int.zero_mul]
   exact rdouble_nil _ A c k _ w h rfl
 · exact rdouble x z k A c w h hx hx0 hk0 hk hz
theorem flt_gen {v e : Nat} {a : Int} (h : YS v = a * (p2 e : Nat)) : (1074 ≤ e → XD v = a * (p2 (e - 1074) : Nat) ∧ XE v = 1) ∧ (e < 1074 → a % 2 = 1 → XD v = a ∧ XE v = (p2 (1074 - e) : Nat)) ∧ (a = 0 → XD v = 0 ∧ XE v = 1) := by
 refine ⟨fun h1 => ?_, fun h1 h2 => ?_, fun h1 => ?_⟩
 · exact low_pow (s := YS v) (a := a * (p2 (e - 1074) : Nat)) (t := 0) (K := 1074) (.inl rfl) (by
     rw [h, p2_zero, show e = e - 1074 + 1074 by omega, YO, show e - 1074 + 1074 - 1074 = e - 1074 by omega]
     simp only [Int.natCast_mul, Int.mul_assoc]
     simp)
 · exact low_pow (s := YS v) (a := a) (t := 1074 - e) (K := 1074) (.inr h2) (by
     rw [h, Int.mul_assoc, ← Int.natCast_mul, ← YO, show e + (1074 - e) = 1074 by omega])
 · exact low_pow (s := YS v) (a := 0) (t := 0) (K := 1074) (.inl rfl) (by rw [h, h1]; simp)

theorem rf_nm (v : Nat) (vi M X m e : Int) (w : World)  (v1 : (v : Int) = vi) (_ : 0 ≤ vi) (_ : 0 ≤ M) (_ : M < 4503599627370496) (_ : 0 ≤ X) (_ : X < 2048) (_ : bits BinOp.and IntKind.u64 vi 4503599627370495 = M) (_ : bits BinOp.and IntKind.u64 (vi / 4503599627370496) 2047 = X) (_ : 0 < X) (_ : M + 4503599627370496 = m) (_ : X - 1 = e) (m0 : 0 ≤ m) (m1 : m < 9007199254740992) (e0 : 0 ≤ e) (e1 : e < 2047) (g6 : vi / 9223372036854775808 = 1) (hv : YS v = -(m * (p2 e.toNat : Nat))) :
   Calls Tryz.prog 46 #[.float .f64 v] w (Z6 w (XD v) (XE v)) := by
 have h1 := Jz v
 rw [v1] at h1
 have HV := Hd hv
 clear hv
 have b0 := ((Below.refl w.heap.size w).alloc (Nat.le_refl _) (.cells #[.bool false, .slice none 0 0, .bool false, .slice none 0 0] 27))
 have p0 := Zv.new w (.bool false) (.slice none 0 0) (.bool false) (.slice none 0 0)
 have P_r0 := Hd p0
 have HBW := Hd b0
 clear b0 p0 
 go_enter Tryz.func46, Tryz.ntmps46
 obtain ⟨W, E⟩ : ∃ W, W = (w.alloc (.cells #[.bool false, .slice none 0 0, .bool false, .slice none 0 0] 27)) := ⟨_, rfl⟩
 go_upto_region 1 with fail
 rw [← E] at P_r0 HBW ⊢
 clear E
 go_upto_block 0 with fail
 have G6 := Hd g6
 go_cut [4, 5] from 22 to 36 (fun s4 s5 wc => ∃ a b : Int, s4 = .int .i64 a ∧ s5 = .int .i64 b ∧ 0 ≤ a ∧ a < 9007199254740992 ∧ 0 ≤ b ∧ b < 2047 ∧ Hid (a * (p2 b.toNat : Nat) = m * (p2 e.toNat : Nat)) ∧ Hid (1074 ≤ b ∨ a = 0 ∨ a % 2 = 1) ∧ wc = W)
 case first =>
   clear HV G6
   go_wp2_with fail
   go_loop [4, 5] (fun s4 s5 => ∃ a b : Int, s4 = .int .i64 a ∧ s5 = .int .i64 b ∧ 0 ≤ a ∧ a < 9007199254740992 ∧ 0 ≤ b ∧ b < 2047 ∧ Hid (a * (p2 b.toNat : Nat) = m * (p2 e.toNat : Nat))) (fun _ s5 => 2047 - (intOf s5).toNat)
   case atStart => exact ⟨m, _, rfl, rfl, m0, m1, e0, e1, Hd rfl⟩
   case round =>
     obtain ⟨a, b, rfl, rfl, a0, a1, b0, b1, HR⟩ := hrel
     by_cases hb : b < 1074
     · by_cases ha : 0 < a
       · have hmod : a.tmod 2 = a % 2 := Int.tmod_eq_emod_of_nonneg a0
         have hdiv : a.tdiv 2 = a / 2 := Int.tdiv_eq_ediv_of_nonneg a0
         by_cases hp : a % 2 = 0
         · have hq : 0 ≤ a / 2 ∧ a / 2 < 9007199254740992 := by omega
           have HN := Hd (show a / 2 * (p2 (b + 1).toNat : Nat) = m * (p2 e.toNat : Nat) from by
             rw [← HR.out, show (b + 1).toNat = b.toNat + 1 by omega, p2_succ, Int.natCast_mul, ← Int.mul_assoc, show a / 2 * ((2 : Nat) : Int) = a by omega])
           obtain ⟨q0, q1⟩ := hq
           clear HR
           go_wp2_with fail
           go_round
           case rel => exact ⟨a / 2, b + 1, rfl, rfl, q0, q1, by omega, by omega, HN⟩
           case measure => simp [intOf]; omega
         · have hp1 : a % 2 = 1 := by omega
           have HX := Hd (show 1074 ≤ b ∨ a = 0 ∨ a % 2 = 1 from .inr (.inr hp1))
           clear hp
           go_wp2_with fail
           go_meet
           case rel => exact ⟨a, b, rfl, rfl, a0, a1, b0, b1, HR, HX, rfl⟩
       · have HX := Hd (show 1074 ≤ b ∨ a = 0 ∨ a % 2 = 1 from .inr (.inl (by omega)))
         go_wp2_with fail
         go_meet
         case rel => exact ⟨a, b, rfl, rfl, a0, a1, b0, b1, HR, HX, rfl⟩
     · have HX := Hd (show 1074 ≤ b ∨ a = 0 ∨ a % 2 = 1 from .inl (by omega))
       go_wp2_with fail
       go_meet
       case rel => exact ⟨a, b, rfl, rfl, a0, a1, b0, b1, HR, HX, rfl⟩
 case rest =>
   obtain ⟨a, b, h4, h5, a0, a1, b0, b1, HR, HX, hw⟩ := hcut
   subst h4 h5 hw
   obtain ⟨W, hW⟩ : ∃ Y, Y = wc := ⟨_, rfl⟩
   subst hW
   obtain ⟨mm, hmm⟩ : ∃ z : Int, z = -a := ⟨_, rfl⟩
   obtain ⟨one, hone⟩ : ∃ z : Int, z = 1 := ⟨_, rfl⟩
   have HMM := Hd hmm
   have HONE := Hd hone
   have HG := Hd (flt_gen (v := v) (e := b.toNat) (a := mm) (by rw [HV.out, hmm, Int.neg_mul, HR.out]))
   have hla : lz a ≤ 1000 := Nat.le_trans (Xf (show a.natAbs ≤ (9007199254740992 : Int).natAbs by omega)) (by decide)
   have hlm : lz mm ≤ 1000 := Nat.le_trans (Xf (show mm.natAbs ≤ (9007199254740992 : Int).natAbs by omega)) (by decide)
   clear HV HR hmm hone m0 m1 e0 e1
   have hsz := P_r0.out.blk.lt
   go_wp2_with fail
   refine (rof a a rfl (by omega) (by omega) W).mono ?_
   rintro e x1 ⟨v2, rfl, hI, hb⟩
   obtain ⟨A1, c1, rfl, r1⟩ := hI.raw
   have hI0 := hI.base (Nat.zero_le _)
   have hszg := hb.size
   have P_r0 := Hd (P_r0.out.below hb)
   have HBW := Hd (Zb HBW.out hb)
   have R_n := Hd r1
   clear hb r1
   have O_n := Hd hI0
   clear hI hI0
   go_upto_region 11 with fail
   have ha := ((Below.refl x1.heap.size x1).alloc (Nat.le_refl _) (.cells #[.bool (decide (a < 0)), .slice A1 (Za a.natAbs).length c1] 25))
   have p_n := (Zi.new x1 25 (.bool (decide (a < 0))) (.slice A1 (Za a.natAbs).length c1))
   obtain ⟨y2, E⟩ : ∃ W, W = (x1.alloc (.cells #[.bool (decide (a < 0)), .slice A1 (Za a.natAbs).length c1] 25)) := ⟨_, rfl⟩
   rw [← E] at ha p_n ⊢
   have V_n := Hd (NV.of R_n.out ha p_n)
   have P_r0 := Hd (P_r0.out.below ha)
   have O_n := Hd (O_n.out.below ha)
   have HBW := Hd (Zb HBW.out ha)
   obtain ⟨g2, hg⟩ : ∃ g, g = x1.heap.size := ⟨_, rfl⟩
   rw [← hg] at V_n ⊢
   have hge2 : x1.heap.size ≤ g2 := by omega
   clear E ha hg p_n
   have g6 := G6.out
   obtain ⟨l_n, a_n, b_n, -, -⟩ := V_n.out.pair.facts
   go_wp2_with fail
   refine (rturned a mm A1 c1 y2 V_n.out.raw (by omega) HMM.out).mono ?_
   rintro e9 x3 ⟨v3, rfl, hI, hb⟩
   obtain ⟨A2, c2, rfl, -⟩ := hI.raw
   clear l_n a_n b_n
   have V_n := Hd (V_n.out.below hb)
   have P_r0 := Hd (P_r0.out.below hb)
   have O_n := Hd (O_n.out.below hb)
   have HBW := Hd (Zb HBW.out hb)
   have O_m := Hd (hI.base (Nat.zero_le _))
   clear hb hI
   obtain ⟨l_s, a_s, b_s, f_s, g_s⟩ := V_n.out.pair.facts
   have M_n := V_n.out.pair.store (.bool (decide (mm < 0))) (.slice A2 (Za mm.natAbs).length c2)
   have Q_O_m := O_m.out.pairT V_n.out.pair (.bool (decide (mm < 0))) (.slice A2 (Za mm.natAbs).length c2)
   have F_P_r0 : Zv _ _ _ _ _ _ := ⟨P_r0.out.blk.far2 (show w.heap.size ≠ g2 by omega) (.bool (decide (mm < 0))) (.slice A2 (Za mm.natAbs).length c2)⟩
   have HB9 := ZE HBW.out (show w.heap.size ≤ g2 by omega) (.bool (decide (mm < 0))) (.slice A2 (Za mm.natAbs).length c2)
   have hgrow : x3.heap.size ≤ (((x3).setCell ⟨g2, 0, none⟩ (.bool (decide (mm < 0)))).setCell ⟨g2, 1, none⟩ (.slice A2 (Za mm.natAbs).length c2)).heap.size := by simp
   go_upto_region 13 with fail
   obtain ⟨y4, E⟩ : ∃ W, W = (((x3).setCell ⟨g2, 0, none⟩ (.bool (decide (mm < 0)))).setCell ⟨g2, 1, none⟩ (.slice A2 (Za mm.natAbs).length c2)) := ⟨_, rfl⟩
   rw [← E] at M_n Q_O_m F_P_r0 HB9 hgrow ⊢
   clear E l_s a_s b_s f_s g_s
   have HBW := Hd HB9
   have O_m := Hd Q_O_m
   have V_n := Hd (show NV y4 (g2) mm A2 c2 from ⟨M_n, O_m.out.rawAt⟩)
   have P_r0 := Hd F_P_r0
   clear HB9 M_n Q_O_m F_P_r0
   clear g6
   by_cases hwh : a = 0 ∨ 1074 ≤ b
   · obtain ⟨t, ht⟩ : ∃ t : Int, t = max (b - 1074) 0 := ⟨_, rfl⟩
     have ht0 : 0 ≤ t ∧ t ≤ 1000 := by omega
     obtain ⟨D, hD⟩ : ∃ z : Int, z = mm * ((2 ^ t.toNat : Nat) : Int) := ⟨_, rfl⟩
     have HRES := Hd (show XD v = D ∧ XE v = one from by
       rw [HONE.out]
       rcases hwh with h | h
       · have h2 : mm = 0 := by rw [HMM.out, h]; rfl
         rw [hD, h2, Int.zero_mul]
         exact HG.out.2.2 h2
       · have h3 := HG.out.1 (by omega)
         rw [hD, show t.toNat = b.toNat - 1074 by omega]
         exact h3)
     have HDD := Hd hD
     obtain ⟨t0, t1⟩ := ht0
     have hmax : max (b - 1074) 0 = t := ht.symm
     have hor : ((a == 0) = true) ∨ ((a == 0) = false ∧ 1074 ≤ b) := by
       by_cases h : a = 0
       · exact .inl (by simpa using h)
       · exact .inr ⟨by simpa using h, by omega⟩
     clear hwh ht hD HX HG
     have HT0 := Hd (fun (V : World) (A : Option Addr) (c : Nat) (h : Zh V A c (Za mm.natAbs)) => YJ mm D t A c V h (by omega) t0 (by omega) HDD.out)
     rcases hor with h0 | ⟨h0, h1b⟩
     · skip
       obtain ⟨l_n, a_n, b_n, -, -⟩ := V_n.out.pair.facts
       go_wp2_with fail
       refine (HT0.out y4 A2 c2 V_n.out.raw).mono ?_
       rintro e x5 ⟨v4, rfl, hI, hb⟩
       have hI0 := hI.base (Nat.zero_le _)
       obtain ⟨A3, c3, rfl, r3⟩ := hI.raw
       clear l_n a_n b_n
       have V_n := Hd (V_n.out.below hb)
       have P_r0 := Hd (P_r0.out.below hb)
       have O_m := Hd (O_m.out.below hb)
       have HBW := Hd (Zb HBW.out hb)
       clear hb
       have O_D := Hd hI0
       have R_D := Hd r3
       clear hI hI0 r3
       go_wp2_with fail
       refine (YI D one A3 c3 x5 R_D.out O_D.out HONE.out).mono ?_
       rintro e x6 ⟨v5, rfl, hF, hb⟩
       obtain ⟨A4, c4, A5, c5, rfl, -⟩ := hF.form
       have V_n := Hd (V_n.out.below hb)
       have P_r0 := Hd (P_r0.out.below hb)
       have O_m := Hd (O_m.out.below hb)
       have O_D := Hd (O_D.out.below hb)
       have R_D := Hd (R_D.out.below hb)
       have HBW := Hd (Zb HBW.out hb)
       clear hb
       have HF := Hd hF
       clear hF
       obtain ⟨l_r0, a_r0, b_r0, f_r0, g_r0⟩ := P_r0.out.facts
       have HQ := Hd (P_r0.out.store (.bool (decide (D < 0))) (.slice A4 (Za D.natAbs).length c4) (.bool (decide (one < 0))) (.slice A5 (Za one.natAbs).length c5))
       have HB := Hd (Z1 HBW.out (show w.heap.size ≤ w.heap.size by omega) (.bool (decide (D < 0))) (.slice A4 (Za D.natAbs).length c4) (.bool (decide (one < 0))) (.slice A5 (Za one.natAbs).length c5))
       have HF9 := Hd (HF.out.quad P_r0.out (.bool (decide (D < 0))) (.slice A4 (Za D.natAbs).length c4) (.bool (decide (one < 0))) (.slice A5 (Za one.natAbs).length c5))
       go_wp2_with fail
       obtain ⟨_, k0, k1, k2, k3, _, _, _, _⟩ := HQ.out.facts
       exact bodyPost_ret (by simp [results, Tryz.results46, go_sem, k0, k1, k2, k3]) rfl ⟨.agg #[.bool (decide (D < 0)), .slice A4 (Za D.natAbs).length c4, .bool (decide (one < 0)), .slice A5 (Za one.natAbs).length c5], rfl, by rw [HRES.out.1, HRES.out.2]; exact HF9.out, HB.out⟩
     · skip
       obtain ⟨l_n, a_n, b_n, -, -⟩ := V_n.out.pair.facts
       go_wp2_with fail
       refine (HT0.out y4 A2 c2 V_n.out.raw).mono ?_
       rintro e x5 ⟨v4, rfl, hI, hb⟩
       have hI0 := hI.base (Nat.zero_le _)
       obtain ⟨A3, c3, rfl, r3⟩ := hI.raw
       clear l_n a_n b_n
       have V_n := Hd (V_n.out.below hb)
       have P_r0 := Hd (P_r0.out.below hb)
       have O_m := Hd (O_m.out.below hb)
       have HBW := Hd (Zb HBW.out hb)
       clear hb
       have O_D := Hd hI0
       have R_D := Hd r3
       clear hI hI0 r3
       go_wp2_with fail
       refine (YI D one A3 c3 x5 R_D.out O_D.out HONE.out).mono ?_
       rintro e x6 ⟨v5, rfl, hF, hb⟩
       obtain ⟨A4, c4, A5, c5, rfl, -⟩ := hF.form
       have V_n := Hd (V_n.out.below hb)
       have P_r0 := Hd (P_r0.out.below hb)
       have O_m := Hd (O_m.out.below hb)
       have O_D := Hd (O_D.out.below hb)
       have R_D := Hd (R_D.out.below hb)
       have HBW := Hd (Zb HBW.out hb)
       clear hb
       have HF := Hd hF
       clear hF
       obtain ⟨l_r0, a_r0, b_r0, f_r0, g_r0⟩ := P_r0.out.facts
       have HQ := Hd (P_r0.out.store (.bool (decide (D < 0))) (.slice A4 (Za D.natAbs).length c4) (.bool (decide (one < 0))) (.slice A5 (Za one.natAbs).length c5))
       have HB := Hd (Z1 HBW.out (show w.heap.size ≤ w.heap.size by omega) (.bool (decide (D < 0))) (.slice A4 (Za D.natAbs).length c4) (.bool (decide (one < 0))) (.slice A5 (Za one.natAbs).length c5))
       have HF9 := Hd (HF.out.quad P_r0.out (.bool (decide (D < 0))) (.slice A4 (Za D.natAbs).length c4) (.bool (decide (one < 0))) (.slice A5 (Za one.natAbs).length c5))
       go_wp2_with fail
       obtain ⟨_, k0, k1, k2, k3, _, _, _, _⟩ := HQ.out.facts
       exact bodyPost_ret (by simp [results, Tryz.results46, go_sem, k0, k1, k2, k3]) rfl ⟨.agg #[.bool (decide (D < 0)), .slice A4 (Za D.natAbs).length c4, .bool (decide (one < 0)), .slice A5 (Za one.natAbs).length c5], rfl, by rw [HRES.out.1, HRES.out.2]; exact HF9.out, HB.out⟩
   · have hbl : ¬ 1074 ≤ b := fun h => hwh (.inr h)
     have ha0 : (a == 0) = false := by simp; omega
     obtain ⟨t, ht⟩ : ∃ t : Int, t = 1074 - b := ⟨_, rfl⟩
     obtain ⟨D, hD⟩ : ∃ z : Int, z = one * ((2 ^ t.toNat : Nat) : Int) := ⟨_, rfl⟩
     have HRES := Hd (show XD v = mm ∧ XE v = D from by
       have hx := HX.out
       have h3 := HG.out.2.1 (by omega) (by have := HMM.out; omega)
       rw [hD, HONE.out, Int.one_mul, show t.toNat = 1074 - b.toNat by omega]
       exact h3)
     have HDD := Hd hD
     have hsub : 1074 - b = t := ht.symm
     have t0 : 0 ≤ t := by omega
     have t1 : t ≤ 1074 := by omega
     have hwt : IntKind.i64.wrap t = t := by apply IntWalk.i64_in <;> omega
     clear hwh ht hD HX HG
     have hszr := P_r0.out.blk.lt
     go_upto_region 15 with fail
     go_wp2_with fail
     have hn9 := V_n.out.pair.blk.lt
     refine Ze [.val (.agg #[.bool (decide (mm < 0)), .slice A2 (Za mm.natAbs).length c2]) [], .any false (fun u V => Zc V 0 u one) [], .val (.int .i64 b) [], .val (.int .i64 t) [], .any false (fun u V => Zc V 0 u D) [1], .any false (fun u V => ZQ V 0 u mm D) [4], .old (w.heap.size) 27 #[.bool false, .slice none 0 0, .bool false, .slice none 0 0] 0 4 5 []] (w.heap.size) y4 [27] (fun _ _ => False) _ Zd (by omega) (Below.refl _ _) (Zo.refl _ _ _) rfl (by kernel_rfl) (by kernel_rfl) (by kernel_rfl) (by kernel_rfl) (by kernel_rfl) (by kernel_rfl) (by kernel_rfl) (by kernel_rfl) rfl (by simp [ZL]) ?_ ?_ ?_ ?_
     · simp only [Zr, and_true]
       exact ⟨fun u V V' h k => h.kept k (by decide), fun u V V' h k => h.kept k (by decide), fun u V V' h k => h.kept k (by decide)⟩
     · simp only [ZP, and_true]
       exact ⟨Nat.le_refl _, P_r0.out.blk.lt, P_r0.out.blk, by simp⟩
     · simp (maxSteps := 4000000) [ZA, Z9, Zf, Zs, Zj]
       repeat' (first | apply And.intro | (intro (u : Value)) | (intro (u : Nat)))
       all_goals try exact ⟨_, _, _, rfl, rfl, rfl, rfl, Xc⟩
       all_goals first
       | (intro V hV hK
          obtain ⟨-, a_n, b_n, -, -⟩ := (Zi.mk (hK.blk V_n.out.pair.blk (by decide))).facts
          clear hV hK
          go_simp
          first
          | exact Below.refl _ _
          | exact ⟨by first | rfl | decide | go_num, Below.refl _ _⟩
          | ((with_reducible refine (rof 1 one HONE.out (by decide) (by decide) V).mono ?_); rintro e w' ⟨v, rfl, hv, hb⟩; exact ⟨hv.base (Nat.zero_le _), hb⟩))
       | (intro V hV hK h1
          obtain ⟨A6, c6, rfl, r6⟩ := h1.raw
          have r7 := Hd r6
          clear hV hK h1 r6
          go_simp
          (with_reducible refine (YJ one D t A6 c6 V r7.out (by rw [HONE.out]; decide) t0 (by omega) HDD.out).mono ?_)
          rintro e w' ⟨v, rfl, hv, hb⟩
          exact ⟨hv.base (Nat.zero_le _), hb⟩)
       | (intro V hV hK h1
          have oz := O_m.out.kept hK (by decide)
          obtain ⟨A6, c6, rfl, -⟩ := h1.raw
          clear hV hK
          go_simp
          exact ⟨⟨_, _, _, _, rfl, oz, h1⟩, Below.refl _ _⟩)
       | exact fun _ _ _ (h : ZQ _ _ _ _ _) => h.cells
     · simp [Yd, ZC, Zf, Zs, Zj]
       intro u1 u2 u3 V hV hK h1 h2 h3 bq _ _ _
       have HF := Hd h3
       obtain ⟨A6, c6, A7, c7, rfl, -⟩ := h3.form
       simp [Yb, Value.cells] at bq
       have k0 := bq.cell 0
       have k1 := bq.cell 1
       have k2 := bq.cell 2
       have k3 := bq.cell 3
       simp at k0 k1 k2 k3
       have HB9 := Hd (HBW.out.trans (hV.mono (by omega)))
       clear h1 h2 h3 hV hK bq
       go_wp2_with fail
       exact bodyPost_ret (by simp [results, Tryz.results46, go_sem, k0, k1, k2, k3]) rfl ⟨.agg #[.bool (decide (mm < 0)), .slice A6 (Za mm.natAbs).length c6, .bool (decide (D < 0)), .slice A7 (Za D.natAbs).length c7], rfl, by rw [HRES.out.1, HRES.out.2]; exact HF.out, HB9.out⟩

theorem rf_np (v : Nat) (vi M X m e : Int) (w : World)  (v1 : (v : Int) = vi) (_ : 0 ≤ vi) (_ : 0 ≤ M) (_ : M < 4503599627370496) (_ : 0 ≤ X) (_ : X < 2048) (_ : bits BinOp.and IntKind.u64 vi 4503599627370495 = M) (_ : bits BinOp.and IntKind.u64 (vi / 4503599627370496) 2047 = X) (_ : 0 < X) (_ : M + 4503599627370496 = m) (_ : X - 1 = e) (m0 : 0 ≤ m) (m1 : m < 9007199254740992) (e0 : 0 ≤ e) (e1 : e < 2047) (g6 : vi / 9223372036854775808 = 0) (hv : YS v = (m * (p2 e.toNat : Nat))) :
   Calls Tryz.prog 46 #[.float .f64 v] w (Z6 w (XD v) (XE v)) := by
 have h1 := Jz v
 rw [v1] at h1
 have HV := Hd hv
 clear hv
 have b0 := ((Below.refl w.heap.size w).alloc (Nat.le_refl _) (.cells #[.bool false, .slice none 0 0, .bool false, .slice none 0 0] 27))
 have p0 := Zv.new w (.bool false) (.slice none 0 0) (.bool false) (.slice none 0 0)
 have P_r0 := Hd p0
 have HBW := Hd b0
 clear b0 p0 
 go_enter Tryz.func46, Tryz.ntmps46
 obtain ⟨W, E⟩ : ∃ W, W = (w.alloc (.cells #[.bool false, .slice none 0 0, .bool false, .slice none 0 0] 27)) := ⟨_, rfl⟩
 go_upto_region 1 with fail
 rw [← E] at P_r0 HBW ⊢
 clear E
 go_upto_block 0 with fail
 have G6 := Hd g6
 go_cut [4, 5] from 22 to 36 (fun s4 s5 wc => ∃ a b : Int, s4 = .int .i64 a ∧ s5 = .int .i64 b ∧ 0 ≤ a ∧ a < 9007199254740992 ∧ 0 ≤ b ∧ b < 2047 ∧ Hid (a * (p2 b.toNat : Nat) = m * (p2 e.toNat : Nat)) ∧ Hid (1074 ≤ b ∨ a = 0 ∨ a % 2 = 1) ∧ wc = W)
 case first =>
   clear HV G6
   go_wp2_with fail
   go_loop [4, 5] (fun s4 s5 => ∃ a b : Int, s4 = .int .i64 a ∧ s5 = .int .i64 b ∧ 0 ≤ a ∧ a < 9007199254740992 ∧ 0 ≤ b ∧ b < 2047 ∧ Hid (a * (p2 b.toNat : Nat) = m * (p2 e.toNat : Nat))) (fun _ s5 => 2047 - (intOf s5).toNat)
   case atStart => exact ⟨m, _, rfl, rfl, m0, m1, e0, e1, Hd rfl⟩
   case round =>
     obtain ⟨a, b, rfl, rfl, a0, a1, b0, b1, HR⟩ := hrel
     by_cases hb : b < 1074
     · by_cases ha : 0 < a
       · have hmod : a.tmod 2 = a % 2 := Int.tmod_eq_emod_of_nonneg a0
         have hdiv : a.tdiv 2 = a / 2 := Int.tdiv_eq_ediv_of_nonneg a0
         by_cases hp : a % 2 = 0
         · have hq : 0 ≤ a / 2 ∧ a / 2 < 9007199254740992 := by omega
           have HN := Hd (show a / 2 * (p2 (b + 1).toNat : Nat) = m * (p2 e.toNat : Nat) from by
             rw [← HR.out, show (b + 1).toNat = b.toNat + 1 by omega, p2_succ, Int.natCast_mul, ← Int.mul_assoc, show a / 2 * ((2 : Nat) : Int) = a by omega])
           obtain ⟨q0, q1⟩ := hq
           clear HR
           go_wp2_with fail
           go_round
           case rel => exact ⟨a / 2, b + 1, rfl, rfl, q0, q1, by omega, by omega, HN⟩
           case measure => simp [intOf]; omega
         · have hp1 : a % 2 = 1 := by omega
           have HX := Hd (show 1074 ≤ b ∨ a = 0 ∨ a % 2 = 1 from .inr (.inr hp1))
           clear hp
           go_wp2_with fail
           go_meet
           case rel => exact ⟨a, b, rfl, rfl, a0, a1, b0, b1, HR, HX, rfl⟩
       · have HX := Hd (show 1074 ≤ b ∨ a = 0 ∨ a % 2 = 1 from .inr (.inl (by omega)))
         go_wp2_with fail
         go_meet
         case rel => exact ⟨a, b, rfl, rfl, a0, a1, b0, b1, HR, HX, rfl⟩
     · have HX := Hd (show 1074 ≤ b ∨ a = 0 ∨ a % 2 = 1 from .inl (by omega))
       go_wp2_with fail
       go_meet
       case rel => exact ⟨a, b, rfl, rfl, a0, a1, b0, b1, HR, HX, rfl⟩
 case rest =>
   obtain ⟨a, b, h4, h5, a0, a1, b0, b1, HR, HX, hw⟩ := hcut
   subst h4 h5 hw
   obtain ⟨W, hW⟩ : ∃ Y, Y = wc := ⟨_, rfl⟩
   subst hW
   obtain ⟨mm, hmm⟩ : ∃ z : Int, z = a := ⟨_, rfl⟩
   obtain ⟨one, hone⟩ : ∃ z : Int, z = 1 := ⟨_, rfl⟩
   have HMM := Hd hmm
   have HONE := Hd hone
   have HG := Hd (flt_gen (v := v) (e := b.toNat) (a := mm) (by rw [HV.out, hmm, HR.out]))
   have hla : lz a ≤ 1000 := Nat.le_trans (Xf (show a.natAbs ≤ (9007199254740992 : Int).natAbs by omega)) (by decide)
   have hlm : lz mm ≤ 1000 := Nat.le_trans (Xf (show mm.natAbs ≤ (9007199254740992 : Int).natAbs by omega)) (by decide)
   clear HV HR hmm hone m0 m1 e0 e1
   have hsz := P_r0.out.blk.lt
   go_wp2_with fail
   refine (rof a a rfl (by omega) (by omega) W).mono ?_
   rintro e x1 ⟨v2, rfl, hI, hb⟩
   obtain ⟨A1, c1, rfl, r1⟩ := hI.raw
   have hI0 := hI.base (Nat.zero_le _)
   have hszg := hb.size
   have P_r0 := Hd (P_r0.out.below hb)
   have HBW := Hd (Zb HBW.out hb)
   have R_n := Hd r1
   clear hb r1
   have O_n := Hd hI0
   clear hI hI0
   go_upto_region 11 with fail
   have ha := ((Below.refl x1.heap.size x1).alloc (Nat.le_refl _) (.cells #[.bool (decide (a < 0)), .slice A1 (Za a.natAbs).length c1] 25))
   have p_n := (Zi.new x1 25 (.bool (decide (a < 0))) (.slice A1 (Za a.natAbs).length c1))
   obtain ⟨y2, E⟩ : ∃ W, W = (x1.alloc (.cells #[.bool (decide (a < 0)), .slice A1 (Za a.natAbs).length c1] 25)) := ⟨_, rfl⟩
   rw [← E] at ha p_n ⊢
   have V_n := Hd (NV.of R_n.out ha p_n)
   have P_r0 := Hd (P_r0.out.below ha)
   have O_n := Hd (O_n.out.below ha)
   have HBW := Hd (Zb HBW.out ha)
   obtain ⟨g2, hg⟩ : ∃ g, g = x1.heap.size := ⟨_, rfl⟩
   rw [← hg] at V_n ⊢
   have hge2 : x1.heap.size ≤ g2 := by omega
   clear E ha hg p_n
   have g6 := G6.out
   go_upto_region 13 with fail
   obtain rfl := HMM.out
   clear g6
   by_cases hwh : mm = 0 ∨ 1074 ≤ b
   · obtain ⟨t, ht⟩ : ∃ t : Int, t = max (b - 1074) 0 := ⟨_, rfl⟩
     have ht0 : 0 ≤ t ∧ t ≤ 1000 := by omega
     obtain ⟨D, hD⟩ : ∃ z : Int, z = mm * ((2 ^ t.toNat : Nat) : Int) := ⟨_, rfl⟩
     have HRES := Hd (show XD v = D ∧ XE v = one from by
       rw [HONE.out]
       rcases hwh with h | h
       · have h2 : mm = 0 := by exact h
         rw [hD, h2, Int.zero_mul]
         exact HG.out.2.2 h2
       · have h3 := HG.out.1 (by omega)
         rw [hD, show t.toNat = b.toNat - 1074 by omega]
         exact h3)
     have HDD := Hd hD
     obtain ⟨t0, t1⟩ := ht0
     have hmax : max (b - 1074) 0 = t := ht.symm
     have hor : ((mm == 0) = true) ∨ ((mm == 0) = false ∧ 1074 ≤ b) := by
       by_cases h : mm = 0
       · exact .inl (by simpa using h)
       · exact .inr ⟨by simpa using h, by omega⟩
     clear hwh ht hD HX HG
     have HT0 := Hd (fun (V : World) (A : Option Addr) (c : Nat) (h : Zh V A c (Za mm.natAbs)) => YJ mm D t A c V h (by omega) t0 (by omega) HDD.out)
     rcases hor with h0 | ⟨h0, h1b⟩
     · skip
       obtain ⟨l_n, a_n, b_n, -, -⟩ := V_n.out.pair.facts
       go_wp2_with fail
       refine (HT0.out y2 A1 c1 V_n.out.raw).mono ?_
       rintro e x3 ⟨v4, rfl, hI, hb⟩
       have hI0 := hI.base (Nat.zero_le _)
       obtain ⟨A3, c3, rfl, r3⟩ := hI.raw
       clear l_n a_n b_n
       have V_n := Hd (V_n.out.below hb)
       have P_r0 := Hd (P_r0.out.below hb)
       have O_n := Hd (O_n.out.below hb)
       have HBW := Hd (Zb HBW.out hb)
       clear hb
       have O_D := Hd hI0
       have R_D := Hd r3
       clear hI hI0 r3
       go_wp2_with fail
       refine (YI D one A3 c3 x3 R_D.out O_D.out HONE.out).mono ?_
       rintro e x4 ⟨v5, rfl, hF, hb⟩
       obtain ⟨A4, c4, A5, c5, rfl, -⟩ := hF.form
       have V_n := Hd (V_n.out.below hb)
       have P_r0 := Hd (P_r0.out.below hb)
       have O_n := Hd (O_n.out.below hb)
       have O_D := Hd (O_D.out.below hb)
       have R_D := Hd (R_D.out.below hb)
       have HBW := Hd (Zb HBW.out hb)
       clear hb
       have HF := Hd hF
       clear hF
       obtain ⟨l_r0, a_r0, b_r0, f_r0, g_r0⟩ := P_r0.out.facts
       have HQ := Hd (P_r0.out.store (.bool (decide (D < 0))) (.slice A4 (Za D.natAbs).length c4) (.bool (decide (one < 0))) (.slice A5 (Za one.natAbs).length c5))
       have HB := Hd (Z1 HBW.out (show w.heap.size ≤ w.heap.size by omega) (.bool (decide (D < 0))) (.slice A4 (Za D.natAbs).length c4) (.bool (decide (one < 0))) (.slice A5 (Za one.natAbs).length c5))
       have HF9 := Hd (HF.out.quad P_r0.out (.bool (decide (D < 0))) (.slice A4 (Za D.natAbs).length c4) (.bool (decide (one < 0))) (.slice A5 (Za one.natAbs).length c5))
       go_wp2_with fail
       obtain ⟨_, k0, k1, k2, k3, _, _, _, _⟩ := HQ.out.facts
       exact bodyPost_ret (by simp [results, Tryz.results46, go_sem, k0, k1, k2, k3]) rfl ⟨.agg #[.bool (decide (D < 0)), .slice A4 (Za D.natAbs).length c4, .bool (decide (one < 0)), .slice A5 (Za one.natAbs).length c5], rfl, by rw [HRES.out.1, HRES.out.2]; exact HF9.out, HB.out⟩
     · skip
       obtain ⟨l_n, a_n, b_n, -, -⟩ := V_n.out.pair.facts
       go_wp2_with fail
       refine (HT0.out y2 A1 c1 V_n.out.raw).mono ?_
       rintro e x3 ⟨v4, rfl, hI, hb⟩
       have hI0 := hI.base (Nat.zero_le _)
       obtain ⟨A3, c3, rfl, r3⟩ := hI.raw
       clear l_n a_n b_n
       have V_n := Hd (V_n.out.below hb)
       have P_r0 := Hd (P_r0.out.below hb)
       have O_n := Hd (O_n.out.below hb)
       have HBW := Hd (Zb HBW.out hb)
       clear hb
       have O_D := Hd hI0
       have R_D := Hd r3
       clear hI hI0 r3
       go_wp2_with fail
       refine (YI D one A3 c3 x3 R_D.out O_D.out HONE.out).mono ?_
       rintro e x4 ⟨v5, rfl, hF, hb⟩
       obtain ⟨A4, c4, A5, c5, rfl, -⟩ := hF.form
       have V_n := Hd (V_n.out.below hb)
       have P_r0 := Hd (P_r0.out.below hb)
       have O_n := Hd (O_n.out.below hb)
       have O_D := Hd (O_D.out.below hb)
       have R_D := Hd (R_D.out.below hb)
       have HBW := Hd (Zb HBW.out hb)
       clear hb
       have HF := Hd hF
       clear hF
       obtain ⟨l_r0, a_r0, b_r0, f_r0, g_r0⟩ := P_r0.out.facts
       have HQ := Hd (P_r0.out.store (.bool (decide (D < 0))) (.slice A4 (Za D.natAbs).length c4) (.bool (decide (one < 0))) (.slice A5 (Za one.natAbs).length c5))
       have HB := Hd (Z1 HBW.out (show w.heap.size ≤ w.heap.size by omega) (.bool (decide (D < 0))) (.slice A4 (Za D.natAbs).length c4) (.bool (decide (one < 0))) (.slice A5 (Za one.natAbs).length c5))
       have HF9 := Hd (HF.out.quad P_r0.out (.bool (decide (D < 0))) (.slice A4 (Za D.natAbs).length c4) (.bool (decide (one < 0))) (.slice A5 (Za one.natAbs).length c5))
       go_wp2_with fail
       obtain ⟨_, k0, k1, k2, k3, _, _, _, _⟩ := HQ.out.facts
       exact bodyPost_ret (by simp [results, Tryz.results46, go_sem, k0, k1, k2, k3]) rfl ⟨.agg #[.bool (decide (D < 0)), .slice A4 (Za D.natAbs).length c4, .bool (decide (one < 0)), .slice A5 (Za one.natAbs).length c5], rfl, by rw [HRES.out.1, HRES.out.2]; exact HF9.out, HB.out⟩
   · have hbl : ¬ 1074 ≤ b := fun h => hwh (.inr h)
     have ha0 : (mm == 0) = false := by simp; omega
     obtain ⟨t, ht⟩ : ∃ t : Int, t = 1074 - b := ⟨_, rfl⟩
     obtain ⟨D, hD⟩ : ∃ z : Int, z = one * ((2 ^ t.toNat : Nat) : Int) := ⟨_, rfl⟩
     have HRES := Hd (show XD v = mm ∧ XE v = D from by
       have hx := HX.out
       have h3 := HG.out.2.1 (by omega) (by omega)
       rw [hD, HONE.out, Int.one_mul, show t.toNat = 1074 - b.toNat by omega]
       exact h3)
     have HDD := Hd hD
     have hsub : 1074 - b = t := ht.symm
     have t0 : 0 ≤ t := by omega
     have t1 : t ≤ 1074 := by omega
     have hwt : IntKind.i64.wrap t = t := by apply IntWalk.i64_in <;> omega
     clear hwh ht hD HX HG
     have hszr := P_r0.out.blk.lt
     go_upto_region 15 with fail
     go_wp2_with fail
     have hn9 := V_n.out.pair.blk.lt
     refine Ze [.val (.agg #[.bool (decide (mm < 0)), .slice A1 (Za mm.natAbs).length c1]) [], .any false (fun u V => Zc V 0 u one) [], .val (.int .i64 b) [], .val (.int .i64 t) [], .any false (fun u V => Zc V 0 u D) [1], .any false (fun u V => ZQ V 0 u mm D) [4], .old (w.heap.size) 27 #[.bool false, .slice none 0 0, .bool false, .slice none 0 0] 0 4 5 []] (w.heap.size) y2 [27] (fun _ _ => False) _ Zd (by omega) (Below.refl _ _) (Zo.refl _ _ _) rfl (by kernel_rfl) (by kernel_rfl) (by kernel_rfl) (by kernel_rfl) (by kernel_rfl) (by kernel_rfl) (by kernel_rfl) (by kernel_rfl) rfl (by simp [ZL]) ?_ ?_ ?_ ?_
     · simp only [Zr, and_true]
       exact ⟨fun u V V' h k => h.kept k (by decide), fun u V V' h k => h.kept k (by decide), fun u V V' h k => h.kept k (by decide)⟩
     · simp only [ZP, and_true]
       exact ⟨Nat.le_refl _, P_r0.out.blk.lt, P_r0.out.blk, by simp⟩
     · simp (maxSteps := 4000000) [ZA, Z9, Zf, Zs, Zj]
       repeat' (first | apply And.intro | (intro (u : Value)) | (intro (u : Nat)))
       all_goals try exact ⟨_, _, _, rfl, rfl, rfl, rfl, Xc⟩
       all_goals first
       | (intro V hV hK
          obtain ⟨-, a_n, b_n, -, -⟩ := (Zi.mk (hK.blk V_n.out.pair.blk (by decide))).facts
          clear hV hK
          go_simp
          first
          | exact Below.refl _ _
          | exact ⟨by first | rfl | decide | go_num, Below.refl _ _⟩
          | ((with_reducible refine (rof 1 one HONE.out (by decide) (by decide) V).mono ?_); rintro e w' ⟨v, rfl, hv, hb⟩; exact ⟨hv.base (Nat.zero_le _), hb⟩))
       | (intro V hV hK h1
          obtain ⟨A6, c6, rfl, r6⟩ := h1.raw
          have r7 := Hd r6
          clear hV hK h1 r6
          go_simp
          (with_reducible refine (YJ one D t A6 c6 V r7.out (by rw [HONE.out]; decide) t0 (by omega) HDD.out).mono ?_)
          rintro e w' ⟨v, rfl, hv, hb⟩
          exact ⟨hv.base (Nat.zero_le _), hb⟩)
       | (intro V hV hK h1
          have oz := O_n.out.kept hK (by decide)
          obtain ⟨A6, c6, rfl, -⟩ := h1.raw
          clear hV hK
          go_simp
          exact ⟨⟨_, _, _, _, rfl, oz, h1⟩, Below.refl _ _⟩)
       | exact fun _ _ _ (h : ZQ _ _ _ _ _) => h.cells
     · simp [Yd, ZC, Zf, Zs, Zj]
       intro u1 u2 u3 V hV hK h1 h2 h3 bq _ _ _
       have HF := Hd h3
       obtain ⟨A6, c6, A7, c7, rfl, -⟩ := h3.form
       simp [Yb, Value.cells] at bq
       have k0 := bq.cell 0
       have k1 := bq.cell 1
       have k2 := bq.cell 2
       have k3 := bq.cell 3
       simp at k0 k1 k2 k3
       have HB9 := Hd (HBW.out.trans (hV.mono (by omega)))
       clear h1 h2 h3 hV hK bq
       go_wp2_with fail
       exact bodyPost_ret (by simp [results, Tryz.results46, go_sem, k0, k1, k2, k3]) rfl ⟨.agg #[.bool (decide (mm < 0)), .slice A6 (Za mm.natAbs).length c6, .bool (decide (D < 0)), .slice A7 (Za D.natAbs).length c7], rfl, by rw [HRES.out.1, HRES.out.2]; exact HF.out, HB9.out⟩

theorem rf_sm (v : Nat) (vi m e : Int) (w : World)  (v1 : (v : Int) = vi) (_ : 0 ≤ vi) (_ : bits BinOp.and IntKind.u64 vi 4503599627370495 = m) (_ : bits BinOp.and IntKind.u64 (vi / 4503599627370496) 2047 = 0) (he0 : e = 0) (m0 : 0 ≤ m) (m1 : m < 9007199254740992) (g6 : vi / 9223372036854775808 = 1) (hv : YS v = -(m * (p2 e.toNat : Nat))) :
   Calls Tryz.prog 46 #[.float .f64 v] w (Z6 w (XD v) (XE v)) := by
 have h1 := Jz v
 rw [v1] at h1
 have HV := Hd hv
 clear hv
 have HE0 := Hd he0
 clear he0
 have b0 := ((Below.refl w.heap.size w).alloc (Nat.le_refl _) (.cells #[.bool false, .slice none 0 0, .bool false, .slice none 0 0] 27))
 have p0 := Zv.new w (.bool false) (.slice none 0 0) (.bool false) (.slice none 0 0)
 have P_r0 := Hd p0
 have HBW := Hd b0
 clear b0 p0 
 go_enter Tryz.func46, Tryz.ntmps46
 obtain ⟨W, E⟩ : ∃ W, W = (w.alloc (.cells #[.bool false, .slice none 0 0, .bool false, .slice none 0 0] 27)) := ⟨_, rfl⟩
 go_upto_region 1 with fail
 rw [← E] at P_r0 HBW ⊢
 clear E
 go_upto_block 0 with fail
 have G6 := Hd g6
 go_cut [4, 5] from 22 to 36 (fun s4 s5 wc => ∃ a b : Int, s4 = .int .i64 a ∧ s5 = .int .i64 b ∧ 0 ≤ a ∧ a < 9007199254740992 ∧ 0 ≤ b ∧ b < 2047 ∧ Hid (a * (p2 b.toNat : Nat) = m * (p2 e.toNat : Nat)) ∧ Hid (1074 ≤ b ∨ a = 0 ∨ a % 2 = 1) ∧ wc = W)
 case first =>
   clear HV G6
   go_wp2_with fail
   go_loop [4, 5] (fun s4 s5 => ∃ a b : Int, s4 = .int .i64 a ∧ s5 = .int .i64 b ∧ 0 ≤ a ∧ a < 9007199254740992 ∧ 0 ≤ b ∧ b < 2047 ∧ Hid (a * (p2 b.toNat : Nat) = m * (p2 e.toNat : Nat))) (fun _ s5 => 2047 - (intOf s5).toNat)
   case atStart => exact ⟨m, _, rfl, rfl, m0, m1, (by decide), (by decide), Hd (by rw [HE0.out])⟩
   case round =>
     obtain ⟨a, b, rfl, rfl, a0, a1, b0, b1, HR⟩ := hrel
     by_cases hb : b < 1074
     · by_cases ha : 0 < a
       · have hmod : a.tmod 2 = a % 2 := Int.tmod_eq_emod_of_nonneg a0
         have hdiv : a.tdiv 2 = a / 2 := Int.tdiv_eq_ediv_of_nonneg a0
         by_cases hp : a % 2 = 0
         · have hq : 0 ≤ a / 2 ∧ a / 2 < 9007199254740992 := by omega
           have HN := Hd (show a / 2 * (p2 (b + 1).toNat : Nat) = m * (p2 e.toNat : Nat) from by
             rw [← HR.out, show (b + 1).toNat = b.toNat + 1 by omega, p2_succ, Int.natCast_mul, ← Int.mul_assoc, show a / 2 * ((2 : Nat) : Int) = a by omega])
           obtain ⟨q0, q1⟩ := hq
           clear HR
           go_wp2_with fail
           go_round
           case rel => exact ⟨a / 2, b + 1, rfl, rfl, q0, q1, by omega, by omega, HN⟩
           case measure => simp [intOf]; omega
         · have hp1 : a % 2 = 1 := by omega
           have HX := Hd (show 1074 ≤ b ∨ a = 0 ∨ a % 2 = 1 from .inr (.inr hp1))
           clear hp
           go_wp2_with fail
           go_meet
           case rel => exact ⟨a, b, rfl, rfl, a0, a1, b0, b1, HR, HX, rfl⟩
       · have HX := Hd (show 1074 ≤ b ∨ a = 0 ∨ a % 2 = 1 from .inr (.inl (by omega)))
         go_wp2_with fail
         go_meet
         case rel => exact ⟨a, b, rfl, rfl, a0, a1, b0, b1, HR, HX, rfl⟩
     · have HX := Hd (show 1074 ≤ b ∨ a = 0 ∨ a % 2 = 1 from .inl (by omega))
       go_wp2_with fail
       go_meet
       case rel => exact ⟨a, b, rfl, rfl, a0, a1, b0, b1, HR, HX, rfl⟩
 case rest =>
   obtain ⟨a, b, h4, h5, a0, a1, b0, b1, HR, HX, hw⟩ := hcut
   subst h4 h5 hw
   obtain ⟨W, hW⟩ : ∃ Y, Y = wc := ⟨_, rfl⟩
   subst hW
   obtain ⟨mm, hmm⟩ : ∃ z : Int, z = -a := ⟨_, rfl⟩
   obtain ⟨one, hone⟩ : ∃ z : Int, z = 1 := ⟨_, rfl⟩
   have HMM := Hd hmm
   have HONE := Hd hone
   have HG := Hd (flt_gen (v := v) (e := b.toNat) (a := mm) (by rw [HV.out, hmm, Int.neg_mul, HR.out]))
   have hla : lz a ≤ 1000 := Nat.le_trans (Xf (show a.natAbs ≤ (9007199254740992 : Int).natAbs by omega)) (by decide)
   have hlm : lz mm ≤ 1000 := Nat.le_trans (Xf (show mm.natAbs ≤ (9007199254740992 : Int).natAbs by omega)) (by decide)
   clear HV HR hmm hone m0 m1 HE0
   have hsz := P_r0.out.blk.lt
   go_wp2_with fail
   refine (rof a a rfl (by omega) (by omega) W).mono ?_
   rintro e x1 ⟨v2, rfl, hI, hb⟩
   obtain ⟨A1, c1, rfl, r1⟩ := hI.raw
   have hI0 := hI.base (Nat.zero_le _)
   have hszg := hb.size
   have P_r0 := Hd (P_r0.out.below hb)
   have HBW := Hd (Zb HBW.out hb)
   have R_n := Hd r1
   clear hb r1
   have O_n := Hd hI0
   clear hI hI0
   go_upto_region 11 with fail
   have ha := ((Below.refl x1.heap.size x1).alloc (Nat.le_refl _) (.cells #[.bool (decide (a < 0)), .slice A1 (Za a.natAbs).length c1] 25))
   have p_n := (Zi.new x1 25 (.bool (decide (a < 0))) (.slice A1 (Za a.natAbs).length c1))
   obtain ⟨y2, E⟩ : ∃ W, W = (x1.alloc (.cells #[.bool (decide (a < 0)), .slice A1 (Za a.natAbs).length c1] 25)) := ⟨_, rfl⟩
   rw [← E] at ha p_n ⊢
   have V_n := Hd (NV.of R_n.out ha p_n)
   have P_r0 := Hd (P_r0.out.below ha)
   have O_n := Hd (O_n.out.below ha)
   have HBW := Hd (Zb HBW.out ha)
   obtain ⟨g2, hg⟩ : ∃ g, g = x1.heap.size := ⟨_, rfl⟩
   rw [← hg] at V_n ⊢
   have hge2 : x1.heap.size ≤ g2 := by omega
   clear E ha hg p_n
   have g6 := G6.out
   obtain ⟨l_n, a_n, b_n, -, -⟩ := V_n.out.pair.facts
   go_wp2_with fail
   refine (rturned a mm A1 c1 y2 V_n.out.raw (by omega) HMM.out).mono ?_
   rintro e9 x3 ⟨v3, rfl, hI, hb⟩
   obtain ⟨A2, c2, rfl, -⟩ := hI.raw
   clear l_n a_n b_n
   have V_n := Hd (V_n.out.below hb)
   have P_r0 := Hd (P_r0.out.below hb)
   have O_n := Hd (O_n.out.below hb)
   have HBW := Hd (Zb HBW.out hb)
   have O_m := Hd (hI.base (Nat.zero_le _))
   clear hb hI
   obtain ⟨l_s, a_s, b_s, f_s, g_s⟩ := V_n.out.pair.facts
   have M_n := V_n.out.pair.store (.bool (decide (mm < 0))) (.slice A2 (Za mm.natAbs).length c2)
   have Q_O_m := O_m.out.pairT V_n.out.pair (.bool (decide (mm < 0))) (.slice A2 (Za mm.natAbs).length c2)
   have F_P_r0 : Zv _ _ _ _ _ _ := ⟨P_r0.out.blk.far2 (show w.heap.size ≠ g2 by omega) (.bool (decide (mm < 0))) (.slice A2 (Za mm.natAbs).length c2)⟩
   have HB9 := ZE HBW.out (show w.heap.size ≤ g2 by omega) (.bool (decide (mm < 0))) (.slice A2 (Za mm.natAbs).length c2)
   have hgrow : x3.heap.size ≤ (((x3).setCell ⟨g2, 0, none⟩ (.bool (decide (mm < 0)))).setCell ⟨g2, 1, none⟩ (.slice A2 (Za mm.natAbs).length c2)).heap.size := by simp
   go_upto_region 13 with fail
   obtain ⟨y4, E⟩ : ∃ W, W = (((x3).setCell ⟨g2, 0, none⟩ (.bool (decide (mm < 0)))).setCell ⟨g2, 1, none⟩ (.slice A2 (Za mm.natAbs).length c2)) := ⟨_, rfl⟩
   rw [← E] at M_n Q_O_m F_P_r0 HB9 hgrow ⊢
   clear E l_s a_s b_s f_s g_s
   have HBW := Hd HB9
   have O_m := Hd Q_O_m
   have V_n := Hd (show NV y4 (g2) mm A2 c2 from ⟨M_n, O_m.out.rawAt⟩)
   have P_r0 := Hd F_P_r0
   clear HB9 M_n Q_O_m F_P_r0
   clear g6
   by_cases hwh : a = 0 ∨ 1074 ≤ b
   · obtain ⟨t, ht⟩ : ∃ t : Int, t = max (b - 1074) 0 := ⟨_, rfl⟩
     have ht0 : 0 ≤ t ∧ t ≤ 1000 := by omega
     obtain ⟨D, hD⟩ : ∃ z : Int, z = mm * ((2 ^ t.toNat : Nat) : Int) := ⟨_, rfl⟩
     have HRES := Hd (show XD v = D ∧ XE v = one from by
       rw [HONE.out]
       rcases hwh with h | h
       · have h2 : mm = 0 := by rw [HMM.out, h]; rfl
         rw [hD, h2, Int.zero_mul]
         exact HG.out.2.2 h2
       · have h3 := HG.out.1 (by omega)
         rw [hD, show t.toNat = b.toNat - 1074 by omega]
         exact h3)
     have HDD := Hd hD
     obtain ⟨t0, t1⟩ := ht0
     have hmax : max (b - 1074) 0 = t := ht.symm
     have hor : ((a == 0) = true) ∨ ((a == 0) = false ∧ 1074 ≤ b) := by
       by_cases h : a = 0
       · exact .inl (by simpa using h)
       · exact .inr ⟨by simpa using h, by omega⟩
     clear hwh ht hD HX HG
     have HT0 := Hd (fun (V : World) (A : Option Addr) (c : Nat) (h : Zh V A c (Za mm.natAbs)) => YJ mm D t A c V h (by omega) t0 (by omega) HDD.out)
     rcases hor with h0 | ⟨h0, h1b⟩
     · skip
       obtain ⟨l_n, a_n, b_n, -, -⟩ := V_n.out.pair.facts
       go_wp2_with fail
       refine (HT0.out y4 A2 c2 V_n.out.raw).mono ?_
       rintro e x5 ⟨v4, rfl, hI, hb⟩
       have hI0 := hI.base (Nat.zero_le _)
       obtain ⟨A3, c3, rfl, r3⟩ := hI.raw
       clear l_n a_n b_n
       have V_n := Hd (V_n.out.below hb)
       have P_r0 := Hd (P_r0.out.below hb)
       have O_m := Hd (O_m.out.below hb)
       have HBW := Hd (Zb HBW.out hb)
       clear hb
       have O_D := Hd hI0
       have R_D := Hd r3
       clear hI hI0 r3
       go_wp2_with fail
       refine (YI D one A3 c3 x5 R_D.out O_D.out HONE.out).mono ?_
       rintro e x6 ⟨v5, rfl, hF, hb⟩
       obtain ⟨A4, c4, A5, c5, rfl, -⟩ := hF.form
       have V_n := Hd (V_n.out.below hb)
       have P_r0 := Hd (P_r0.out.below hb)
       have O_m := Hd (O_m.out.below hb)
       have O_D := Hd (O_D.out.below hb)
       have R_D := Hd (R_D.out.below hb)
       have HBW := Hd (Zb HBW.out hb)
       clear hb
       have HF := Hd hF
       clear hF
       obtain ⟨l_r0, a_r0, b_r0, f_r0, g_r0⟩ := P_r0.out.facts
       have HQ := Hd (P_r0.out.store (.bool (decide (D < 0))) (.slice A4 (Za D.natAbs).length c4) (.bool (decide (one < 0))) (.slice A5 (Za one.natAbs).length c5))
       have HB := Hd (Z1 HBW.out (show w.heap.size ≤ w.heap.size by omega) (.bool (decide (D < 0))) (.slice A4 (Za D.natAbs).length c4) (.bool (decide (one < 0))) (.slice A5 (Za one.natAbs).length c5))
       have HF9 := Hd (HF.out.quad P_r0.out (.bool (decide (D < 0))) (.slice A4 (Za D.natAbs).length c4) (.bool (decide (one < 0))) (.slice A5 (Za one.natAbs).length c5))
       go_wp2_with fail
       obtain ⟨_, k0, k1, k2, k3, _, _, _, _⟩ := HQ.out.facts
       exact bodyPost_ret (by simp [results, Tryz.results46, go_sem, k0, k1, k2, k3]) rfl ⟨.agg #[.bool (decide (D < 0)), .slice A4 (Za D.natAbs).length c4, .bool (decide (one < 0)), .slice A5 (Za one.natAbs).length c5], rfl, by rw [HRES.out.1, HRES.out.2]; exact HF9.out, HB.out⟩
     · skip
       obtain ⟨l_n, a_n, b_n, -, -⟩ := V_n.out.pair.facts
       go_wp2_with fail
       refine (HT0.out y4 A2 c2 V_n.out.raw).mono ?_
       rintro e x5 ⟨v4, rfl, hI, hb⟩
       have hI0 := hI.base (Nat.zero_le _)
       obtain ⟨A3, c3, rfl, r3⟩ := hI.raw
       clear l_n a_n b_n
       have V_n := Hd (V_n.out.below hb)
       have P_r0 := Hd (P_r0.out.below hb)
       have O_m := Hd (O_m.out.below hb)
       have HBW := Hd (Zb HBW.out hb)
       clear hb
       have O_D := Hd hI0
       have R_D := Hd r3
       clear hI hI0 r3
       go_wp2_with fail
       refine (YI D one A3 c3 x5 R_D.out O_D.out HONE.out).mono ?_
       rintro e x6 ⟨v5, rfl, hF, hb⟩
       obtain ⟨A4, c4, A5, c5, rfl, -⟩ := hF.form
       have V_n := Hd (V_n.out.below hb)
       have P_r0 := Hd (P_r0.out.below hb)
       have O_m := Hd (O_m.out.below hb)
       have O_D := Hd (O_D.out.below hb)
       have R_D := Hd (R_D.out.below hb)
       have HBW := Hd (Zb HBW.out hb)
       clear hb
       have HF := Hd hF
       clear hF
       obtain ⟨l_r0, a_r0, b_r0, f_r0, g_r0⟩ := P_r0.out.facts
       have HQ := Hd (P_r0.out.store (.bool (decide (D < 0))) (.slice A4 (Za D.natAbs).length c4) (.bool (decide (one < 0))) (.slice A5 (Za one.natAbs).length c5))
       have HB := Hd (Z1 HBW.out (show w.heap.size ≤ w.heap.size by omega) (.bool (decide (D < 0))) (.slice A4 (Za D.natAbs).length c4) (.bool (decide (one < 0))) (.slice A5 (Za one.natAbs).length c5))
       have HF9 := Hd (HF.out.quad P_r0.out (.bool (decide (D < 0))) (.slice A4 (Za D.natAbs).length c4) (.bool (decide (one < 0))) (.slice A5 (Za one.natAbs).length c5))
       go_wp2_with fail
       obtain ⟨_, k0, k1, k2, k3, _, _, _, _⟩ := HQ.out.facts
       exact bodyPost_ret (by simp [results, Tryz.results46, go_sem, k0, k1, k2, k3]) rfl ⟨.agg #[.bool (decide (D < 0)), .slice A4 (Za D.natAbs).length c4, .bool (decide (one < 0)), .slice A5 (Za one.natAbs).length c5], rfl, by rw [HRES.out.1, HRES.out.2]; exact HF9.out, HB.out⟩
   · have hbl : ¬ 1074 ≤ b := fun h => hwh (.inr h)
     have ha0 : (a == 0) = false := by simp; omega
     obtain ⟨t, ht⟩ : ∃ t : Int, t = 1074 - b := ⟨_, rfl⟩
     obtain ⟨D, hD⟩ : ∃ z : Int, z = one * ((2 ^ t.toNat : Nat) : Int) := ⟨_, rfl⟩
     have HRES := Hd (show XD v = mm ∧ XE v = D from by
       have hx := HX.out
       have h3 := HG.out.2.1 (by omega) (by have := HMM.out; omega)
       rw [hD, HONE.out, Int.one_mul, show t.toNat = 1074 - b.toNat by omega]
       exact h3)
     have HDD := Hd hD
     have hsub : 1074 - b = t := ht.symm
     have t0 : 0 ≤ t := by omega
     have t1 : t ≤ 1074 := by omega
     have hwt : IntKind.i64.wrap t = t := by apply IntWalk.i64_in <;> omega
     clear hwh ht hD HX HG
     have hszr := P_r0.out.blk.lt
     go_upto_region 15 with fail
     go_wp2_with fail
     have hn9 := V_n.out.pair.blk.lt
     refine Ze [.val (.agg #[.bool (decide (mm < 0)), .slice A2 (Za mm.natAbs).length c2]) [], .any false (fun u V => Zc V 0 u one) [], .val (.int .i64 b) [], .val (.int .i64 t) [], .any false (fun u V => Zc V 0 u D) [1], .any false (fun u V => ZQ V 0 u mm D) [4], .old (w.heap.size) 27 #[.bool false, .slice none 0 0, .bool false, .slice none 0 0] 0 4 5 []] (w.heap.size) y4 [27] (fun _ _ => False) _ Zd (by omega) (Below.refl _ _) (Zo.refl _ _ _) rfl (by kernel_rfl) (by kernel_rfl) (by kernel_rfl) (by kernel_rfl) (by kernel_rfl) (by kernel_rfl) (by kernel_rfl) (by kernel_rfl) rfl (by simp [ZL]) ?_ ?_ ?_ ?_
     · simp only [Zr, and_true]
       exact ⟨fun u V V' h k => h.kept k (by decide), fun u V V' h k => h.kept k (by decide), fun u V V' h k => h.kept k (by decide)⟩
     · simp only [ZP, and_true]
       exact ⟨Nat.le_refl _, P_r0.out.blk.lt, P_r0.out.blk, by simp⟩
     · simp (maxSteps := 4000000) [ZA, Z9, Zf, Zs, Zj]
       repeat' (first | apply And.intro | (intro (u : Value)) | (intro (u : Nat)))
       all_goals try exact ⟨_, _, _, rfl, rfl, rfl, rfl, Xc⟩
       all_goals first
       | (intro V hV hK
          obtain ⟨-, a_n, b_n, -, -⟩ := (Zi.mk (hK.blk V_n.out.pair.blk (by decide))).facts
          clear hV hK
          go_simp
          first
          | exact Below.refl _ _
          | exact ⟨by first | rfl | decide | go_num, Below.refl _ _⟩
          | ((with_reducible refine (rof 1 one HONE.out (by decide) (by decide) V).mono ?_); rintro e w' ⟨v, rfl, hv, hb⟩; exact ⟨hv.base (Nat.zero_le _), hb⟩))
       | (intro V hV hK h1
          obtain ⟨A6, c6, rfl, r6⟩ := h1.raw
          have r7 := Hd r6
          clear hV hK h1 r6
          go_simp
          (with_reducible refine (YJ one D t A6 c6 V r7.out (by rw [HONE.out]; decide) t0 (by omega) HDD.out).mono ?_)
          rintro e w' ⟨v, rfl, hv, hb⟩
          exact ⟨hv.base (Nat.zero_le _), hb⟩)
       | (intro V hV hK h1
          have oz := O_m.out.kept hK (by decide)
          obtain ⟨A6, c6, rfl, -⟩ := h1.raw
          clear hV hK
          go_simp
          exact ⟨⟨_, _, _, _, rfl, oz, h1⟩, Below.refl _ _⟩)
       | exact fun _ _ _ (h : ZQ _ _ _ _ _) => h.cells
     · simp [Yd, ZC, Zf, Zs, Zj]
       intro u1 u2 u3 V hV hK h1 h2 h3 bq _ _ _
       have HF := Hd h3
       obtain ⟨A6, c6, A7, c7, rfl, -⟩ := h3.form
       simp [Yb, Value.cells] at bq
       have k0 := bq.cell 0
       have k1 := bq.cell 1
       have k2 := bq.cell 2
       have k3 := bq.cell 3
       simp at k0 k1 k2 k3
       have HB9 := Hd (HBW.out.trans (hV.mono (by omega)))
       clear h1 h2 h3 hV hK bq
       go_wp2_with fail
       exact bodyPost_ret (by simp [results, Tryz.results46, go_sem, k0, k1, k2, k3]) rfl ⟨.agg #[.bool (decide (mm < 0)), .slice A6 (Za mm.natAbs).length c6, .bool (decide (D < 0)), .slice A7 (Za D.natAbs).length c7], rfl, by rw [HRES.out.1, HRES.out.2]; exact HF.out, HB9.out⟩

theorem rf_sp (v : Nat) (vi m e : Int) (w : World)  (v1 : (v : Int) = vi) (_ : 0 ≤ vi) (_ : bits BinOp.and IntKind.u64 vi 4503599627370495 = m) (_ : bits BinOp.and IntKind.u64 (vi / 4503599627370496) 2047 = 0) (he0 : e = 0) (m0 : 0 ≤ m) (m1 : m < 9007199254740992) (g6 : vi / 9223372036854775808 = 0) (hv : YS v = (m * (p2 e.toNat : Nat))) :
   Calls Tryz.prog 46 #[.float .f64 v] w (Z6 w (XD v) (XE v)) := by
 have h1 := Jz v
 rw [v1] at h1
 have HV := Hd hv
 clear hv
 have HE0 := Hd he0
 clear he0
 have b0 := ((Below.refl w.heap.size w).alloc (Nat.le_refl _) (.cells #[.bool false, .slice none 0 0, .bool false, .slice none 0 0] 27))
 have p0 := Zv.new w (.bool false) (.slice none 0 0) (.bool false) (.slice none 0 0)
 have P_r0 := Hd p0
 have HBW := Hd b0
 clear b0 p0 
 go_enter Tryz.func46, Tryz.ntmps46
 obtain ⟨W, E⟩ : ∃ W, W = (w.alloc (.cells #[.bool false, .slice none 0 0, .bool false, .slice none 0 0] 27)) := ⟨_, rfl⟩
 go_upto_region 1 with fail
 rw [← E] at P_r0 HBW ⊢
 clear E
 go_upto_block 0 with fail
 have G6 := Hd g6
 go_cut [4, 5] from 22 to 36 (fun s4 s5 wc => ∃ a b : Int, s4 = .int .i64 a ∧ s5 = .int .i64 b ∧ 0 ≤ a ∧ a < 9007199254740992 ∧ 0 ≤ b ∧ b < 2047 ∧ Hid (a * (p2 b.toNat : Nat) = m * (p2 e.toNat : Nat)) ∧ Hid (1074 ≤ b ∨ a = 0 ∨ a % 2 = 1) ∧ wc = W)
 case first =>
   clear HV G6
   go_wp2_with fail
   go_loop [4, 5] (fun s4 s5 => ∃ a b : Int, s4 = .int .i64 a ∧ s5 = .int .i64 b ∧ 0 ≤ a ∧ a < 9007199254740992 ∧ 0 ≤ b ∧ b < 2047 ∧ Hid (a * (p2 b.toNat : Nat) = m * (p2 e.toNat : Nat))) (fun _ s5 => 2047 - (intOf s5).toNat)
   case atStart => exact ⟨m, _, rfl, rfl, m0, m1, (by decide), (by decide), Hd (by rw [HE0.out])⟩
   case round =>
     obtain ⟨a, b, rfl, rfl, a0, a1, b0, b1, HR⟩ := hrel
     by_cases hb : b < 1074
     · by_cases ha : 0 < a
       · have hmod : a.tmod 2 = a % 2 := Int.tmod_eq_emod_of_nonneg a0
         have hdiv : a.tdiv 2 = a / 2 := Int.tdiv_eq_ediv_of_nonneg a0
         by_cases hp : a % 2 = 0
         · have hq : 0 ≤ a / 2 ∧ a / 2 < 9007199254740992 := by omega
           have HN := Hd (show a / 2 * (p2 (b + 1).toNat : Nat) = m * (p2 e.toNat : Nat) from by
             rw [← HR.out, show (b + 1).toNat = b.toNat + 1 by omega, p2_succ, Int.natCast_mul, ← Int.mul_assoc, show a / 2 * ((2 : Nat) : Int) = a by omega])
           obtain ⟨q0, q1⟩ := hq
           clear HR
           go_wp2_with fail
           go_round
           case rel => exact ⟨a / 2, b + 1, rfl, rfl, q0, q1, by omega, by omega, HN⟩
           case measure => simp [intOf]; omega
         · have hp1 : a % 2 = 1 := by omega
           have HX := Hd (show 1074 ≤ b ∨ a = 0 ∨ a % 2 = 1 from .inr (.inr hp1))
           clear hp
           go_wp2_with fail
           go_meet
           case rel => exact ⟨a, b, rfl, rfl, a0, a1, b0, b1, HR, HX, rfl⟩
       · have HX := Hd (show 1074 ≤ b ∨ a = 0 ∨ a % 2 = 1 from .inr (.inl (by omega)))
         go_wp2_with fail
         go_meet
         case rel => exact ⟨a, b, rfl, rfl, a0, a1, b0, b1, HR, HX, rfl⟩
     · have HX := Hd (show 1074 ≤ b ∨ a = 0 ∨ a % 2 = 1 from .inl (by omega))
       go_wp2_with fail
       go_meet
       case rel => exact ⟨a, b, rfl, rfl, a0, a1, b0, b1, HR, HX, rfl⟩
 case rest =>
   obtain ⟨a, b, h4, h5, a0, a1, b0, b1, HR, HX, hw⟩ := hcut
   subst h4 h5 hw
   obtain ⟨W, hW⟩ : ∃ Y, Y = wc := ⟨_, rfl⟩
   subst hW
   obtain ⟨mm, hmm⟩ : ∃ z : Int, z = a := ⟨_, rfl⟩
   obtain ⟨one, hone⟩ : ∃ z : Int, z = 1 := ⟨_, rfl⟩
   have HMM := Hd hmm
   have HONE := Hd hone
   have HG := Hd (flt_gen (v := v) (e := b.toNat) (a := mm) (by rw [HV.out, hmm, HR.out]))
   have hla : lz a ≤ 1000 := Nat.le_trans (Xf (show a.natAbs ≤ (9007199254740992 : Int).natAbs by omega)) (by decide)
   have hlm : lz mm ≤ 1000 := Nat.le_trans (Xf (show mm.natAbs ≤ (9007199254740992 : Int).natAbs by omega)) (by decide)
   clear HV HR hmm hone m0 m1 HE0
   have hsz := P_r0.out.blk.lt
   go_wp2_with fail
   refine (rof a a rfl (by omega) (by omega) W).mono ?_
   rintro e x1 ⟨v2, rfl, hI, hb⟩
   obtain ⟨A1, c1, rfl, r1⟩ := hI.raw
   have hI0 := hI.base (Nat.zero_le _)
   have hszg := hb.size
   have P_r0 := Hd (P_r0.out.below hb)
   have HBW := Hd (Zb HBW.out hb)
   have R_n := Hd r1
   clear hb r1
   have O_n := Hd hI0
   clear hI hI0
   go_upto_region 11 with fail
   have ha := ((Below.refl x1.heap.size x1).alloc (Nat.le_refl _) (.cells #[.bool (decide (a < 0)), .slice A1 (Za a.natAbs).length c1] 25))
   have p_n := (Zi.new x1 25 (.bool (decide (a < 0))) (.slice A1 (Za a.natAbs).length c1))
   obtain ⟨y2, E⟩ : ∃ W, W = (x1.alloc (.cells #[.bool (decide (a < 0)), .slice A1 (Za a.natAbs).length c1] 25)) := ⟨_, rfl⟩
   rw [← E] at ha p_n ⊢
   have V_n := Hd (NV.of R_n.out ha p_n)
   have P_r0 := Hd (P_r0.out.below ha)
   have O_n := Hd (O_n.out.below ha)
   have HBW := Hd (Zb HBW.out ha)
   obtain ⟨g2, hg⟩ : ∃ g, g = x1.heap.size := ⟨_, rfl⟩
   rw [← hg] at V_n ⊢
   have hge2 : x1.heap.size ≤ g2 := by omega
   clear E ha hg p_n
   have g6 := G6.out
   go_upto_region 13 with fail
   obtain rfl := HMM.out
   clear g6
   by_cases hwh : mm = 0 ∨ 1074 ≤ b
   · obtain ⟨t, ht⟩ : ∃ t : Int, t = max (b - 1074) 0 := ⟨_, rfl⟩
     have ht0 : 0 ≤ t ∧ t ≤ 1000 := by omega
     obtain ⟨D, hD⟩ : ∃ z : Int, z = mm * ((2 ^ t.toNat : Nat) : Int) := ⟨_, rfl⟩
     have HRES := Hd (show XD v = D ∧ XE v = one from by
       rw [HONE.out]
       rcases hwh with h | h
       · have h2 : mm = 0 := by exact h
         rw [hD, h2, Int.zero_mul]
         exact HG.out.2.2 h2
       · have h3 := HG.out.1 (by omega)
         rw [hD, show t.toNat = b.toNat - 1074 by omega]
         exact h3)
     have HDD := Hd hD
     obtain ⟨t0, t1⟩ := ht0
     have hmax : max (b - 1074) 0 = t := ht.symm
     have hor : ((mm == 0) = true) ∨ ((mm == 0) = false ∧ 1074 ≤ b) := by
       by_cases h : mm = 0
       · exact .inl (by simpa using h)
       · exact .inr ⟨by simpa using h, by omega⟩
     clear hwh ht hD HX HG
     have HT0 := Hd (fun (V : World) (A : Option Addr) (c : Nat) (h : Zh V A c (Za mm.natAbs)) => YJ mm D t A c V h (by omega) t0 (by omega) HDD.out)
     rcases hor with h0 | ⟨h0, h1b⟩
     · skip
       obtain ⟨l_n, a_n, b_n, -, -⟩ := V_n.out.pair.facts
       go_wp2_with fail
       refine (HT0.out y2 A1 c1 V_n.out.raw).mono ?_
       rintro e x3 ⟨v4, rfl, hI, hb⟩
       have hI0 := hI.base (Nat.zero_le _)
       obtain ⟨A3, c3, rfl, r3⟩ := hI.raw
       clear l_n a_n b_n
       have V_n := Hd (V_n.out.below hb)
       have P_r0 := Hd (P_r0.out.below hb)
       have O_n := Hd (O_n.out.below hb)
       have HBW := Hd (Zb HBW.out hb)
       clear hb
       have O_D := Hd hI0
       have R_D := Hd r3
       clear hI hI0 r3
       go_wp2_with fail
       refine (YI D one A3 c3 x3 R_D.out O_D.out HONE.out).mono ?_
       rintro e x4 ⟨v5, rfl, hF, hb⟩
       obtain ⟨A4, c4, A5, c5, rfl, -⟩ := hF.form
       have V_n := Hd (V_n.out.below hb)
       have P_r0 := Hd (P_r0.out.below hb)
       have O_n := Hd (O_n.out.below hb)
       have O_D := Hd (O_D.out.below hb)
       have R_D := Hd (R_D.out.below hb)
       have HBW := Hd (Zb HBW.out hb)
       clear hb
       have HF := Hd hF
       clear hF
       obtain ⟨l_r0, a_r0, b_r0, f_r0, g_r0⟩ := P_r0.out.facts
       have HQ := Hd (P_r0.out.store (.bool (decide (D < 0))) (.slice A4 (Za D.natAbs).length c4) (.bool (decide (one < 0))) (.slice A5 (Za one.natAbs).length c5))
       have HB := Hd (Z1 HBW.out (show w.heap.size ≤ w.heap.size by omega) (.bool (decide (D < 0))) (.slice A4 (Za D.natAbs).length c4) (.bool (decide (one < 0))) (.slice A5 (Za one.natAbs).length c5))
       have HF9 := Hd (HF.out.quad P_r0.out (.bool (decide (D < 0))) (.slice A4 (Za D.natAbs).length c4) (.bool (decide (one < 0))) (.slice A5 (Za one.natAbs).length c5))
       go_wp2_with fail
       obtain ⟨_, k0, k1, k2, k3, _, _, _, _⟩ := HQ.out.facts
       exact bodyPost_ret (by simp [results, Tryz.results46, go_sem, k0, k1, k2, k3]) rfl ⟨.agg #[.bool (decide (D < 0)), .slice A4 (Za D.natAbs).length c4, .bool (decide (one < 0)), .slice A5 (Za one.natAbs).length c5], rfl, by rw [HRES.out.1, HRES.out.2]; exact HF9.out, HB.out⟩
     · skip
       obtain ⟨l_n, a_n, b_n, -, -⟩ := V_n.out.pair.facts
       go_wp2_with fail
       refine (HT0.out y2 A1 c1 V_n.out.raw).mono ?_
       rintro e x3 ⟨v4, rfl, hI, hb⟩
       have hI0 := hI.base (Nat.zero_le _)
       obtain ⟨A3, c3, rfl, r3⟩ := hI.raw
       clear l_n a_n b_n
       have V_n := Hd (V_n.out.below hb)
       have P_r0 := Hd (P_r0.out.below hb)
       have O_n := Hd (O_n.out.below hb)
       have HBW := Hd (Zb HBW.out hb)
       clear hb
       have O_D := Hd hI0
       have R_D := Hd r3
       clear hI hI0 r3
       go_wp2_with fail
       refine (YI D one A3 c3 x3 R_D.out O_D.out HONE.out).mono ?_
       rintro e x4 ⟨v5, rfl, hF, hb⟩
       obtain ⟨A4, c4, A5, c5, rfl, -⟩ := hF.form
       have V_n := Hd (V_n.out.below hb)
       have P_r0 := Hd (P_r0.out.below hb)
       have O_n := Hd (O_n.out.below hb)
       have O_D := Hd (O_D.out.below hb)
       have R_D := Hd (R_D.out.below hb)
       have HBW := Hd (Zb HBW.out hb)
       clear hb
       have HF := Hd hF
       clear hF
       obtain ⟨l_r0, a_r0, b_r0, f_r0, g_r0⟩ := P_r0.out.facts
       have HQ := Hd (P_r0.out.store (.bool (decide (D < 0))) (.slice A4 (Za D.natAbs).length c4) (.bool (decide (one < 0))) (.slice A5 (Za one.natAbs).length c5))
       have HB := Hd (Z1 HBW.out (show w.heap.size ≤ w.heap.size by omega) (.bool (decide (D < 0))) (.slice A4 (Za D.natAbs).length c4) (.bool (decide (one < 0))) (.slice A5 (Za one.natAbs).length c5))
       have HF9 := Hd (HF.out.quad P_r0.out (.bool (decide (D < 0))) (.slice A4 (Za D.natAbs).length c4) (.bool (decide (one < 0))) (.slice A5 (Za one.natAbs).length c5))
       go_wp2_with fail
       obtain ⟨_, k0, k1, k2, k3, _, _, _, _⟩ := HQ.out.facts
       exact bodyPost_ret (by simp [results, Tryz.results46, go_sem, k0, k1, k2, k3]) rfl ⟨.agg #[.bool (decide (D < 0)), .slice A4 (Za D.natAbs).length c4, .bool (decide (one < 0)), .slice A5 (Za one.natAbs).length c5], rfl, by rw [HRES.out.1, HRES.out.2]; exact HF9.out, HB.out⟩
   · have hbl : ¬ 1074 ≤ b := fun h => hwh (.inr h)
     have ha0 : (mm == 0) = false := by simp; omega
     obtain ⟨t, ht⟩ : ∃ t : Int, t = 1074 - b := ⟨_, rfl⟩
     obtain ⟨D, hD⟩ : ∃ z : Int, z = one * ((2 ^ t.toNat : Nat) : Int) := ⟨_, rfl⟩
     have HRES := Hd (show XD v = mm ∧ XE v = D from by
       have hx := HX.out
       have h3 := HG.out.2.1 (by omega) (by omega)
       rw [hD, HONE.out, Int.one_mul, show t.toNat = 1074 - b.toNat by omega]
       exact h3)
     have HDD := Hd hD
     have hsub : 1074 - b = t := ht.symm
     have t0 : 0 ≤ t := by omega
     have t1 : t ≤ 1074 := by omega
     have hwt : IntKind.i64.wrap t = t := by apply IntWalk.i64_in <;> omega
     clear hwh ht hD HX HG
     have hszr := P_r0.out.blk.lt
     go_upto_region 15 with fail
     go_wp2_with fail
     have hn9 := V_n.out.pair.blk.lt
     refine Ze [.val (.agg #[.bool (decide (mm < 0)), .slice A1 (Za mm.natAbs).length c1]) [], .any false (fun u V => Zc V 0 u one) [], .val (.int .i64 b) [], .val (.int .i64 t) [], .any false (fun u V => Zc V 0 u D) [1], .any false (fun u V => ZQ V 0 u mm D) [4], .old (w.heap.size) 27 #[.bool false, .slice none 0 0, .bool false, .slice none 0 0] 0 4 5 []] (w.heap.size) y2 [27] (fun _ _ => False) _ Zd (by omega) (Below.refl _ _) (Zo.refl _ _ _) rfl (by kernel_rfl) (by kernel_rfl) (by kernel_rfl) (by kernel_rfl) (by kernel_rfl) (by kernel_rfl) (by kernel_rfl) (by kernel_rfl) rfl (by simp [ZL]) ?_ ?_ ?_ ?_
     · simp only [Zr, and_true]
       exact ⟨fun u V V' h k => h.kept k (by decide), fun u V V' h k => h.kept k (by decide), fun u V V' h k => h.kept k (by decide)⟩
     · simp only [ZP, and_true]
       exact ⟨Nat.le_refl _, P_r0.out.blk.lt, P_r0.out.blk, by simp⟩
     · simp (maxSteps := 4000000) [ZA, Z9, Zf, Zs, Zj]
       repeat' (first | apply And.intro | (intro (u : Value)) | (intro (u : Nat)))
       all_goals try exact ⟨_, _, _, rfl, rfl, rfl, rfl, Xc⟩
       all_goals first
       | (intro V hV hK
          obtain ⟨-, a_n, b_n, -, -⟩ := (Zi.mk (hK.blk V_n.out.pair.blk (by decide))).facts
          clear hV hK
          go_simp
          first
          | exact Below.refl _ _
          | exact ⟨by first | rfl | decide | go_num, Below.refl _ _⟩
          | ((with_reducible refine (rof 1 one HONE.out (by decide) (by decide) V).mono ?_); rintro e w' ⟨v, rfl, hv, hb⟩; exact ⟨hv.base (Nat.zero_le _), hb⟩))
       | (intro V hV hK h1
          obtain ⟨A6, c6, rfl, r6⟩ := h1.raw
          have r7 := Hd r6
          clear hV hK h1 r6
          go_simp
          (with_reducible refine (YJ one D t A6 c6 V r7.out (by rw [HONE.out]; decide) t0 (by omega) HDD.out).mono ?_)
          rintro e w' ⟨v, rfl, hv, hb⟩
          exact ⟨hv.base (Nat.zero_le _), hb⟩)
       | (intro V hV hK h1
          have oz := O_n.out.kept hK (by decide)
          obtain ⟨A6, c6, rfl, -⟩ := h1.raw
          clear hV hK
          go_simp
          exact ⟨⟨_, _, _, _, rfl, oz, h1⟩, Below.refl _ _⟩)
       | exact fun _ _ _ (h : ZQ _ _ _ _ _) => h.cells
     · simp [Yd, ZC, Zf, Zs, Zj]
       intro u1 u2 u3 V hV hK h1 h2 h3 bq _ _ _
       have HF := Hd h3
       obtain ⟨A6, c6, A7, c7, rfl, -⟩ := h3.form
       simp [Yb, Value.cells] at bq
       have k0 := bq.cell 0
       have k1 := bq.cell 1
       have k2 := bq.cell 2
       have k3 := bq.cell 3
       simp at k0 k1 k2 k3
       have HB9 := Hd (HBW.out.trans (hV.mono (by omega)))
       clear h1 h2 h3 hV hK bq
       go_wp2_with fail
       exact bodyPost_ret (by simp [results, Tryz.results46, go_sem, k0, k1, k2, k3]) rfl ⟨.agg #[.bool (decide (mm < 0)), .slice A6 (Za mm.natAbs).length c6, .bool (decide (D < 0)), .slice A7 (Za D.natAbs).length c7], rfl, by rw [HRES.out.1, HRES.out.2]; exact HF.out, HB9.out⟩

theorem X0 (v : Nat) (hv : v < 18446744073709551616) (hf : Zz v < 9218868437227405312) (w : World) :
   Calls Tryz.prog 46 #[.float .f64 v] w (Z6 w (XD v) (XE v)) := by
 have g2 : bits BinOp.and IntKind.u64 (v : Int) 4503599627370495 = ((v % 4503599627370496 : Nat) : Int) := Xo v 52 hv (by decide)
 have g3 : bits BinOp.and IntKind.u64 ((v : Int) / 4503599627370496) 2047 = ((v / 4503599627370496 % 2048 : Nat) : Int) := Xo (v / 4503599627370496) 11 (by omega) (by decide)
 have hX : Zz v / 4503599627370496 = v / 4503599627370496 % 2048 := by unfold Zz; omega
 have hM : Zz v % 4503599627370496 = v % 4503599627370496 := by unfold Zz; omega
 have hM1 : Zz v = v / 4503599627370496 % 2048 * 4503599627370496 + v % 4503599627370496 := by omega
 have hneg : Xg v = decide (v / 9223372036854775808 = 1) := by
   unfold Xg
   by_cases h : v / 9223372036854775808 = 1
   · rw [h]; rfl
   · rw [show v / 9223372036854775808 = 0 by omega]; rfl
 have hE : Y2 (Zz v) = v / 4503599627370496 % 2048 - 1 := by unfold Y2; rw [hX]
 obtain ⟨M, hM2⟩ : ∃ k, k = v % 4503599627370496 := ⟨_, rfl⟩
 obtain ⟨X, hX2⟩ : ∃ k, k = v / 4503599627370496 % 2048 := ⟨_, rfl⟩
 have hMl : M < 4503599627370496 := by omega
 have hXl : X < 2047 := by omega
 rw [← hM2] at g2 hM1
 rw [← hX2] at g3 hX hE hM1
 have g6 : ∀ b : Bool, Xg v = b → (v : Int) / 9223372036854775808 = if b then 1 else 0 := fun b hb => by
   rw [hneg] at hb
   cases b with
   | true => have := of_decide_eq_true hb; rw [if_pos rfl]; omega
   | false => have := of_decide_eq_false hb; rw [if_neg (by decide)]; omega
 have hi := fint_eq v
 by_cases hX0 : X = 0
 · subst hX0
   have hm : Xs (Zz v) = M := by unfold Xs; rw [if_pos (by omega)]; omega
   have he : Y2 (Zz v) = 0 := by omega
   rw [hm, he] at hi
   cases hs : Xg v with
   | true =>
     rw [hs] at hi
     as_aux_lemma => exact rf_sm v _ M 0 w rfl (by omega) g2 g3 rfl (by omega) (by omega) (g6 _ hs) (by rw [hi, if_pos rfl, Int.neg_mul]; rfl)
   | false =>
     rw [hs] at hi
     as_aux_lemma => exact rf_sp v _ M 0 w rfl (by omega) g2 g3 rfl (by omega) (by omega) (g6 _ hs) (by rw [hi, if_neg (by decide)]; rfl)
 · obtain ⟨m, hmM⟩ : ∃ k, k = M + 4503599627370496 := ⟨_, rfl⟩
   have hm : Xs (Zz v) = m := by unfold Xs; rw [if_neg (by omega)]; omega
   obtain ⟨e, hE2⟩ : ∃ e, e = X - 1 := ⟨_, rfl⟩
   rw [← hE2] at hE
   rw [hm, hE] at hi
   cases hs : Xg v with
   | true =>
     rw [hs] at hi
     as_aux_lemma => exact rf_nm v _ M X m e w rfl (by omega) (by omega) (by omega) (by omega) (by omega) g2 g3 (by omega) (by omega) (by omega) (by omega) (by omega) (by omega) (by omega) (g6 _ hs) (by rw [hi, if_pos rfl, Int.neg_mul, Int.toNat_natCast])
   | false =>
     rw [hs] at hi
     as_aux_lemma => exact rf_np v _ M X m e w rfl (by omega) (by omega) (by omega) (by omega) (by omega) g2 g3 (by omega) (by omega) (by omega) (by omega) (by omega) (by omega) (by omega) (g6 _ hs) (by rw [hi, if_neg (by decide), Int.toNat_natCast])
/- Plus, Minus, Times, Over, Cmp of the references of chapter 02. (Written by wip/frac/gentrees.py.) -/

theorem cmpz_sign (x y : Int) : YT x y = (x - y).sign := by
 unfold YT
 by_cases h : x < y
 · rw [if_pos h, Int.sign_eq_neg_one_of_neg (by omega)]
 · rw [if_neg h]
   by_cases h2 : y < x
   · rw [Int.sign_eq_one_of_pos (by omega)]; simp; omega
   · have : x = y := by omega
     subst this
     simp
structure TurnIn (z d : Int) (B : Option Addr) (e0 : Nat) (v : Value) (V : World) : Prop where
 form : ∃ A c, v = .agg #[.bool (decide (z < 0)), .slice A (Za z.natAbs).length c, .bool (decide (d < 0)), .slice B (Za d.natAbs).length e0] ∧ Zc V 0 (.agg #[.bool (decide (z < 0)), .slice A (Za z.natAbs).length c]) z
theorem TurnIn.kept {z d : Int} {B : Option Addr} {e0 b : Nat} {v : Value} {V V' : World} {Ts : List TypeId} (h : TurnIn z d B e0 v V) (k : Zo b Ts V V') (hT : 104 ∉ Ts) : TurnIn z d B e0 v V' := by
 obtain ⟨A, c, h1, h2⟩ := h.form
 exact ⟨A, c, h1, h2.kept k hT⟩
theorem TurnIn.cells {z d : Int} {B : Option Addr} {e0 : Nat} {v : Value} {V : World} (h : TurnIn z d B e0 v V) : CellsN v 4 := by
 obtain ⟨A, c, rfl, -⟩ := h.form
 exact ⟨rfl, by simp [Value.cells, Value.oneCell']⟩

theorem ref02_Turned (n d z : Int) (A B : Option Addr) (c e0 : Nat) (w : World) (h_x : Zh w A c (Za n.natAbs)) (k_x : Zh w B e0 (Za d.natAbs)) (hn : lz n ≤ 10000) (hz : z = -n) :
   Calls Tryz.prog 141 #[.agg #[.bool (decide (n < 0)), .slice A (Za n.natAbs).length c, .bool (decide (d < 0)), .slice B (Za d.natAbs).length e0]] w fun e w' => ∃ v, e = .returned v ∧ TurnIn z d B e0 v w' ∧ Below w.heap.size w w' := by
 have HZ := Hd hz
 clear hz
 have b0 := (((Below.refl w.heap.size w).alloc (Nat.le_refl _) (.cells #[.bool (decide (n < 0)), .slice A (Za n.natAbs).length c, .bool (decide (d < 0)), .slice B (Za d.natAbs).length e0] 27)).alloc (by simp) (.cells #[.bool false, .slice none 0 0, .bool false, .slice none 0 0] 27))
 have p0 := (Zv.new w (.bool (decide (n < 0))) (.slice A (Za n.natAbs).length c) (.bool (decide (d < 0))) (.slice B (Za d.natAbs).length e0)).alloc (.cells #[.bool false, .slice none 0 0, .bool false, .slice none 0 0] 27)
 have p1 := Zv.new (w.alloc (.cells #[.bool (decide (n < 0)), .slice A (Za n.natAbs).length c, .bool (decide (d < 0)), .slice B (Za d.natAbs).length e0] 27)) (.bool false) (.slice none 0 0) (.bool false) (.slice none 0 0)
 simp only [World.size_alloc] at p1
 have V_x := Hd (FV.mk p0 (h_x.below b0) (k_x.below b0))
 have KW_x := Hd k_x
 have P_r0 := Hd p1
 have RW_x := Hd h_x
 have HBW := Hd b0
 clear b0 p0 p1 h_x k_x
 go_enter Tryz.func141, Tryz.ntmps141
 obtain ⟨W, E⟩ : ∃ W, W = ((w.alloc (.cells #[.bool (decide (n < 0)), .slice A (Za n.natAbs).length c, .bool (decide (d < 0)), .slice B (Za d.natAbs).length e0] 27)).alloc (.cells #[.bool false, .slice none 0 0, .bool false, .slice none 0 0] 27)) := ⟨_, rfl⟩
 go_upto_region 1 with fail
 rw [← E] at V_x P_r0 HBW ⊢
 clear E
 have hsz := P_r0.out.blk.lt
 go_wp2_with fail
 refine Ze [.val (.pointer (some ⟨w.heap.size, 0, none⟩)) [], .val (.agg #[.bool (decide (n < 0)), .slice A (Za n.natAbs).length c]) [], .any false (fun u V => Zc V 0 u z) [], .val (.pointer (some ⟨w.heap.size, 2, none⟩)) [], .val (.agg #[.bool (decide (d < 0)), .slice B (Za d.natAbs).length e0]) [], .any false (TurnIn z d B e0) [2], .old (w.heap.size + 1) 27 #[.bool false, .slice none 0 0, .bool false, .slice none 0 0] 0 4 5 []] (w.heap.size + 1) W [27] XM _ Zd (by omega) (Below.refl _ _) (Zo.refl _ _ _) rfl (by kernel_rfl) (by kernel_rfl) (by kernel_rfl) (by kernel_rfl) (by kernel_rfl) (by kernel_rfl) (by kernel_rfl) (by kernel_rfl) rfl (by simp [ZL]) ?_ ?_ ?_ ?_
 · simp only [Zr, and_true]
   exact ⟨fun u V V' h k => h.kept k (by decide), fun u V V' h k => h.kept k (by decide)⟩
 · simp only [ZP, and_true]
   exact ⟨Nat.le_refl _, P_r0.out.blk.lt, P_r0.out.blk, by simp⟩
 · simp (maxSteps := 4000000) [ZA, Z9, Zf, Zs, Zj]
   repeat' (first | apply And.intro | (intro (u : Value)) | (intro (u : Nat)))
   all_goals try exact ⟨_, _, _, rfl, rfl, rfl, rfl, Xc⟩
   all_goals first
   | (intro V hV hK
      have qx : Zv V (w.heap.size) _ _ _ _ := ⟨V_x.out.quad.blk.below hV (by omega)⟩
      obtain ⟨-, a_x, b_x, c_x, d_x, -, -, -, -⟩ := qx.facts
      have rn_x := Hd (RW_x.out.below (HBW.out.trans (hV.mono (by omega))))
      clear hV hK qx
      go_simp
      first
      | exact Below.refl _ _
      | ((with_reducible refine (rturned n z A c V rn_x.out (by omega) HZ.out).mono ?_); rintro e w' ⟨v, rfl, hv, hb⟩; exact ⟨hv.base (Nat.zero_le _), hb⟩)
)
   | (intro V hV hK h1
      obtain ⟨A6, c6, rfl, -⟩ := h1.raw
      clear hV hK
      go_simp
      exact ⟨⟨_, _, rfl, h1⟩, Below.refl _ _⟩)
   | exact fun _ _ _ (h : TurnIn _ _ _ _ _ _) => h.cells
 · simp [Yd, ZC, Zf, Zs, Zj]
   intro u1 u2 V hV hK h1 h2 bq _ _ _
   have HF := Hd h2
   obtain ⟨A6, c6, rfl, -⟩ := h2.form
   simp [Yb, Value.cells] at bq
   have k0 := bq.cell 0
   have k1 := bq.cell 1
   have k2 := bq.cell 2
   have k3 := bq.cell 3
   simp at k0 k1 k2 k3
   have HB9 := Hd (HBW.out.trans (hV.mono (by omega)))
   clear h1 h2 hV hK bq
   go_wp2_with fail
   exact bodyPost_ret (by simp [results, Tryz.results141, go_sem, k0, k1, k2, k3]) rfl ⟨_, rfl, HF.out, HB9.out⟩

theorem ref02_Plus (n d m f : Int) (A B A2 B2 : Option Addr) (c e0 c2 e2 : Nat) (w : World) (h_x : Zh w A c (Za n.natAbs)) (k_x : Zh w B e0 (Za d.natAbs)) (h_y : Zh w A2 c2 (Za m.natAbs)) (k_y : Zh w B2 e2 (Za f.natAbs)) (hn : lz n ≤ 10000) (hd : lz d ≤ 10000) (hm : lz m ≤ 10000) (hf : lz f ≤ 10000) (h0 : d ≠ 0) (h1 : f ≠ 0) :
   Calls Tryz.prog 143 #[.agg #[.bool (decide (n < 0)), .slice A (Za n.natAbs).length c, .bool (decide (d < 0)), .slice B (Za d.natAbs).length e0], .agg #[.bool (decide (m < 0)), .slice A2 (Za m.natAbs).length c2, .bool (decide (f < 0)), .slice B2 (Za f.natAbs).length e2]] w (Z6 w (addN n d m f) (JT n d m f)) := by
 obtain ⟨p, hp⟩ : ∃ k : Int, k = n * f := ⟨_, rfl⟩
 obtain ⟨q, hq⟩ : ∃ k : Int, k = m * d := ⟨_, rfl⟩
 have hlp := Xa n f
 have hlq := Xa m d
 rw [← hp] at hlp
 rw [← hq] at hlq
 obtain ⟨s, hs⟩ : ∃ k : Int, k = p + q := ⟨_, rfl⟩
 have hls := lz_add p q
 rw [← hs] at hls
 obtain ⟨t, ht⟩ : ∃ k : Int, k = d * f := ⟨_, rfl⟩
 have hlt := Xa d f
 rw [← ht] at hlt
 have HT0 := Hd (show t ≠ 0 from by rw [ht]; exact Int.mul_ne_zero h0 h1)
 obtain ⟨N, hN⟩ : ∃ k : Int, k = YG s t := ⟨_, rfl⟩
 obtain ⟨D, hD⟩ : ∃ k : Int, k = YC s t := ⟨_, rfl⟩
 have HND := Hd (show addN n d m f = N ∧ JT n d m f = D from by rw [hN, hD, hs, ht, hp, hq]; exact ⟨rfl, rfl⟩)
 have HS := Hd hs
 have HTT := Hd ht
 have HP := Hd hp
 have HQ := Hd hq
 have HLOW := Hd (And.intro hN hD)
 clear hp hq hs ht hN hD h0 h1
 have b0 := ((((Below.refl w.heap.size w).alloc (Nat.le_refl _) (.cells #[.bool (decide (n < 0)), .slice A (Za n.natAbs).length c, .bool (decide (d < 0)), .slice B (Za d.natAbs).length e0] 27)).alloc (by simp) (.cells #[.bool (decide (m < 0)), .slice A2 (Za m.natAbs).length c2, .bool (decide (f < 0)), .slice B2 (Za f.natAbs).length e2] 27)).alloc (by simp; omega) (.cells #[.bool false, .slice none 0 0, .bool false, .slice none 0 0] 27))
 have p0 := ((Zv.new w (.bool (decide (n < 0))) (.slice A (Za n.natAbs).length c) (.bool (decide (d < 0))) (.slice B (Za d.natAbs).length e0)).alloc (.cells #[.bool (decide (m < 0)), .slice A2 (Za m.natAbs).length c2, .bool (decide (f < 0)), .slice B2 (Za f.natAbs).length e2] 27)).alloc (.cells #[.bool false, .slice none 0 0, .bool false, .slice none 0 0] 27)
 have p1 := (Zv.new (w.alloc (.cells #[.bool (decide (n < 0)), .slice A (Za n.natAbs).length c, .bool (decide (d < 0)), .slice B (Za d.natAbs).length e0] 27)) (.bool (decide (m < 0))) (.slice A2 (Za m.natAbs).length c2) (.bool (decide (f < 0))) (.slice B2 (Za f.natAbs).length e2)).alloc (.cells #[.bool false, .slice none 0 0, .bool false, .slice none 0 0] 27)
 have p2 := Zv.new ((w.alloc (.cells #[.bool (decide (n < 0)), .slice A (Za n.natAbs).length c, .bool (decide (d < 0)), .slice B (Za d.natAbs).length e0] 27)).alloc (.cells #[.bool (decide (m < 0)), .slice A2 (Za m.natAbs).length c2, .bool (decide (f < 0)), .slice B2 (Za f.natAbs).length e2] 27)) (.bool false) (.slice none 0 0) (.bool false) (.slice none 0 0)
 simp only [World.size_alloc] at p1 p2
 have V_x := Hd (FV.mk p0 (h_x.below b0) (k_x.below b0))
 have KW_x := Hd k_x
 have V_y := Hd (FV.mk p1 (h_y.below b0) (k_y.below b0))
 have KW_y := Hd k_y
 have P_r0 := Hd p2
 have RW_x := Hd h_x
 have RW_y := Hd h_y
 have HBW := Hd b0
 clear b0 p0 p1 p2 h_x k_x h_y k_y
 go_enter Tryz.func143, Tryz.ntmps143
 obtain ⟨W, E⟩ : ∃ W, W = (((w.alloc (.cells #[.bool (decide (n < 0)), .slice A (Za n.natAbs).length c, .bool (decide (d < 0)), .slice B (Za d.natAbs).length e0] 27)).alloc (.cells #[.bool (decide (m < 0)), .slice A2 (Za m.natAbs).length c2, .bool (decide (f < 0)), .slice B2 (Za f.natAbs).length e2] 27)).alloc (.cells #[.bool false, .slice none 0 0, .bool false, .slice none 0 0] 27)) := ⟨_, rfl⟩
 go_upto_region 1 with fail
 rw [← E] at V_x V_y P_r0 HBW ⊢
 clear E
 have hsz := P_r0.out.blk.lt
 go_wp2_with fail
 refine Ze [.val (.pointer (some ⟨w.heap.size, 0, none⟩)) [], .val (.agg #[.bool (decide (n < 0)), .slice A (Za n.natAbs).length c]) [], .val (.pointer (some ⟨w.heap.size + 1, 2, none⟩)) [], .val (.agg #[.bool (decide (f < 0)), .slice B2 (Za f.natAbs).length e2]) [], .any false (fun u V => Zc V 0 u p) [], .val (.pointer (some ⟨w.heap.size + 1, 0, none⟩)) [], .val (.agg #[.bool (decide (m < 0)), .slice A2 (Za m.natAbs).length c2]) [], .val (.pointer (some ⟨w.heap.size, 2, none⟩)) [], .val (.agg #[.bool (decide (d < 0)), .slice B (Za d.natAbs).length e0]) [], .any false (fun u V => Zc V 0 u q) [], .any false (fun u V => Zc V 0 u s) [4, 9], .new 25 2, .put 25 2 11 10 []] W.heap.size W [25] (fun _ _ => False) _ Zd (Nat.le_refl _) (Below.refl _ _) (Zo.refl _ _ _) rfl (by kernel_rfl) (by kernel_rfl) (by kernel_rfl) (by kernel_rfl) (by kernel_rfl) (by kernel_rfl) (by kernel_rfl) (by kernel_rfl) rfl (by simp [ZL]) ?_ ?_ ?_ ?_
 · simp only [Zr, and_true]
   exact ⟨fun u V V' h k => h.kept k (by decide), fun u V V' h k => h.kept k (by decide), fun u V V' h k => h.kept k (by decide)⟩
 · simp only [ZP]
 · simp (maxSteps := 4000000) [ZA, Z9, Zf, Zs, Zj]
   repeat' (first | apply And.intro | (intro (u : Value)) | (intro (u : Nat)))
   all_goals try exact ⟨_, _, _, rfl, rfl, rfl, rfl, XR⟩
   all_goals try exact allocInt rfl
   all_goals first
   | (intro V hV hK
      have qx : Zv V (w.heap.size) _ _ _ _ := ⟨V_x.out.quad.blk.below hV (by omega)⟩
      obtain ⟨-, a_x, b_x, c_x, d_x, -, -, -, -⟩ := qx.facts
      have qy : Zv V (w.heap.size + 1) _ _ _ _ := ⟨V_y.out.quad.blk.below hV (by omega)⟩
      obtain ⟨-, a_y, b_y, c_y, d_y, -, -, -, -⟩ := qy.facts
      have rn_x := Hd (RW_x.out.below (HBW.out.trans (hV.mono (by omega))))
      have rd_x := Hd (KW_x.out.below (HBW.out.trans (hV.mono (by omega))))
      have rn_y := Hd (RW_y.out.below (HBW.out.trans (hV.mono (by omega))))
      have rd_y := Hd (KW_y.out.below (HBW.out.trans (hV.mono (by omega))))
      clear hV hK qx qy
      go_simp
      first
      | exact Below.refl _ _
      | ((with_reducible refine (rtimes n f p A B2 c e2 V rn_x.out rd_y.out (by omega) (by omega) HP.out).mono ?_); rintro e w' ⟨v, rfl, hv, hb⟩; exact ⟨hv.base (Nat.zero_le _), hb⟩)
      | ((with_reducible refine (rtimes m d q A2 B c2 e0 V rn_y.out rd_x.out (by omega) (by omega) HQ.out).mono ?_); rintro e w' ⟨v, rfl, hv, hb⟩; exact ⟨hv.base (Nat.zero_le _), hb⟩)
)
   | (intro V hV hK h1 h2
      obtain ⟨A6, c6, rfl, r6⟩ := h1.raw
      obtain ⟨A7, c7, rfl, r7⟩ := h2.raw
      clear hV hK h1 h2
      go_simp
      (with_reducible refine (rplus p q s A6 A7 c6 c7 V r6 r7 (by omega) (by omega) HS.out).mono ?_); rintro e w' ⟨v, rfl, hv, hb⟩; exact ⟨hv.base (Nat.zero_le _), hb⟩)
   | exact fun _ _ _ (h : Zc _ _ _ _) => h.cells
   | exact fun _ _ _ (h : Zc _ _ _ _) _ => h.cells
 · simp [Yd, ZC, Zf, Zs, Zj]
   intro u1 u2 u3 bs hbs V hV hK h1 h2 h3 p1 _ _ _
   obtain ⟨A5, c5, rfl, r1⟩ := h3.raw
   have V_s := Hd (show NV V bs s A5 c5 from ⟨⟨p1⟩, r1⟩)
   have O_s := Hd h3
   have V_x := Hd (V_x.out.below hV)
   have V_y := Hd (V_y.out.below hV)
   have HBW := Hd (Zb HBW.out hV)
   have P_r0 := Hd (P_r0.out.below hV)
   have hsv := hV.size
   clear hV hK h1 h2 h3 p1 r1 hbs
   go_wp2_with fail
   refine Ze [.val (.agg #[.bool (decide (s < 0)), .slice A5 (Za s.natAbs).length c5]) [], .val (.pointer (some ⟨w.heap.size, 2, none⟩)) [], .val (.agg #[.bool (decide (d < 0)), .slice B (Za d.natAbs).length e0]) [], .val (.pointer (some ⟨w.heap.size + 1, 2, none⟩)) [], .val (.agg #[.bool (decide (f < 0)), .slice B2 (Za f.natAbs).length e2]) [], .any false (fun u V => Zc V 0 u t) [], .any false (fun u V => ZQ V 0 u N D) [5], .old (w.heap.size + 1 + 1) 27 #[.bool false, .slice none 0 0, .bool false, .slice none 0 0] 0 4 6 []] (w.heap.size + 1 + 1) V [27] XM _ Zd (by omega) (Below.refl _ _) (Zo.refl _ _ _) rfl (by kernel_rfl) (by kernel_rfl) (by kernel_rfl) (by kernel_rfl) (by kernel_rfl) (by kernel_rfl) (by kernel_rfl) (by kernel_rfl) rfl (by simp [ZL]) ?_ ?_ ?_ ?_
   · simp only [Zr, and_true]
     exact ⟨fun u V V' h k => h.kept k (by decide), fun u V V' h k => h.kept k (by decide)⟩
   · simp only [ZP, and_true]
     exact ⟨Nat.le_refl _, P_r0.out.blk.lt, P_r0.out.blk, by simp⟩
   · simp (maxSteps := 4000000) [ZA, Z9, Zf, Zs, Zj]
     repeat' (first | apply And.intro | (intro (u : Value)) | (intro (u : Nat)))
     all_goals try exact ⟨_, _, _, rfl, rfl, rfl, rfl, Xc⟩
     all_goals first
     | (intro V' hV hK
        have qx : Zv V' (w.heap.size) _ _ _ _ := ⟨V_x.out.quad.blk.below hV (by omega)⟩
        obtain ⟨-, a_x, b_x, c_x, d_x, -, -, -, -⟩ := qx.facts
        have qy : Zv V' (w.heap.size + 1) _ _ _ _ := ⟨V_y.out.quad.blk.below hV (by omega)⟩
        obtain ⟨-, a_y, b_y, c_y, d_y, -, -, -, -⟩ := qy.facts
        have rn_x := Hd (RW_x.out.below (HBW.out.trans (hV.mono (by omega))))
        have rd_x := Hd (KW_x.out.below (HBW.out.trans (hV.mono (by omega))))
        have rn_y := Hd (RW_y.out.below (HBW.out.trans (hV.mono (by omega))))
        have rd_y := Hd (KW_y.out.below (HBW.out.trans (hV.mono (by omega))))
        obtain ⟨-, a_s, b_s, -, -⟩ := (Zi.mk (hK.blk V_s.out.pair.blk (by decide))).facts
        clear hV hK qx qy
        go_simp
        first
        | exact Below.refl _ _
        | ((with_reducible refine (rtimes d f t B B2 e0 e2 V' rd_x.out rd_y.out (by omega) (by omega) HTT.out).mono ?_); rintro e w' ⟨v, rfl, hv, hb⟩; exact ⟨hv.base (Nat.zero_le _), hb⟩)
 )
     | (intro V' hV hK h1
        obtain ⟨A7, c7, rfl, r7⟩ := h1.raw
        have rs := (O_s.out.kept hK (by decide)).rawAt
        clear hV hK
        go_simp
        (with_reducible refine (rlow s t A5 A7 c5 c7 V' rs r7 (by omega) (by omega) HT0.out).mono ?_); rintro e w' ⟨v, rfl, hv, hb⟩; rw [← HLOW.out.1, ← HLOW.out.2] at hv; exact ⟨hv, hb⟩)
     | exact fun _ _ _ (h : ZQ _ _ _ _ _) => h.cells
   · simp [Yd, ZC, Zf, Zs, Zj]
     intro u1 u2 V' hV hK h1 h2 bq _ _ _
     have HF := Hd h2
     obtain ⟨A6, c6, A7, c7, rfl, -⟩ := h2.form
     simp [Yb, Value.cells] at bq
     have k0 := bq.cell 0
     have k1 := bq.cell 1
     have k2 := bq.cell 2
     have k3 := bq.cell 3
     simp at k0 k1 k2 k3
     have HB9 := Hd (HBW.out.trans (hV.mono (by omega)))
     clear h1 h2 hV hK bq
     go_wp2_with fail
     exact bodyPost_ret (by simp [results, Tryz.results143, go_sem, k0, k1, k2, k3]) rfl ⟨.agg #[.bool (decide (N < 0)), .slice A6 (Za N.natAbs).length c6, .bool (decide (D < 0)), .slice A7 (Za D.natAbs).length c7], rfl, by rw [HND.out.1, HND.out.2]; exact HF.out, HB9.out⟩

theorem ref02_Cmp (n d m f k : Int) (A B A2 B2 : Option Addr) (c e0 c2 e2 : Nat) (w : World) (h_x : Zh w A c (Za n.natAbs)) (k_x : Zh w B e0 (Za d.natAbs)) (h_y : Zh w A2 c2 (Za m.natAbs)) (k_y : Zh w B2 e2 (Za f.natAbs)) (hn : lz n ≤ 10000) (hd : lz d ≤ 10000) (hm : lz m ≤ 10000) (hf : lz f ≤ 10000) (hk : k = YT (n * f) (m * d)) :
   Calls Tryz.prog 144 #[.agg #[.bool (decide (n < 0)), .slice A (Za n.natAbs).length c, .bool (decide (d < 0)), .slice B (Za d.natAbs).length e0], .agg #[.bool (decide (m < 0)), .slice A2 (Za m.natAbs).length c2, .bool (decide (f < 0)), .slice B2 (Za f.natAbs).length e2]] w fun e w' => e = .returned (.int .i64 k) ∧ Below w.heap.size w w' := by
 obtain ⟨p, hp⟩ : ∃ k : Int, k = n * f := ⟨_, rfl⟩
 obtain ⟨q, hq⟩ : ∃ k : Int, k = m * d := ⟨_, rfl⟩
 have hlp := Xa n f
 have hlq := Xa m d
 rw [← hp] at hlp hk
 rw [← hq] at hlq hk
 have HP := Hd hp
 have HQ := Hd hq
 have HK := Hd hk
 clear hp hq hk
 obtain ⟨s, hs⟩ : ∃ k : Int, k = p - q := ⟨_, rfl⟩
 have hls := lz_sub p q
 rw [← hs] at hls
 have HS := Hd hs
 have HKS := Hd (show k = s.sign from by rw [HK.out, cmpz_sign, hs])
 clear hs
 have b0 := (((Below.refl w.heap.size w).alloc (Nat.le_refl _) (.cells #[.bool (decide (n < 0)), .slice A (Za n.natAbs).length c, .bool (decide (d < 0)), .slice B (Za d.natAbs).length e0] 27)).alloc (by simp) (.cells #[.bool (decide (m < 0)), .slice A2 (Za m.natAbs).length c2, .bool (decide (f < 0)), .slice B2 (Za f.natAbs).length e2] 27))
 have p0 := (Zv.new w (.bool (decide (n < 0))) (.slice A (Za n.natAbs).length c) (.bool (decide (d < 0))) (.slice B (Za d.natAbs).length e0)).alloc (.cells #[.bool (decide (m < 0)), .slice A2 (Za m.natAbs).length c2, .bool (decide (f < 0)), .slice B2 (Za f.natAbs).length e2] 27)
 have p1 := Zv.new (w.alloc (.cells #[.bool (decide (n < 0)), .slice A (Za n.natAbs).length c, .bool (decide (d < 0)), .slice B (Za d.natAbs).length e0] 27)) (.bool (decide (m < 0))) (.slice A2 (Za m.natAbs).length c2) (.bool (decide (f < 0))) (.slice B2 (Za f.natAbs).length e2)
 simp only [World.size_alloc] at p1
 have V_x := Hd (FV.mk p0 (h_x.below b0) (k_x.below b0))
 have KW_x := Hd k_x
 have V_y := Hd (FV.mk p1 (h_y.below b0) (k_y.below b0))
 have KW_y := Hd k_y
 have RW_x := Hd h_x
 have RW_y := Hd h_y
 have HBW := Hd b0
 clear b0 p0 p1 h_x k_x h_y k_y
 go_enter Tryz.func144, Tryz.ntmps144
 obtain ⟨W, E⟩ : ∃ W, W = ((w.alloc (.cells #[.bool (decide (n < 0)), .slice A (Za n.natAbs).length c, .bool (decide (d < 0)), .slice B (Za d.natAbs).length e0] 27)).alloc (.cells #[.bool (decide (m < 0)), .slice A2 (Za m.natAbs).length c2, .bool (decide (f < 0)), .slice B2 (Za f.natAbs).length e2] 27)) := ⟨_, rfl⟩
 go_upto_region 1 with fail
 rw [← E] at V_x V_y HBW ⊢
 clear E
 go_wp2_with fail
 refine Ze [.val (.pointer (some ⟨w.heap.size, 0, none⟩)) [], .val (.agg #[.bool (decide (n < 0)), .slice A (Za n.natAbs).length c]) [], .val (.pointer (some ⟨w.heap.size + 1, 2, none⟩)) [], .val (.agg #[.bool (decide (f < 0)), .slice B2 (Za f.natAbs).length e2]) [], .any false (fun u V => Zc V 0 u p) [], .val (.pointer (some ⟨w.heap.size + 1, 0, none⟩)) [], .val (.agg #[.bool (decide (m < 0)), .slice A2 (Za m.natAbs).length c2]) [], .val (.pointer (some ⟨w.heap.size, 2, none⟩)) [], .val (.agg #[.bool (decide (d < 0)), .slice B (Za d.natAbs).length e0]) [], .any false (fun u V => Zc V 0 u q) [], .any false (fun u V => Zc V 0 u s) [4, 9], .new 25 2, .put 25 2 11 10 []] W.heap.size W [25] (fun _ _ => False) _ Zd (Nat.le_refl _) (Below.refl _ _) (Zo.refl _ _ _) rfl (by kernel_rfl) (by kernel_rfl) (by kernel_rfl) (by kernel_rfl) (by kernel_rfl) (by kernel_rfl) (by kernel_rfl) (by kernel_rfl) rfl (by simp [ZL]) ?_ ?_ ?_ ?_
 · simp only [Zr, and_true]
   exact ⟨fun u V V' h k => h.kept k (by decide), fun u V V' h k => h.kept k (by decide), fun u V V' h k => h.kept k (by decide)⟩
 · simp only [ZP]
 · simp (maxSteps := 4000000) [ZA, Z9, Zf, Zs, Zj]
   repeat' (first | apply And.intro | (intro (u : Value)) | (intro (u : Nat)))
   all_goals try exact ⟨_, _, _, rfl, rfl, rfl, rfl, XR⟩
   all_goals try exact allocInt rfl
   all_goals first
   | (intro V hV hK
      have qx : Zv V (w.heap.size) _ _ _ _ := ⟨V_x.out.quad.blk.below hV (by have := V_y.out.quad.blk.lt; omega)⟩
      obtain ⟨-, a_x, b_x, c_x, d_x, -, -, -, -⟩ := qx.facts
      have qy : Zv V (w.heap.size + 1) _ _ _ _ := ⟨V_y.out.quad.blk.below hV (by have := V_y.out.quad.blk.lt; omega)⟩
      obtain ⟨-, a_y, b_y, c_y, d_y, -, -, -, -⟩ := qy.facts
      have rn_x := Hd (RW_x.out.below (HBW.out.trans (hV.mono HBW.out.size)))
      have rd_x := Hd (KW_x.out.below (HBW.out.trans (hV.mono HBW.out.size)))
      have rn_y := Hd (RW_y.out.below (HBW.out.trans (hV.mono HBW.out.size)))
      have rd_y := Hd (KW_y.out.below (HBW.out.trans (hV.mono HBW.out.size)))
      clear hV hK qx qy
      go_simp
      first
      | exact Below.refl _ _
      | ((with_reducible refine (rtimes n f p A B2 c e2 V rn_x.out rd_y.out (by omega) (by omega) HP.out).mono ?_); rintro e w' ⟨v, rfl, hv, hb⟩; exact ⟨hv.base (Nat.zero_le _), hb⟩)
      | ((with_reducible refine (rtimes m d q A2 B c2 e0 V rn_y.out rd_x.out (by omega) (by omega) HQ.out).mono ?_); rintro e w' ⟨v, rfl, hv, hb⟩; exact ⟨hv.base (Nat.zero_le _), hb⟩)
)
   | (intro V hV hK h1 h2
      obtain ⟨A6, c6, rfl, r6⟩ := h1.raw
      obtain ⟨A7, c7, rfl, r7⟩ := h2.raw
      clear hV hK h1 h2
      go_simp
      (with_reducible refine (rminus p q s A6 A7 c6 c7 V r6 r7 (by omega) (by omega) HS.out).mono ?_); rintro e w' ⟨v, rfl, hv, hb⟩; exact ⟨hv.base (Nat.zero_le _), hb⟩)
   | exact fun _ _ _ (h : Zc _ _ _ _) => h.cells
   | exact fun _ _ _ (h : Zc _ _ _ _) _ => h.cells
 · simp [Yd, ZC, Zf, Zs, Zj]
   intro u1 u2 u3 bs hbs V hV hK h1 h2 h3 p1 _ _ _
   obtain ⟨A5, c5, rfl, r1⟩ := h3.raw
   have V_s := Hd (show NV V bs s A5 c5 from ⟨⟨p1⟩, r1⟩)
   have O_s := Hd h3
   have V_x := Hd (V_x.out.below hV)
   have V_y := Hd (V_y.out.below hV)
   have HBW := Hd (Zb HBW.out hV)
   clear hV hK h1 h2 h3 p1 r1 hbs
   obtain ⟨l_s, a_s, b_s, -, -⟩ := V_s.out.pair.facts
   go_wp2_with fail
   refine (JL s k A5 c5 V V_s.out.raw HKS.out).mono ?_
   rintro e w9 ⟨rfl, hb⟩
   have HF := Hd (Zb HBW.out hb)
   clear l_s a_s b_s hb
   go_wp2_with fail
   go_ret
   exact ⟨rfl, HF.out⟩

/- worth, Below of the references of chapter 02. (Written by wip/frac/genbelow.py.) -/

def X7 (r : Nat) : Int := YG (ZY r : Int) Yp
def XF (r : Nat) : Int := YC (ZY r : Int) Yp
theorem JK : 0 < Yp := by have := Xk 1074; unfold Yp; omega
theorem fint_rung {r : Nat} (h : r < 9223372036854775808) : YS r = (ZY r : Int) := by
 have e3 : r / 9223372036854775808 = 0 := by omega
 have e4 : Zz r = r := by unfold Zz; omega
 unfold YS Xg
 rw [e3, e4]
 rfl
theorem flt_rung {r : Nat} (h : r < 9223372036854775808) : XD r = X7 r ∧ XE r = XF r := by
 unfold XD XE X7 XF
 rw [fint_rung h]
 exact ⟨rfl, rfl⟩
theorem wr_inf : X7 9218868437227405312 = (p2 1024 : Nat) ∧ XF 9218868437227405312 = 1 := by
 have h := fval_at (E := 2046) (k := 4503599627370496) (by omega) (by omega)
 have e : ZY 9218868437227405312 = p2 1024 * p2 1074 := by
   rw [show 9218868437227405312 = 2046 * 4503599627370496 + 4503599627370496 from rfl, h, show 4503599627370496 = p2 52 from rfl, ← YO, ← YO]
 refine low_pow (s := (ZY 9218868437227405312 : Int)) (a := (p2 1024 : Nat)) (t := 0) (K := 1074) (.inl rfl) ?_
 rw [e, p2_zero, Int.natCast_mul]
 simp
theorem wr_pos (r : Nat) : 0 < XF r := lowD_pos _ JK
theorem wr_cross (r : Nat) : X7 r * Yp = (ZY r : Int) * XF r := low_cross _ JK
theorem p2_lt {a b : Nat} (h : a < b) : p2 a < p2 b := Nat.pow_lt_pow_right (by omega) h
theorem p2_toNat (t : Int) : (2 ^ t.toNat : Nat) = p2 t.toNat := rfl
theorem p2_lz {j : Nat} {x : Int} (h : x.natAbs < p2 (32 * j)) : lz x ≤ j := by
 unfold lz
 refine ZD.2 ?_
 rw [show (4294967296 : Nat) ^ j = p2 (32 * j) by unfold p2; rw [Nat.pow_mul]]
 exact h
theorem wr_lz {r : Nat} (h : r ≤ 9218868437227405312) : lz (X7 r) ≤ 70 ∧ lz (XF r) ≤ 70 := by
 have h1 := lowN_lz (ZY r : Int) Yp
 have h2 := lowD_lz (ZY r : Int) Yp
 have h3 : ZY r ≤ p2 2098 := by
   have h4 := XL h
   have e : ZY 9218868437227405312 = p2 2098 := by
     rw [show 9218868437227405312 = 2046 * 4503599627370496 + 4503599627370496 from rfl, fval_at (E := 2046) (k := 4503599627370496) (by omega) (by omega), show 4503599627370496 = p2 52 from rfl, ← YO]
   rw [← e]
   exact h4
 have h5 : p2 2098 < p2 (32 * 70) := p2_lt (by omega)
 have h6 : p2 1074 < p2 (32 * 70) := p2_lt (by omega)
 exact ⟨Nat.le_trans h1 (p2_lz (by rw [Int.natAbs_natCast]; omega)), Nat.le_trans h2 (p2_lz (by unfold Yp; rw [Int.natAbs_natCast]; exact h6))⟩

theorem ref02_worth_fin (r : Nat) (ri : Int) (w : World)  (hr : (r : Int) = ri) (h1 : ri < 9218868437227405312) :
   Calls Tryz.prog 145 #[.int .u64 ri] w (Z6 w (X7 r) (XF r)) := by
 have h2 := XV r
 rw [hr] at h2
 have hne : (ri == 9218868437227405312) = false := by simp; omega
 have hrl : r < 9218868437227405312 := by omega
 have C := fun (V : World) => X0 r (by omega) (by unfold Zz; omega) V
 rw [(flt_rung (show r < 9223372036854775808 by omega)).1, (flt_rung (show r < 9223372036854775808 by omega)).2] at C
 have H1 := Hd C
 clear C hr hrl h1
 have b0 := ((Below.refl w.heap.size w).alloc (Nat.le_refl _) (.cells #[.bool false, .slice none 0 0, .bool false, .slice none 0 0] 27))
 have p0 := Zv.new w (.bool false) (.slice none 0 0) (.bool false) (.slice none 0 0)
 have P_r0 := Hd p0
 have HBW := Hd b0
 clear b0 p0 
 go_enter Tryz.func145, Tryz.ntmps145
 obtain ⟨W, E⟩ : ∃ W, W = (w.alloc (.cells #[.bool false, .slice none 0 0, .bool false, .slice none 0 0] 27)) := ⟨_, rfl⟩
 go_upto_region 1 with fail
 rw [← E] at P_r0 HBW ⊢
 clear E
 go_wp2_with fail
 refine (H1.out W).mono ?_
 rintro e x1 ⟨v2, rfl, hF, hb⟩
 obtain ⟨A4, c4, A5, c5, e4, -⟩ := hF.form
 generalize X7 r = N at *
 generalize XF r = D at *
 obtain rfl := e4
 have P_r0 := Hd (P_r0.out.below hb)
 have HBW := Hd (Zb HBW.out hb)
 clear hb
 have HF := Hd hF
 clear hF
 obtain ⟨l_r0, a_r0, b_r0, f_r0, g_r0⟩ := P_r0.out.facts
 have HQ := Hd (P_r0.out.store (.bool (decide (N < 0))) (.slice A4 (Za N.natAbs).length c4) (.bool (decide (D < 0))) (.slice A5 (Za D.natAbs).length c5))
 have HB := Hd (Z1 HBW.out (show w.heap.size ≤ w.heap.size by omega) (.bool (decide (N < 0))) (.slice A4 (Za N.natAbs).length c4) (.bool (decide (D < 0))) (.slice A5 (Za D.natAbs).length c5))
 have HF9 := Hd (HF.out.quad P_r0.out (.bool (decide (N < 0))) (.slice A4 (Za N.natAbs).length c4) (.bool (decide (D < 0))) (.slice A5 (Za D.natAbs).length c5))
 go_wp2_with fail
 obtain ⟨_, k0, k1, k2, k3, _, _, _, _⟩ := HQ.out.facts
 exact bodyPost_ret (by simp [results, Tryz.results145, go_sem, k0, k1, k2, k3]) rfl ⟨_, rfl, HF9.out, HB.out⟩

theorem ref02_worth_inf (one D : Int) (w : World)  (hone : one = 1) (hD : D = one * ((p2 1024 : Nat) : Int)) :
   Calls Tryz.prog 145 #[.int .u64 9218868437227405312] w (Z6 w D one) := by
 have H1 := Hd (fun (V : World) => rof 1 one hone (by decide) (by decide) V)
 have H2 := Hd (fun (V : World) (A : Option Addr) (c : Nat) (h : Zh V A c (Za one.natAbs)) => YJ one D 1024 A c V h (by rw [hone]; decide) (by omega) (by omega) (by rw [p2_toNat, show (1024 : Int).toNat = 1024 from rfl]; exact hD))
 have HONE := Hd hone
 clear hone hD
 have b0 := ((Below.refl w.heap.size w).alloc (Nat.le_refl _) (.cells #[.bool false, .slice none 0 0, .bool false, .slice none 0 0] 27))
 have p0 := Zv.new w (.bool false) (.slice none 0 0) (.bool false) (.slice none 0 0)
 have P_r0 := Hd p0
 have HBW := Hd b0
 clear b0 p0 
 go_enter Tryz.func145, Tryz.ntmps145
 obtain ⟨W, E⟩ : ∃ W, W = (w.alloc (.cells #[.bool false, .slice none 0 0, .bool false, .slice none 0 0] 27)) := ⟨_, rfl⟩
 go_upto_region 1 with fail
 rw [← E] at P_r0 HBW ⊢
 clear E
 go_wp2_with fail
 refine (H1.out W).mono ?_
 rintro e x1 ⟨v2, rfl, hI, hb⟩
 obtain ⟨A1, c1, rfl, r1⟩ := hI.raw
 have R1 := Hd r1
 have P_r0 := Hd (P_r0.out.below hb)
 have HBW := Hd (Zb HBW.out hb)
 clear hb
 clear hI r1
 go_wp2_with fail
 refine (H2.out x1 A1 c1 R1.out).mono ?_
 rintro e x2 ⟨v3, rfl, hI, hb⟩
 have hI0 := hI.base (Nat.zero_le _)
 obtain ⟨A3, c3, rfl, r3⟩ := hI.raw
 have P_r0 := Hd (P_r0.out.below hb)
 have R1 := Hd (R1.out.below hb)
 have HBW := Hd (Zb HBW.out hb)
 clear hb
 have O_D := Hd hI0
 have R_D := Hd r3
 clear hI hI0 r3 R1
 go_wp2_with fail
 refine (YI D one A3 c3 x2 R_D.out O_D.out HONE.out).mono ?_
 rintro e x3 ⟨v5, rfl, hF, hb⟩
 obtain ⟨A4, c4, A5, c5, rfl, -⟩ := hF.form
 have P_r0 := Hd (P_r0.out.below hb)
 have O_D := Hd (O_D.out.below hb)
 have R_D := Hd (R_D.out.below hb)
 have HBW := Hd (Zb HBW.out hb)
 clear hb
 have HF := Hd hF
 clear hF
 obtain ⟨l_r0, a_r0, b_r0, f_r0, g_r0⟩ := P_r0.out.facts
 have HQ := Hd (P_r0.out.store (.bool (decide (D < 0))) (.slice A4 (Za D.natAbs).length c4) (.bool (decide (one < 0))) (.slice A5 (Za one.natAbs).length c5))
 have HB := Hd (Z1 HBW.out (show w.heap.size ≤ w.heap.size by omega) (.bool (decide (D < 0))) (.slice A4 (Za D.natAbs).length c4) (.bool (decide (one < 0))) (.slice A5 (Za one.natAbs).length c5))
 have HF9 := Hd (HF.out.quad P_r0.out (.bool (decide (D < 0))) (.slice A4 (Za D.natAbs).length c4) (.bool (decide (one < 0))) (.slice A5 (Za one.natAbs).length c5))
 go_wp2_with fail
 obtain ⟨_, k0, k1, k2, k3, _, _, _, _⟩ := HQ.out.facts
 exact bodyPost_ret (by simp [results, Tryz.results145, go_sem, k0, k1, k2, k3]) rfl ⟨_, rfl, HF9.out, HB.out⟩

theorem Jv (r : Nat) (ri : Int) (hr : (r : Int) = ri) (h : ri ≤ 9218868437227405312) (w : World) : Calls Tryz.prog 145 #[.int .u64 ri] w (Z6 w (X7 r) (XF r)) := by
 by_cases hi : ri = 9218868437227405312
 · have er : r = 9218868437227405312 := by omega
   rw [er, wr_inf.1, wr_inf.2, hi]
   exact ref02_worth_inf 1 _ w rfl (by rw [Int.one_mul])
 · exact ref02_worth_fin r ri w hr (by omega)
theorem wr_le {r : Nat} {n d : Int} : YT (X7 r * d) (n * XF r) ≤ 0 ↔ (ZY r : Int) * d ≤ n * Yp := by
 rw [cmpz_le0]
 have hp := wr_pos r
 have hc := wr_cross r
 have hq := JK
 generalize X7 r = N at *
 generalize XF r = D at *
 generalize Yp = Q at *
 have e1 : N * d * Q = (ZY r : Int) * d * D := by rw [show N * d * Q = N * Q * d by simp only [Int.mul_comm, Int.mul_left_comm], hc]; simp only [Int.mul_comm, Int.mul_left_comm]
 have e2 : n * D * Q = n * Q * D := by simp only [Int.mul_comm, Int.mul_left_comm]
 constructor
 · intro h
   have := Int.mul_le_mul_of_nonneg_right h (show 0 ≤ Q by omega)
   rw [e1, e2] at this
   exact Int.le_of_mul_le_mul_right this hp
 · intro h
   have := Int.mul_le_mul_of_nonneg_right h (show 0 ≤ D by omega)
   rw [← e1, ← e2] at this
   exact Int.le_of_mul_le_mul_right this hq
def RetRung (w : World) (n d : Int) (e : Ending) (w' : World) : Prop := ∃ b : Int, e = .returned (.int .u64 b) ∧ 0 ≤ b ∧ b < 9218868437227405312 ∧ ((ZY b.toNat : Int) * d ≤ n * Yp ∧ (b + 1 = 9218868437227405312 ∨ n * Yp < (ZY (b + 1).toNat : Int) * d)) ∧ Below w.heap.size w w'

theorem ref02_Below (n d : Int) (A B : Option Addr) (c e0 : Nat) (w : World) (h_x : Zh w A c (Za n.natAbs)) (k_x : Zh w B e0 (Za d.natAbs)) (hn0 : 0 ≤ n) (hln : lz n ≤ 3000) (hld : lz d ≤ 3000) :
   Calls Tryz.prog 142 #[.agg #[.bool (decide (n < 0)), .slice A (Za n.natAbs).length c, .bool (decide (d < 0)), .slice B (Za d.natAbs).length e0]] w (RetRung w n d) := by
 have HS := Hd (show (ZY (0 : Int).toNat : Int) * d ≤ n * Yp ∧ ((9218868437227405312 : Int) = 9218868437227405312 ∨ n * Yp < (ZY (9218868437227405312 : Int).toNat : Int) * d) from ⟨by
   rw [show (0 : Int).toNat = 0 from rfl, Jf]
   have := Int.mul_nonneg hn0 (show 0 ≤ Yp from Int.le_of_lt JK)
   simpa using this, .inl rfl⟩)
 clear hn0
 have b0 := ((Below.refl w.heap.size w).alloc (Nat.le_refl _) (.cells #[.bool (decide (n < 0)), .slice A (Za n.natAbs).length c, .bool (decide (d < 0)), .slice B (Za d.natAbs).length e0] 27))
 have p0 := Zv.new w (.bool (decide (n < 0))) (.slice A (Za n.natAbs).length c) (.bool (decide (d < 0))) (.slice B (Za d.natAbs).length e0)
 have V_x := Hd (FV.mk p0 (h_x.below b0) (k_x.below b0))
 have KW_x := Hd k_x
 have RW_x := Hd h_x
 have HBW := Hd b0
 clear b0 p0 h_x k_x
 go_enter Tryz.func142, Tryz.ntmps142
 obtain ⟨W, E⟩ : ∃ W, W = (w.alloc (.cells #[.bool (decide (n < 0)), .slice A (Za n.natAbs).length c, .bool (decide (d < 0)), .slice B (Za d.natAbs).length e0] 27)) := ⟨_, rfl⟩
 go_upto_region 1 with fail
 rw [← E] at V_x HBW ⊢
 clear E
 go_wp2_with fail
 go_loopw [3, 4] (fun s t wr => ∃ lo hi : Int, s = .int .u64 lo ∧ t = .int .u64 hi ∧ 0 ≤ lo ∧ lo < hi ∧ hi ≤ 9218868437227405312 ∧ Hid ((ZY lo.toNat : Int) * d ≤ n * Yp ∧ (hi = 9218868437227405312 ∨ n * Yp < (ZY hi.toNat : Int) * d)) ∧ Hid (FV wr w.heap.size n d A c B e0) ∧ Hid (Below w.heap.size w wr)) (fun s t _ => (intOf t - intOf s).toNat)
 case atStart => exact ⟨0, 9218868437227405312, rfl, rfl, by decide, by decide, by decide, Hd ⟨HS.out.1, .inl rfl⟩, V_x, HBW⟩
 case round =>
   clear V_x HBW HS
   obtain ⟨lo, hi, rfl, rfl, a0, a1, a2, HR, V_x, HBW⟩ := hrel
   by_cases hgo : 1 < hi - lo
   · obtain ⟨m, hm⟩ : ∃ m : Int, m = (lo + hi) / 2 := ⟨_, rfl⟩
     have hm2 : (lo + hi) / 2 = m := hm.symm
     have m0 : 0 ≤ m := by omega
     have m1 : m < 9218868437227405312 := by omega
     have m2 : lo < m ∧ m < hi := by omega
     obtain ⟨mn, hmn⟩ : ∃ k : Nat, k = m.toNat := ⟨_, rfl⟩
     have hmi : (mn : Int) = m := by omega
     have HMN := Hd hmn
     have HM2 := Hd m2
     have h2 := XV mn
     rw [hmi] at h2
     have hrl : mn < 9218868437227405312 := by omega
     have C := fun (V : World) => X0 mn (by omega) (by unfold Zz; omega) V
     rw [(flt_rung (show mn < 9223372036854775808 by omega)).1, (flt_rung (show mn < 9223372036854775808 by omega)).2] at C
     have hlz := wr_lz (show mn ≤ 9218868437227405312 by omega)
     have HC := Hd (wr_le (r := mn) (n := n) (d := d))
     obtain ⟨N, hN⟩ : ∃ k : Int, k = X7 mn := ⟨_, rfl⟩
     obtain ⟨D, hD⟩ : ∃ k : Int, k = XF mn := ⟨_, rfl⟩
     rw [← hN, ← hD] at C HC hlz
     obtain ⟨k, hk⟩ : ∃ k : Int, k = YT (N * d) (n * D) := ⟨_, rfl⟩
     rw [← hk] at HC
     have HK := Hd hk
     have H1 := Hd C
     obtain ⟨q, hq⟩ : ∃ q : Bool, q = decide (k ≤ 0) := ⟨_, rfl⟩
     have hq2 : decide (k ≤ 0) = q := hq.symm
     have HQ := Hd hq
     clear C hm hmn hmi hrl hN hD hk m2 hq
     obtain ⟨hz1, hz2⟩ := hlz
     go_upto_region 5 with fail
     go_wp2_with fail
     refine Ze [.val (.int .u64 m) [], .val (.float .f64 mn) [], .any false (fun u V => ZQ V 0 u N D) [], .val (.agg #[.bool (decide (n < 0)), .slice A (Za n.natAbs).length c, .bool (decide (d < 0)), .slice B (Za d.natAbs).length e0]) [], .val (.int .i64 k) [2], .val (.bool q) []] wr.heap.size wr [] (fun _ _ => False) _ Zd (Nat.le_refl _) (Below.refl _ _) (Zo.refl _ _ _) rfl (by kernel_rfl) (by kernel_rfl) (by kernel_rfl) (by kernel_rfl) (by kernel_rfl) (by kernel_rfl) (by kernel_rfl) (by kernel_rfl) rfl (by simp [ZL]) ?_ ?_ ?_ ?_
     · simp only [Zr, and_true]
       exact fun u V V' h k => h.kept k (by decide)
     · simp only [ZP]
     · simp (maxSteps := 4000000) [ZA, Z9, Zf, Zs, Zj]
       repeat' (first | apply And.intro | (intro (u : Value)) | (intro (u : Nat)))
       all_goals first
       | (intro V hV hK
          obtain ⟨-, a_x, b_x, c_x, d_x, -, -, -, -⟩ := (V_x.out.below hV).quad.facts
          clear hV hK
          go_simp
          first
          | exact Below.refl _ _
          | ((with_reducible refine (H1.out V).mono ?_); rintro e w' ⟨v, rfl, hv, hb⟩; exact ⟨hv, hb⟩))
       | (intro V hV hK h1
          have vx := Hd (V_x.out.below hV)
          obtain ⟨A6, c6, A7, c7, rfl, r6, r7⟩ := h1.form
          have q6 := Hd r6.rawAt
          have q7 := Hd r7.rawAt
          clear hV hK h1 r6 r7
          go_simp
          (with_reducible refine (ref02_Cmp N D n d k A6 A7 A B c6 c7 c e0 V q6.out q7.out vx.out.num vx.out.den (by omega) (by omega) (by omega) (by omega) HK.out).mono ?_)
          rintro e w' ⟨rfl, hb⟩
          exact ⟨rfl, hb⟩)
     · simp [Yd, ZC, Zf, Zs, Zj]
       intro u1 V hV hK _ _ _ _
       have V_x := Hd (V_x.out.below hV)
       have HBW := Hd (Zb HBW.out hV)
       clear hV hK hq2 hz1 hz2 HK H1
       cases q
       case false =>
         have HN := Hd (show (ZY lo.toNat : Int) * d ≤ n * Yp ∧ (m = 9218868437227405312 ∨ n * Yp < (ZY m.toNat : Int) * d) from ⟨HR.out.1, .inr (by
           have h := of_decide_eq_false HQ.out.symm
           rw [HC.out, HMN.out] at h
           omega)⟩)
         go_wp2_with fail
         go_roundw
         case rel => exact ⟨lo, m, rfl, by rw [hm2], a0, HM2.out.1, by omega, HN, V_x, HBW⟩
         case measure => have := HM2.out; simp [intOf]; omega
       case true =>
         have HN := Hd (show (ZY m.toNat : Int) * d ≤ n * Yp ∧ (hi = 9218868437227405312 ∨ n * Yp < (ZY hi.toNat : Int) * d) from ⟨by
           have h := of_decide_eq_true HQ.out.symm
           rw [HC.out, HMN.out] at h
           exact h, HR.out.2⟩)
         go_wp2_with fail
         go_roundw
         case rel => exact ⟨m, hi, by rw [hm2], rfl, m0, HM2.out.2, a2, HN, V_x, HBW⟩
         case measure => have := HM2.out; simp [intOf]; omega
   · have hsub : hi = lo + 1 := by omega
     have HN := Hd (show (ZY lo.toNat : Int) * d ≤ n * Yp ∧ (lo + 1 = 9218868437227405312 ∨ n * Yp < (ZY (lo + 1).toNat : Int) * d) from by rw [← hsub]; exact HR.out)
     have hl9 : lo < 9218868437227405312 := by omega
     have hno : ¬ 1 < hi - lo := hgo
     clear HR hsub
     go_wp2_with fail
     go_ret
     exact ⟨lo, rfl, a0, hl9, HN.out, HBW.out⟩
end Go.Proofs.YtipmkkobdbgphaaGreatDoor
