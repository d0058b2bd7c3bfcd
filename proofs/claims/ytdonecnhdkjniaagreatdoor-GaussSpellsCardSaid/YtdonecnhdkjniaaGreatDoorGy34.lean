/- Several texts in one: ReadOwn, GReadLaw, FrontAt, RefDigits, RText. -/
import Derived.Test.YtdonecnhdkjniaaGreatDoorGy33
import Derived.Test.YtdonecnhdkjniaaGreatDoorGy24
import Derived.Laws.IdiomStrings
set_option maxRecDepth 100000
set_option maxHeartbeats 8000000
namespace Go.Proofs.YtdonecnhdkjniaaGreatDoor
open Go.RowKit

def ZQ (w : World) (o : Option (Int × Int)) (e : Ending) (w' : World) : Prop := ∃ n d v, e = .returned (.tuple #[v, .bool o.isSome]) /\ ZG w' 0 v n d /\ Below w.heap.size w w' /\ ∀ p, o = some p -> p = (n, d) /\ Ze w' w.heap.size v n d
def ZF (w : World) (n d : Int) (b : Bool) (e : Ending) (w' : World) : Prop := ∃ v, e = .returned (.tuple #[v, .bool b]) /\ Ze w' w.heap.size v n d /\ Below w.heap.size w w'

theorem ratio_WholeO (z one : Int) (A : Option Addr) (c base : Nat) (w : World) (h_z : Zr w A c (Za z.natAbs)) (o_z : Zc w base (.agg #[.bool (decide (z < 0)), .slice A (Za z.natAbs).length c]) z) (hbase : base <= w.heap.size) (h1 : one = 1) :
   Calls Tryz.prog 106 #[.agg #[.bool (decide (z < 0)), .slice A (Za z.natAbs).length c]] w (ZE base w z one) := by
 have OT := Hd (fun x hx => (o_z.top x hx).2)
 have HBB := Hd hbase
 have OW := Hd o_z
 have H1 := Hd h1
 clear o_z h1 hbase
 have b0 := (((Below.refl w.heap.size w).alloc (Nat.le_refl _) (.cells #[.bool (decide (z < 0)), .slice A (Za z.natAbs).length c] 24)).alloc (by simp) (.cells #[.bool false, .slice none 0 0, .bool false, .slice none 0 0] 26))
 have p0 := (Zp.new w 24 (.bool (decide (z < 0))) (.slice A (Za z.natAbs).length c)).alloc (.cells #[.bool false, .slice none 0 0, .bool false, .slice none 0 0] 26)
 have p1 := Zw.new (w.alloc (.cells #[.bool (decide (z < 0)), .slice A (Za z.natAbs).length c] 24)) (.bool false) (.slice none 0 0) (.bool false) (.slice none 0 0)
 simp only [World.size_alloc] at p1
 have V_z := Hd (NV.of h_z b0 p0)
 have P_r0 := Hd p1
 have RW_z := Hd h_z
 have HBW := Hd b0
 clear b0 p0 p1 h_z
 go_enter Tryz.func106, Tryz.ntmps106
 obtain ⟨W, E⟩ : ∃ W, W = ((w.alloc (.cells #[.bool (decide (z < 0)), .slice A (Za z.natAbs).length c] 24)).alloc (.cells #[.bool false, .slice none 0 0, .bool false, .slice none 0 0] 26)) := ⟨_, rfl⟩
 go_upto_region 1 with fail
 rw [<- E] at V_z P_r0 HBW ⊢
 clear E
 have hszr := P_r0.out.blk.lt
 have O_z := Hd (OW.out.below HBW.out)
 clear OW
 go_wp2_with fail
 refine Zf [.val (.agg #[.bool (decide (z < 0)), .slice A (Za z.natAbs).length c]) [], .any false (fun u V => Zc V w.heap.size u one) [], .any false (fun u V => Ze V base u z one) [1], .old (w.heap.size + 1) 26 #[.bool false, .slice none 0 0, .bool false, .slice none 0 0] 0 4 2 []] (w.heap.size + 1) W [26] Xh _ Zg (by have := P_r0.out.blk.lt; omega) (Below.refl _ _) (Zq.refl _ _ _) rfl ?_ ?_ ?_ ?_ ?_ ?_ ?_ ?_ rfl (by simp [ZH]) ?_ ?_ ?_ ?_
 iterate 8 kernel_rfl
 . simp only [Zu, and_true]
   exact ⟨fun u V V' h k => h.kept k (by decide), fun u V V' h k => h.kept k (by decide)⟩
 . simp only [ZR, and_true]
   exact ⟨Nat.le_refl _, P_r0.out.blk.lt, P_r0.out.blk, by simp⟩
 . simp (maxSteps := 4000000) [Zz, Yj, Zh, ZA, Zl]
   repeat' (first | apply And.intro | (intro (u : Value)) | (intro (u : Nat)))
   all_goals try exact ⟨_, _, _, rfl, rfl, rfl, rfl, YB⟩
   all_goals first
   | (intro V hV hK
      obtain ⟨-, a_z, b_z, -, -⟩ := (Zp.mk (hK.blk V_z.out.pair.blk (by decide))).facts
      have hvs := (HBW.out.trans (hV.mono (by omega))).size
      clear hV hK
      go_simp
      first
      | exact Below.refl _ _
      | ((with_reducible refine (eof 1 one H1.out (by decide) (by decide) V).mono ?_); rintro _ _ ⟨_, rfl, x, y⟩; exact ⟨x.base hvs, y⟩))
   | (intro V hV hK h1
      have oz := O_z.out.kept hK (by decide)
      obtain ⟨A6, c6, rfl, -⟩ := h1.raw
      clear hV hK
      go_simp
      exact ⟨Ze.of oz h1 HBB.out OT.out, Below.refl _ _⟩)
   | exact fun _ _ _ (h : Ze _ _ _ _ _) => h.cells
 . simp [Yn, ZD, Zh, ZA, Zl]
   intro u1 u2 V hV hK h1 h2 bq _ _ _
   have HF := Hd h2
   obtain ⟨A6, c6, A7, c7, rfl, -⟩ := h2.form
   simp [Z9, Value.cells] at bq
   have k0 := bq.cell 0
   have k1 := bq.cell 1
   have k2 := bq.cell 2
   have k3 := bq.cell 3
   simp at k0 k1 k2 k3
   have HB9 := Hd (HBW.out.trans (hV.mono (by omega)))
   clear h1 h2 hV hK bq
   go_wp2_with fail
   exact bodyPost_ret (by simp [results, Tryz.results106, go_sem, k0, k1, k2, k3]) rfl ⟨_, rfl, HF.out, HB9.out⟩

theorem ratio_ReadO_ft (s a b : ByteArray) (n : Int) (w : World)  (C1 : ∀ V, Calls Tryz.prog 104 #[.string s, .string ⟨#[47]⟩] V fun e w' => e = .returned (.tuple #[.string a, .string b, .bool false]) /\ Below V.heap.size V w') (C2 : ∀ V, Calls Tryz.prog 105 #[.string a] V (XD V n true)) :
  Calls Tryz.prog 27 #[.string s] w (ZF w n 1 true) := by
 have H1 := Hd C1
 have H2 := Hd C2
 obtain ⟨one, hone⟩ : ∃ k : Int, k = 1 := ⟨_, rfl⟩
 have HONE := Hd hone
 have H3 := Hd (fun (V : World) (A : Option Addr) (c base : Nat) (h : Zr V A c (Za n.natAbs)) (o_z : Zc V base (.agg #[.bool (decide (n < 0)), .slice A (Za n.natAbs).length c]) n) (hb : base <= V.heap.size) => ratio_WholeO n one A c base V h o_z hb hone)
 rw [show (ZF w n 1 true) = ZF w n one true by rw [hone]]
 clear C1 C2 hone
 have b0 := ((Below.refl w.heap.size w).alloc (Nat.le_refl _) (.cells #[.bool false, .slice none 0 0, .bool false, .slice none 0 0] 26))
 have p0 := Zw.new w (.bool false) (.slice none 0 0) (.bool false) (.slice none 0 0)
 have P_r0 := Hd p0
 have HBW := Hd b0
 clear b0 p0 
 go_enter Tryz.func27, Tryz.ntmps27
 obtain ⟨W, E⟩ : ∃ W, W = (w.alloc (.cells #[.bool false, .slice none 0 0, .bool false, .slice none 0 0] 26)) := ⟨_, rfl⟩
 go_upto_region 1 with fail
 rw [<- E] at P_r0 HBW ⊢
 clear E
 have hsz := P_r0.out.blk.lt
 clear hsz
 go_wp2_with fail
 refine (H1.out W).mono ?_
 rintro e x1 ⟨rfl, hb⟩
 have P_r0 := Hd (P_r0.out.below hb)
 have HBW := Hd (Zb HBW.out hb)
 clear hb
 go_wp2_with fail
 refine (H2.out x1).mono ?_
 rintro e x2 ⟨v, rfl, hI, hb⟩
 obtain ⟨A1, c1, rfl, r1⟩ := hI.raw
 have hI0 := hI.base HBW.out.size
 have P_r0 := Hd (P_r0.out.below hb)
 have HBW := Hd (Zb HBW.out hb)
 have R_n := Hd r1
 clear hb r1
 have O_n := Hd hI0
 clear hI hI0
 go_upto_region 3 with fail
 have ha := ((Below.refl x2.heap.size x2).alloc (Nat.le_refl _) (.cells #[.bool (decide (n < 0)), .slice A1 (Za n.natAbs).length c1] 24))
 have p_n := (Zp.new x2 24 (.bool (decide (n < 0))) (.slice A1 (Za n.natAbs).length c1))
 obtain ⟨y3, E⟩ : ∃ W, W = (x2.alloc (.cells #[.bool (decide (n < 0)), .slice A1 (Za n.natAbs).length c1] 24)) := ⟨_, rfl⟩
 rw [<- E] at ha p_n ⊢
 have V_n := Hd (NV.of R_n.out ha p_n)
 have P_r0 := Hd (P_r0.out.below ha)
 have O_n := Hd (O_n.out.below ha)
 have HBW := Hd (Zb HBW.out ha)
 obtain ⟨g3, hg⟩ : ∃ g, g = x2.heap.size := ⟨_, rfl⟩
 rw [<- hg] at V_n ⊢
 clear E ha hg p_n
 obtain ⟨l_n, a_n, b_n, -, -⟩ := V_n.out.pair.facts
 go_wp2_with fail
 refine (H3.out y3 A1 c1 w.heap.size V_n.out.raw O_n.out HBW.out.size).mono ?_
 rintro e x4 ⟨v, rfl, hF, hb⟩
 obtain ⟨A6, c6, A7, c7, rfl, -⟩ := hF.form
 clear l_n a_n b_n
 have V_n := Hd (V_n.out.below hb)
 have P_r0 := Hd (P_r0.out.below hb)
 have O_n := Hd (O_n.out.below hb)
 have HBW := Hd (Zb HBW.out hb)
 clear hb
 have HF := Hd hF
 clear hF
 obtain ⟨l_r0, a_r0, b_r0, f_r0, g_r0⟩ := P_r0.out.facts
 have HQ := Hd (P_r0.out.store (.bool (decide (n < 0))) (.slice A6 (Za n.natAbs).length c6) (.bool (decide (one < 0))) (.slice A7 (Za one.natAbs).length c7))
 have HB := Hd (Yc HBW.out (show w.heap.size <= w.heap.size by omega) (.bool (decide (n < 0))) (.slice A6 (Za n.natAbs).length c6) (.bool (decide (one < 0))) (.slice A7 (Za one.natAbs).length c7))
 have HF9 := Hd (HF.out.quad P_r0.out (.bool (decide (n < 0))) (.slice A6 (Za n.natAbs).length c6) (.bool (decide (one < 0))) (.slice A7 (Za one.natAbs).length c7))
 go_wp2_with fail
 obtain ⟨_, k0, k1, k2, k3, _, _, _, _⟩ := HQ.out.facts
 exact bodyPost_ret (by simp [results, Tryz.results27, go_sem, k0, k1, k2, k3]) rfl ⟨_, rfl, HF9.out, HB.out⟩

theorem ratio_ReadO_G (s a b : ByteArray) (n d : Int) (w : World)  (C1 : ∀ V, Calls Tryz.prog 104 #[.string s, .string ⟨#[47]⟩] V fun e w' => e = .returned (.tuple #[.string a, .string b, .bool true]) /\ Below V.heap.size V w') (C2 : ∀ V, Calls Tryz.prog 105 #[.string a] V (XD V n true)) (C3 : ∀ V, Calls Tryz.prog 105 #[.string b] V (XD V d true)) (hln : lz n <= 7282) (hld : lz d <= 7282) (hd : 0 < d) (hd1 : d ≠ 1) (hg : ZK n d = 1) :
   Calls Tryz.prog 27 #[.string s] w (ZF w n d true) := by
 have H1 := Hd C1
 have H2 := Hd C2
 have H3 := Hd C3
 obtain ⟨one, hone⟩ : ∃ k : Int, k = 1 := ⟨_, rfl⟩
 obtain ⟨sg, hsg⟩ : ∃ k : Int, k = d.sign := ⟨_, rfl⟩
 obtain ⟨g, hg0⟩ : ∃ k : Int, k = ZK n d := ⟨_, rfl⟩
 have hol : lz one <= 2 := by rw [hone]; decide
 have HONE := Hd hone
 have HSG := Hd hsg
 have HG := Hd (show g = ((Nat.gcd n.natAbs d.natAbs : Nat) : Int) from hg0)
 have HLE := Hd (show decide (sg <= 0) = false from decide_eq_false (by rw [hsg, Int.sign_eq_one_of_pos (by omega)]; decide))
 have hgl := XH (n := n) (d := d) (by omega)
 rw [<- hg0] at hgl
 have hgp := YX (n := n) (d := d) (by omega)
 have HK1 := Hd (show (1 : Int) = Xw d one from by rw [hone]; exact (cmpz_gt (by omega)).symm)
 have HK2 := Hd (show (0 : Int) = Xw g one from by rw [hone, hg0]; rw [hg]; decide)
 clear hone hsg hg0 hd hd1 hg hgp
 clear C1 C2 C3
 have b0 := ((Below.refl w.heap.size w).alloc (Nat.le_refl _) (.cells #[.bool false, .slice none 0 0, .bool false, .slice none 0 0] 26))
 have p0 := Zw.new w (.bool false) (.slice none 0 0) (.bool false) (.slice none 0 0)
 have P_r0 := Hd p0
 have HBW := Hd b0
 clear b0 p0 
 go_enter Tryz.func27, Tryz.ntmps27
 obtain ⟨W, E⟩ : ∃ W, W = (w.alloc (.cells #[.bool false, .slice none 0 0, .bool false, .slice none 0 0] 26)) := ⟨_, rfl⟩
 go_upto_region 1 with fail
 rw [<- E] at P_r0 HBW ⊢
 clear E
 go_wp2_with fail
 refine (H1.out W).mono ?_
 rintro e x1 ⟨rfl, hb⟩
 have P_r0 := Hd (P_r0.out.below hb)
 have HBW := Hd (Zb HBW.out hb)
 clear hb
 go_wp2_with fail
 refine (H2.out x1).mono ?_
 rintro e x2 ⟨v, rfl, hI, hb⟩
 obtain ⟨A1, c1, rfl, r1⟩ := hI.raw
 have hI0 := hI.base HBW.out.size
 have P_r0 := Hd (P_r0.out.below hb)
 have HBW := Hd (Zb HBW.out hb)
 have R_n := Hd r1
 clear hb r1
 have O_n := Hd hI0
 clear hI hI0
 go_upto_region 3 with fail
 have ha := ((Below.refl x2.heap.size x2).alloc (Nat.le_refl _) (.cells #[.bool (decide (n < 0)), .slice A1 (Za n.natAbs).length c1] 24))
 have p_n := (Zp.new x2 24 (.bool (decide (n < 0))) (.slice A1 (Za n.natAbs).length c1))
 obtain ⟨y3, E⟩ : ∃ W, W = (x2.alloc (.cells #[.bool (decide (n < 0)), .slice A1 (Za n.natAbs).length c1] 24)) := ⟨_, rfl⟩
 rw [<- E] at ha p_n ⊢
 have V_n := Hd (NV.of R_n.out ha p_n)
 have P_r0 := Hd (P_r0.out.below ha)
 have O_n := Hd (O_n.out.below ha)
 have HBW := Hd (Zb HBW.out ha)
 obtain ⟨g3, hg⟩ : ∃ g, g = x2.heap.size := ⟨_, rfl⟩
 rw [<- hg] at V_n ⊢
 clear E ha hg p_n
 go_wp2_with fail
 refine (H3.out y3).mono ?_
 rintro e x4 ⟨v, rfl, hI, hb⟩
 obtain ⟨A2, c2, rfl, r1⟩ := hI.raw
 have T_n := Hd (fun x hx => (O_n.out.top x hx).2)
 have HB3 := Hd HBW.out.size
 have hI0 := hI
 have V_n := Hd (V_n.out.below hb)
 have P_r0 := Hd (P_r0.out.below hb)
 have O_n := Hd (O_n.out.below hb)
 have HBW := Hd (Zb HBW.out hb)
 have R_d := Hd r1
 clear hb r1
 have O_d := Hd hI0
 clear hI hI0
 go_upto_region 6 with fail
 have ha := ((Below.refl x4.heap.size x4).alloc (Nat.le_refl _) (.cells #[.bool (decide (d < 0)), .slice A2 (Za d.natAbs).length c2] 24))
 have p_d := (Zp.new x4 24 (.bool (decide (d < 0))) (.slice A2 (Za d.natAbs).length c2))
 obtain ⟨y5, E⟩ : ∃ W, W = (x4.alloc (.cells #[.bool (decide (d < 0)), .slice A2 (Za d.natAbs).length c2] 24)) := ⟨_, rfl⟩
 rw [<- E] at ha p_d ⊢
 have V_d := Hd (NV.of R_d.out ha p_d)
 have V_n := Hd (V_n.out.below ha)
 have P_r0 := Hd (P_r0.out.below ha)
 have O_n := Hd (O_n.out.below ha)
 have O_d := Hd (O_d.out.below ha)
 have HBW := Hd (Zb HBW.out ha)
 obtain ⟨g5, hg⟩ : ∃ g, g = x4.heap.size := ⟨_, rfl⟩
 rw [<- hg] at V_d ⊢
 clear E ha hg p_d
 obtain ⟨l_n, a_n, b_n, -, -⟩ := V_n.out.pair.facts
 obtain ⟨l_d, a_d, b_d, -, -⟩ := V_d.out.pair.facts
 go_upto_region 7 with fail
 clear l_n a_n b_n l_d a_d b_d
 have ha := (Below.refl y5.heap.size y5).alloc (Nat.le_refl _) (.cells #[.bool (decide (n < 0)), .slice A1 (Za n.natAbs).length c1, .bool (decide (d < 0)), .slice A2 (Za d.natAbs).length c2] 26)
 have pp := Zw.new y5 (.bool (decide (n < 0))) (.slice A1 (Za n.natAbs).length c1) (.bool (decide (d < 0))) (.slice A2 (Za d.natAbs).length c2)
 obtain ⟨y9, E⟩ : ∃ Y, Y = y5.alloc (.cells #[.bool (decide (n < 0)), .slice A1 (Za n.natAbs).length c1, .bool (decide (d < 0)), .slice A2 (Za d.natAbs).length c2] 26) := ⟨_, rfl⟩
 rw [<- E] at ha pp ⊢
 have V_n := Hd (V_n.out.below ha)
 have V_d := Hd (V_d.out.below ha)
 have P_r0 := Hd (P_r0.out.below ha)
 have O_n := Hd (O_n.out.below ha)
 have O_d := Hd (O_d.out.below ha)
 have HBW := Hd (Zb HBW.out ha)
 obtain ⟨gq, hg⟩ : ∃ g, g = y5.heap.size := ⟨_, rfl⟩
 rw [<- hg] at pp ⊢
 have V_q := Hd pp
 clear E ha hg pp
 go_wp2_with fail
 obtain ⟨W0, hW⟩ : ∃ W0, W0 = y9 := ⟨_, rfl⟩
 rw [<- hW] at HBW P_r0 O_n O_d V_q V_n V_d  ⊢
 clear hW
 refine Zf [.val (.bool true) [], .val (.bool false) [], .val (.bool false) [], .val (.agg #[.bool (decide (d < 0)), .slice A2 (Za d.natAbs).length c2]) [], .val (.int .i64 sg) [], .val (.bool false) [], .val (.bool false) [], .val (.bool false) [], .val (.agg #[.bool (decide (d < 0)), .slice A2 (Za d.natAbs).length c2]) [], .any false (fun u0 V => YQ V u0 one) [], .val (.int .i64 1) [9], .val (.bool false) [], .val (.bool false) [], .val (.bool false) [], .val (.agg #[.bool (decide (n < 0)), .slice A1 (Za n.natAbs).length c1]) [], .val (.agg #[.bool (decide (d < 0)), .slice A2 (Za d.natAbs).length c2]) [], .any false (fun u0 V => YQ V u0 g) [], .any false (fun u0 V => YQ V u0 one) [], .val (.int .i64 0) [16, 17], .val (.bool false) [], .val (.bool false) []] W0.heap.size W0 [] (fun _ _ => False) _ Zg (Nat.le_refl _) (Below.refl _ _) (Zq.refl _ _ _) rfl ?_ ?_ ?_ ?_ ?_ ?_ ?_ ?_ rfl (by simp [ZH]) ?_ ?_ ?_ ?_
 iterate 8 kernel_rfl
 . simp only [Zu, and_true]
   exact ⟨fun u0 V V' h k => h.keptNone k, fun u0 V V' h k => h.keptNone k, fun u0 V V' h k => h.keptNone k⟩
 . simp only [ZR]
 . simp (maxSteps := 4000000) [Zz, Yj, Zh, ZA, Zl]
   repeat' (first | apply And.intro | (intro (u0 : Value)))
   all_goals first
   | (intro V hV hK
      obtain ⟨-, a_n, b_n, -, -⟩ := (V_n.out.below hV).pair.facts
      have r_n := Hd (V_n.out.below hV).raw
      obtain ⟨-, a_d, b_d, -, -⟩ := (V_d.out.below hV).pair.facts
      have r_d := Hd (V_d.out.below hV).raw
      have hle := HLE.out
      clear hV hK
      go_simp
      first
      | exact Below.refl _ _
      | exact ⟨by first | rfl | decide | go_num, Below.refl _ _⟩
      | ((with_reducible refine (Jp d sg A2 c2 V r_d.out HSG.out).mono ?_); rintro e w' ⟨rfl, hb⟩; exact ⟨rfl, hb⟩)
      | ((with_reducible refine (eof 1 one HONE.out (by decide) (by decide) V).mono ?_); rintro _ _ ⟨_, rfl, x, y⟩; exact ⟨x.at_, y⟩)
      | ((with_reducible refine (XI n d g A1 A2 c1 c2 V r_n.out r_d.out (by omega) (by omega) HG.out).mono ?_); rintro _ _ ⟨_, rfl, x, y⟩; exact ⟨x.at_, y⟩))
   | (intro V hV hK hu
      obtain ⟨A', c', rfl, hr⟩ := hu.form
      have r_d := Hd (V_d.out.below hV).raw
      have r' := Hd hr
      clear hV hK hu hr
      go_simp
      (with_reducible refine (ecmp d one 1 A2 A' c2 c' V r_d.out r'.out (by omega) (by omega) HK1.out).mono ?_)
      rintro e w' ⟨rfl, hb⟩
      exact ⟨rfl, hb⟩)
   | (intro V hV hK hu1 hu2
      obtain ⟨A', c', rfl, hr⟩ := hu1.form
      obtain ⟨A'', c'', rfl, hs⟩ := hu2.form
      have r' := Hd hr
      have r'' := Hd hs
      clear hV hK hu1 hu2 hr hs
      go_simp
      (with_reducible refine (ecmp g one 0 A' A'' c' c'' V r'.out r''.out (by omega) (by omega) HK2.out).mono ?_)
      rintro e w' ⟨rfl, hb⟩
      exact ⟨rfl, hb⟩)
 . simp [Yn, ZD, Zh, ZA, Zl]
   intro u1 u2 u3 V hV hK _h1 _h2 _h3 _ _ _
   have V_n := Hd (V_n.out.below hV)
   have V_d := Hd (V_d.out.below hV)
   have P_r0 := Hd (P_r0.out.below hV)
   have O_n := Hd (O_n.out.below hV)
   have O_d := Hd (O_d.out.below hV)
   have V_q := Hd (V_q.out.below hV)
   have HBW := Hd (Zb HBW.out hV)
   clear hV hK
   obtain ⟨v6, hV0⟩ : ∃ Y, Y = V := ⟨_, rfl⟩
   rw [<- hV0] at HBW P_r0 O_n O_d V_q V_n V_d  ⊢
   clear hV0
   obtain ⟨l_q, a_q, b_q, c_q, d_q, -, -, -, -⟩ := V_q.out.facts
   have HF : Hid (Ze v6 w.heap.size (.agg #[.bool (decide (n < 0)), .slice A1 (Za n.natAbs).length c1, .bool (decide (d < 0)), .slice A2 (Za d.natAbs).length c2]) n d) := Hd (Ze.of O_n.out O_d.out HB3.out T_n.out)
   obtain ⟨l_r0, a_r0, b_r0, f_r0, g_r0⟩ := P_r0.out.facts
   have HQ := Hd (P_r0.out.store (.bool (decide (n < 0))) (.slice A1 (Za n.natAbs).length c1) (.bool (decide (d < 0))) (.slice A2 (Za d.natAbs).length c2))
   have HB := Hd (Yc HBW.out (show w.heap.size <= w.heap.size by omega) (.bool (decide (n < 0))) (.slice A1 (Za n.natAbs).length c1) (.bool (decide (d < 0))) (.slice A2 (Za d.natAbs).length c2))
   have HF9 := Hd (HF.out.quad P_r0.out (.bool (decide (n < 0))) (.slice A1 (Za n.natAbs).length c1) (.bool (decide (d < 0))) (.slice A2 (Za d.natAbs).length c2))
   go_wp2_with fail
   obtain ⟨_, k0, k1, k2, k3, _, _, _, _⟩ := HQ.out.facts
   exact bodyPost_ret (by simp [results, Tryz.results27, go_sem, k0, k1, k2, k3]) rfl ⟨_, rfl, HF9.out, HB.out⟩

theorem ZQ.of_own {w : World} {n d : Int} {e : Ending} {w' : World} (h : ZF w n d true e w') : ZQ w (some (n, d)) e w' := by
 obtain ⟨v, h1, h2, h3⟩ := h
 exact ⟨n, d, v, h1, h2.in_, h3, fun p hp => ⟨(Option.some.inj hp).symm, h2⟩⟩
theorem ZQ.of_none {w : World} {e : Ending} {w' : World} (h : RetReadF w none e w') : ZQ w none e w' := by
 obtain ⟨n, d, ⟨v, h1, h2, h3⟩, _⟩ := h
 exact ⟨n, d, v, h1, h2, h3, fun p hp => by cases hp⟩
theorem ratio_ReadO (s : ByteArray) (hs : s.size <= 65536) (w : World) :
   Calls Tryz.prog 27 #[.string s] w (ZQ w (ZT s.data.toList)) := by
 cases ho : ZT s.data.toList with
 | none => exact (ratio_Read s hs w).mono fun e w' h => by rw [ho] at h; exact ZQ.of_none h
 | some p =>
   have C1 := fun V => strings_Cut_bar s hs V
   have hsl : s.data.toList.length <= 65536 := by rw [<- Lib.size_eq]; exact hs
   have hfl := front_le s.data.toList
   have hbl : (cutB s.data.toList).length <= 65536 := by
     unfold cutB
     split
     . exact Nat.le_trans (back_le _) hsl
     . simp
   have C2 := fun V => exact_Read ⟨(Z5 s.data.toList).toArray⟩ (by simpa [ByteArray.size] using Nat.le_trans hfl hsl) V
   have C3 := fun V => exact_Read ⟨(cutB s.data.toList).toArray⟩ (by simpa [ByteArray.size] using hbl) V
   simp only at C2 C3
   cases hz : Xm (Z5 s.data.toList) with
   | none =>
     exfalso
     have hr : ZT s.data.toList = none := by unfold ZT; rw [hz]
     rw [hr] at ho
     cases ho
   | some n =>
     rw [hz] at C2
     have hln := lz_read hz (Nat.le_trans hfl hsl)
     by_cases hb : (47 : UInt8) ∈ s.data.toList
     . rw [decide_eq_true hb] at C1
       have ec : cutB s.data.toList = Y4 s.data.toList := by unfold cutB; rw [if_pos hb]
       rw [ec] at C1 C3 hbl
       cases hy : Xm (Y4 s.data.toList) with
       | none =>
         exfalso
         have hr : ZT s.data.toList = none := by unfold ZT; rw [hz]; simp only; rw [if_pos hb, hy]
         rw [hr] at ho
         cases ho
       | some d =>
         rw [hy] at C3
         have hld := lz_read hy hbl
         have hr : ZT s.data.toList = if 0 < d /\ d ≠ 1 /\ ZK n d = 1 then some (n, d) else none := by unfold ZT; rw [hz]; simp only; rw [if_pos hb, hy]
         rw [ho] at hr
         split at hr
         . rename_i hq
           obtain ⟨h0, h1, hg⟩ := hq
           rw [hr]
           exact (ratio_ReadO_G s _ _ n d w C1 C2 C3 hln hld h0 h1 hg).mono fun e w' h => ZQ.of_own h
         . cases hr
     . rw [decide_eq_false hb] at C1
       have hr : ZT s.data.toList = some (n, 1) := by unfold ZT; rw [hz]; simp only; rw [if_neg hb]
       rw [ho] at hr
       rw [hr]
       exact (ratio_ReadO_ft s _ _ n w C1 C2).mono fun e w' h => ZQ.of_own h

def secT (n d : Int) : List UInt8 := if Zm n d = [49] then [105] else if Zm n d = [45, 49] then [45, 105] else Zm n d ++ [105]
def Xv (n d m e : Int) : List UInt8 := if m = 0 then Zm n d else if n = 0 then secT m e else Zm n d ++ (if 0 < m then 43 :: secT m e else secT m e)
def pm (b : UInt8) : Bool := b == 43 || b == 45
def Yk : List UInt8 -> Int
 | [] => -1
 | x :: r => if 0 <= Yk r then Yk r + 1 else if pm x then 0 else -1
def XC (s : List UInt8) : Option (Int × Int) := if s = [] then some (1, 1) else if s = [45] then some (-1, 1) else match ZT s with
 | none => none
 | some p => if p.1 ≠ 0 /\ s ≠ [49] /\ s ≠ [45, 49] then some p else none
def imagG (s : List UInt8) : Option (Int × Int) := if s = [] then some (1, 1) else if s = [45] then some (-1, 1) else ZT s

theorem Jm (x : UInt8) (r : List UInt8) : Yk (x :: r) = if 0 <= Yk r then Yk r + 1 else if pm x then 0 else -1 := rfl
theorem pmAt_none : ∀ {l : List UInt8}, (∀ b ∈ l, pm b = false) -> Yk l = -1
 | [], _ => rfl
 | x :: r, h => by
  unfold Yk
  rw [pmAt_none fun b hb => h b (List.mem_cons_of_mem _ hb), if_neg (by decide), h x (List.mem_cons_self ..)]
  rfl
theorem pmAt_app : ∀ {a b : List UInt8}, 0 <= Yk b -> Yk (a ++ b) = a.length + Yk b
 | [], b, h => by simp
 | x :: r, b, h => by
  rw [List.cons_append, Jm, pmAt_app (a := r) h, if_pos (by omega), List.length_cons]
  omega
theorem pmAt_here {a t : List UInt8} {x : UInt8} (hx : pm x = true) (ht : ∀ b ∈ t, pm b = false) : Yk (a ++ x :: t) = a.length := by
 have h0 : Yk (x :: t) = 0 := by
  unfold Yk
  rw [pmAt_none ht, if_neg (by decide), if_pos hx]
 rw [pmAt_app (by rw [h0]; exact Int.le_refl _), h0]
 omega
theorem dec_plain {n : Nat} {b : UInt8} (h : b ∈ Lib.decDigits n) : pm b = false /\ b ≠ 105 := by
 have hb := X8 n h
 constructor
 . unfold pm
   have h1 : b ≠ 43 := fun e => by subst e; exact absurd hb.1 (by decide)
   have h2 : b ≠ 45 := fun e => by subst e; exact absurd hb.1 (by decide)
   simp [h1, h2]
 . intro e
   subst e
   exact absurd hb.2 (by decide)
theorem decDigits_some (n : Nat) : Lib.decDigits n ≠ [] := fun h => by
 have := readZ_itoa (n : Int)
 have e : Lib.itoa (n : Int) = [] := by unfold Lib.itoa; rw [if_neg (by omega)]; exact h
 rw [e] at this
 rw [show Xm [] = none from rfl] at this
 cases this
theorem Xk {n d : Int} (hd : 0 < d) : ∃ x t, Zm n d = x :: t /\ (∀ b ∈ t, pm b = false /\ b ≠ 105) /\ (n < 0 -> x = 45) /\ (0 <= n -> pm x = false /\ x ≠ 105) := by
 have hb : ∀ b ∈ Lib.itoa d, pm b = false /\ b ≠ 105 := fun b h => by
   unfold Lib.itoa at h
   rw [if_neg (by omega)] at h
   exact dec_plain h
 have hbar : pm 47 = false /\ (47 : UInt8) ≠ 105 := by decide
 obtain ⟨x, t, e, h1, h2, h3⟩ : ∃ x t, Lib.itoa n = x :: t /\ (∀ b ∈ t, pm b = false /\ b ≠ 105) /\ (n < 0 -> x = 45) /\ (0 <= n -> pm x = false /\ x ≠ 105) := by
   unfold Lib.itoa
   by_cases hn : n < 0
   . rw [if_pos hn]
     exact ⟨45, _, rfl, fun b h => dec_plain h, fun _ => rfl, fun h => by omega⟩
   . rw [if_neg hn]
     cases hq : Lib.decDigits n.toNat with
     | nil => exact absurd hq (decDigits_some _)
     | cons x t =>
       refine ⟨x, t, rfl, fun b h => dec_plain (n := n.toNat) (by rw [hq]; exact List.mem_cons_of_mem _ h), fun h => by omega, fun _ => dec_plain (n := n.toNat) (by rw [hq]; exact List.mem_cons_self ..)⟩
 unfold Zm
 split
 . exact ⟨x, t, e, h1, h2, h3⟩
 . refine ⟨x, t ++ 47 :: Lib.itoa d, by rw [e]; rfl, fun b h => ?_, h2, h3⟩
   rcases List.mem_append.1 h with h | h
   . exact h1 b h
   . rcases List.mem_cons.1 h with h | h
     . rw [h]; exact hbar
     . exact hb b h
def Xe (s : List UInt8) : Option (Int × Int × Int × Int) :=
 if s.getLast? = some 105 then
  if Yk s.dropLast <= 0 then (XC s.dropLast).map fun p => (0, 1, p.1, p.2)
  else match ZT (s.dropLast.take (Yk s.dropLast).toNat) with
   | none => none
   | some p => if p.1 = 0 then none else
    let rest := s.dropLast.drop (Yk s.dropLast).toNat
    match XC (if rest.head? = some 43 then rest.tail else rest) with
    | none => none
    | some q => if (rest.head? = some 43 ↔ 0 < q.1) then some (p.1, p.2, q.1, q.2) else none
 else (ZT s).map fun p => (p.1, p.2, 0, 1)
def readG (s : List UInt8) : Option (Int × Int × Int × Int) :=
 if s.getLast? = some 105 then
  if Yk s <= 0 then (imagG s.dropLast).map fun p => (0, 1, p.1, p.2)
  else match ZT (s.take (Yk s).toNat) with
   | none => none
   | some p =>
    let rest := s.drop (Yk s).toNat
    let rest := if rest.head? = some 43 then rest.tail else rest
    (imagG rest.dropLast).map fun q => (p.1, p.2, q.1, q.2)
 else (ZT s).map fun p => (p.1, p.2, 0, 1)

def cutT (n d : Int) : List UInt8 := if Zm n d = [49] then [] else if Zm n d = [45, 49] then [45] else Zm n d
theorem secT_cut (n d : Int) : secT n d = cutT n d ++ [105] := by
 unfold secT cutT
 split
 . rfl
 . split <;> rfl
theorem text_one : Zm 1 1 = [49] := (XP (s := [49]) (n := 1) (d := 1) (by decide)).1
theorem text_minus : Zm (-1) 1 = [45, 49] := (XP (s := [45, 49]) (n := -1) (d := 1) (by decide)).1
theorem cut_one : cutT 1 1 = [] := if_pos text_one
theorem cut_minus : cutT (-1) 1 = [45] := by unfold cutT; rw [text_minus]; rfl
theorem fracText_one {n d : Int} (hd : 0 < d) (hg : ZK n d = 1) (h : Zm n d = [49]) : n = 1 /\ d = 1 := by
 have h1 := YK hd hg
 have h2 : ZT (Zm 1 1) = some (1, 1) := YK (by decide) (by decide)
 rw [text_one, <- h, h1] at h2
 injection h2 with e
 injection e with e1 e2
 exact ⟨e1, e2⟩
theorem fracText_minus {n d : Int} (hd : 0 < d) (hg : ZK n d = 1) (h : Zm n d = [45, 49]) : n = -1 /\ d = 1 := by
 have h1 := YK hd hg
 have h2 : ZT (Zm (-1) 1) = some (-1, 1) := YK (by decide) (by decide)
 rw [text_minus, <- h, h1] at h2
 injection h2 with e
 injection e with e1 e2
 exact ⟨e1, e2⟩
theorem fracText_ne {n d : Int} (hd : 0 < d) (hg : ZK n d = 1) : Zm n d ≠ [] /\ Zm n d ≠ [45] := by
 have h := YK hd hg
 constructor
 . intro e
   rw [e, show ZT [] = none from rfl] at h
   cases h
 . intro e
   rw [e, show ZT [45] = none from rfl] at h
   cases h
theorem coef_cut {n d : Int} (hd : 0 < d) (hg : ZK n d = 1) (hn : n ≠ 0) : XC (cutT n d) = some (n, d) := by
 unfold XC cutT
 obtain ⟨h1, h2⟩ := fracText_ne hd hg
 split
 . rename_i h
   obtain ⟨rfl, rfl⟩ := fracText_one hd hg h
   rfl
 . rename_i ha
   split
   . rename_i h
     obtain ⟨rfl, rfl⟩ := fracText_minus hd hg h
     rfl
   . rename_i hb
     try rw [if_neg h1, if_neg h2]
     rw [YK hd hg]
     exact if_pos ⟨hn, ha, hb⟩
theorem cut_coef {s : List UInt8} {n d : Int} (h : XC s = some (n, d)) : cutT n d = s /\ 0 < d /\ ZK n d = 1 /\ n ≠ 0 := by
 unfold XC at h
 split at h
 . rename_i e
   injection h with h
   injection h with h1 h2
   subst h1 h2 e
   exact ⟨cut_one, by decide⟩
 . split at h
   . rename_i e
     injection h with h
     injection h with h1 h2
     subst h1 h2 e
     exact ⟨cut_minus, by decide⟩
   . split at h
     . cases h
     . rename_i p hp
       split at h
       . rename_i hq
         injection h with h
         subst h
         obtain ⟨h1, h2, h3⟩ := XP hp
         refine ⟨?_, h2, h3, hq.1⟩
         unfold cutT
         rw [h1, if_neg hq.2.1, if_neg hq.2.2]
       . cases h
theorem pmAt_lt : ∀ (l : List UInt8), Yk l < l.length
 | [] => by decide
 | x :: r => by
  have := pmAt_lt r
  rw [Jm, List.length_cons]
  split
  . omega
  . split <;> omega
theorem text_no_i {n d : Int} (hd : 0 < d) : (105 : UInt8) ∉ Zm n d := fun h => by
 obtain ⟨x, t, e, h1, h2, h3⟩ := Xk (n := n) hd
 rw [e] at h
 rcases List.mem_cons.1 h with h | h
 . by_cases hn : n < 0
   . rw [h2 hn] at h
     exact absurd h (by decide)
   . exact (h3 (by omega)).2 h.symm
 . exact (h1 _ h).2 rfl
theorem last_no_i {n d : Int} (hd : 0 < d) : ¬ (Zm n d).getLast? = some 105 := fun h => text_no_i (n := n) hd (List.mem_of_getLast? h)
theorem pmAt_text {n d : Int} (hd : 0 < d) : Yk (Zm n d) <= 0 := by
 obtain ⟨x, t, e, h1, h2, h3⟩ := Xk (n := n) hd
 rw [e, Jm, pmAt_none fun b hb => (h1 b hb).1, if_neg (by decide)]
 split <;> decide
theorem pmAt_cut {n d : Int} (hd : 0 < d) : Yk (cutT n d) <= 0 := by
 unfold cutT
 split
 . decide
 . split
   . decide
   . exact pmAt_text hd
def bodyT (m e : Int) : List UInt8 := if 0 < m then 43 :: cutT m e else cutT m e
theorem gaussT_both {n d m e : Int} (hn : n ≠ 0) (hm : m ≠ 0) : Xv n d m e = Zm n d ++ bodyT m e ++ [105] := by
 unfold Xv bodyT
 rw [if_neg hm, if_neg hn, secT_cut, List.append_assoc]
 split <;> rfl
theorem cut_form {m e : Int} (he : 0 < e) (hg : ZK m e = 1) : (m < 0 -> ∃ t, cutT m e = 45 :: t /\ ∀ b ∈ t, pm b = false) /\ (0 < m -> ∀ b ∈ cutT m e, pm b = false) := by
 obtain ⟨x, t, h0, h1, h2, h3⟩ := Xk (n := m) he
 unfold cutT
 constructor
 . intro hm
   rw [if_neg (fun h => by have := (fracText_one he hg h).1; omega)]
   split
   . exact ⟨[], rfl, fun b hb => by cases hb⟩
   . exact ⟨t, by rw [h0, h2 hm], fun b hb => (h1 b hb).1⟩
 . intro hm
   split
   . intro b hb; cases hb
   . rw [if_neg (fun h => by have := (fracText_minus he hg h).1; omega), h0]
     intro b hb
     rcases List.mem_cons.1 hb with h | h
     . rw [h]; exact (h3 (by omega)).1
     . exact (h1 b h).1
theorem body_form {m e : Int} (he : 0 < e) (hg : ZK m e = 1) (hm : m ≠ 0) : ∃ x t, bodyT m e = x :: t /\ pm x = true /\ (∀ b ∈ t, pm b = false) /\ (x = 43 ↔ 0 < m) /\ (if x = 43 then t else x :: t) = cutT m e := by
 obtain ⟨h1, h2⟩ := cut_form (m := m) he hg
 unfold bodyT
 by_cases h : 0 < m
 . rw [if_pos h]
   exact ⟨43, _, rfl, by decide, h2 h, by simp [h], if_pos rfl⟩
 . obtain ⟨t, e1, e2⟩ := h1 (by omega)
   rw [if_neg h, e1]
   exact ⟨45, t, rfl, by decide, e2, by simp [h], if_neg (by decide)⟩
theorem low_nought {e : Int} (he : 0 < e) (hg : ZK 0 e = 1) : e = 1 := by
 have := Xk (n := 0) he
 unfold ZK at hg
 simp at hg
 omega
theorem parse_text {n d m e : Int} (hd : 0 < d) (hg : ZK n d = 1) (he : 0 < e) (hk : ZK m e = 1) : Xe (Xv n d m e) = some (n, d, m, e) := by
 by_cases hm : m = 0
 . subst hm
   obtain rfl := low_nought he hk
   unfold Xv Xe
   rw [if_pos rfl, if_neg (last_no_i hd), YK hd hg]
   rfl
 . by_cases hn : n = 0
   . subst hn
     obtain rfl := low_nought hd hg
     unfold Xv Xe
     rw [if_neg hm, if_pos rfl, secT_cut, if_pos (by simp), List.dropLast_concat, if_pos (pmAt_cut he), coef_cut he hk hm]
     rfl
   . rw [gaussT_both hn hm]
     obtain ⟨x, t, e1, e2, e3, e4, e5⟩ := body_form he hk hm
     obtain ⟨h1, h2⟩ := fracText_ne hd hg
     have hl : 0 < (Zm n d).length := List.length_pos_iff.2 h1
     unfold Xe
     rw [if_pos (by simp), List.dropLast_concat, e1, pmAt_here e2 e3, if_neg (by omega)]
     simp only [e4] at e5
     simp only [Int.toNat_natCast, List.take_left, List.drop_left, YK hd hg, if_neg hn, List.head?_cons, List.tail_cons, Option.some.injEq, e5, coef_cut he hk hm, e4, if_true]
theorem text_parse {s : List UInt8} {n d m e : Int} (h : Xe s = some (n, d, m, e)) : Xv n d m e = s /\ 0 < d /\ ZK n d = 1 /\ 0 < e /\ ZK m e = 1 := by
 unfold Xe at h
 split at h
 . rename_i hl
   have es : s.dropLast ++ [105] = s := by
     obtain ⟨l, rfl⟩ := List.getLast?_eq_some_iff.1 hl
     rw [List.dropLast_concat]
   obtain ⟨f, hf⟩ : ∃ f, f = s.dropLast := ⟨_, rfl⟩
   rw [<- hf] at h es
   clear hf hl
   subst es
   split at h
   . obtain ⟨p, hp, e1⟩ := Option.map_eq_some_iff.1 h
     injection e1 with a1 e1; injection e1 with a2 e1; injection e1 with a3 a4
     subst a1 a2 a3 a4
     obtain ⟨h1, h2, h3, h4⟩ := cut_coef (n := p.1) (d := p.2) hp
     refine ⟨?_, by decide, by decide, h2, h3⟩
     unfold Xv
     rw [if_neg h4, if_pos rfl, secT_cut, h1]
   . rename_i hk
     obtain ⟨k, hk2⟩ : ∃ k : Nat, Yk f = k := ⟨(Yk f).toNat, by omega⟩
     rw [hk2, Int.toNat_natCast] at h
     split at h
     . cases h
     . rename_i p hp
       split at h
       . cases h
       . rename_i hn
         dsimp only at h
         split at h
         . cases h
         . rename_i q hq
           split at h
           . rename_i hs
             injection h with e1
             injection e1 with a1 e1; injection e1 with a2 e1; injection e1 with a3 a4
             subst a1 a2 a3 a4
             obtain ⟨b1, b2, b3⟩ := XP (n := p.1) (d := p.2) hp
             obtain ⟨h1, h2, h3, h4⟩ := cut_coef (n := q.1) (d := q.2) hq
             refine ⟨?_, b2, b3, h2, h3⟩
             rw [gaussT_both hn h4, b1]
             have hb : bodyT q.1 q.2 = f.drop k := by
              unfold bodyT
              rw [h1]
              by_cases hq0 : 0 < q.1
              . rw [if_pos hq0, if_pos (hs.2 hq0)]
                have h43 := hs.2 hq0
                cases hr : f.drop k with
                | nil => rw [hr] at h43; cases h43
                | cons y r => rw [hr] at h43; injection h43 with h43; rw [h43]; rfl
              . rw [if_neg hq0, if_neg fun h => hq0 (hs.1 h)]
             rw [hb, List.take_append_drop]
           . cases h
 . obtain ⟨p, hp, e1⟩ := Option.map_eq_some_iff.1 h
   injection e1 with a1 e1; injection e1 with a2 e1; injection e1 with a3 a4
   subst a1 a2 a3 a4
   obtain ⟨b1, b2, b3⟩ := XP (n := p.1) (d := p.2) hp
   exact ⟨by unfold Xv; rw [if_pos rfl, b1], b2, b3, by decide, by decide⟩


structure Rd (w wr : World) (n1 : Bool) (S : Value) (V v : Nat) (cs : List Nat) (AP : Option Addr) (cP : Nat) (AL : Option Addr) (cL : Nat) : Prop where
 low : Below w.heap.size w wr
 raw : Zr wr AL cL (Za v)
 parts : wr.ownsRow (w.heap.size + 1) 109 1 (.slice AP cs.length cP) cs.length (Zv cs)
 px : Zp wr w.heap.size 24 (.bool n1) S
 all : Xx V = cs ++ Xx v
 big : v * 2 ^ (29 * cs.length) <= V
 few : cs.length <= 2000001
def Rev (M : List UInt8) (i : Nat) (ys : List UInt8) : Prop := ys.length = M.length /\ ∀ j, j < M.length -> ys[j]? = if j < i ∨ M.length <= j + i then M[M.length - 1 - j]? else M[j]?

end Go.Proofs.YtdonecnhdkjniaaGreatDoor
