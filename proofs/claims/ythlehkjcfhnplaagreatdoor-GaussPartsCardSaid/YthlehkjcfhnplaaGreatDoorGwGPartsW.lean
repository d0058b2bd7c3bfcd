/- Several texts in one: GPartsW. -/
import Derived.Test.YthlehkjcfhnplaaGreatDoorGwReckW
import Derived.Test.YthlehkjcfhnplaaGreatDoorGw30
set_option maxRecDepth 100000
set_option maxHeartbeats 8000000
/- GaussParts: the walk. (Written by wip/gauss/gengpartsw.py.) -/
namespace Go.Proofs.YthlehkjcfhnplaaGreatDoor
open Go.RowKit

structure FRV (w : World) (g : Nat) (n1 n2 : Bool) (A : Option Addr) (c : Nat) (B : Option Addr) (e : Nat) (xs ys : List Nat) : Prop where
 quad : Zo w g (.bool n1) (.slice A xs.length c) (.bool n2) (.slice B ys.length e)
 at_ : Y4 w (.agg #[.bool n1, .slice A xs.length c, .bool n2, .slice B ys.length e]) n1 n2 xs ys
theorem FRV.below {w w' : World} {g : Nat} {n1 n2 : Bool} {A : Option Addr} {c : Nat} {B : Option Addr} {e : Nat} {xs ys : List Nat} (h : FRV w g n1 n2 A c B e xs ys) (hb : Below w.heap.size w w') : FRV w' g n1 n2 A c B e xs ys := ⟨h.quad.below hb, h.at_.below hb⟩
theorem YM.mineA {b : Nat} {n1 n2 : Bool} {xs ys : List Nat} {v : Value} {V : World} (h : YM b n1 n2 xs ys v V) : ∀ g, blkAgg v g -> b <= g /\ g < V.heap.size := by
 obtain ⟨g1, g2, rfl, h1, h2, l1, l2, -⟩ := h.form
 rintro g ⟨cs, e, c, hc, hg⟩
 cases e
 simp only [List.mem_cons, List.not_mem_nil, or_false] at hc
 rcases hc with rfl | rfl | rfl | rfl
 . cases hg
 . cases hg; exact ⟨l1, h1.blk.lt⟩
 . cases hg
 . cases hg; exact ⟨l2, h2.blk.lt⟩
theorem YM.raw {b : Nat} {n1 n2 : Bool} {xs ys : List Nat} {v : Value} {V : World} (h : YM b n1 n2 xs ys v V) (hx : Zk xs) (hy : Zk ys) (l1 : xs.length <= 1048576) (l2 : ys.length <= 1048576) : Y4 V v n1 n2 xs ys := by
 obtain ⟨g1, g2, h0, h1, h2, -⟩ := h.form
 exact ⟨_, _, _, _, h0, h1.raw hx (by omega), h2.raw hy (by omega)⟩
theorem YM.free {lo : Nat} {n1 n2 : Bool} {xs ys : List Nat} {g1 g2 : Nat} {V : World} (h : YM lo n1 n2 xs ys (.agg #[.bool n1, .slice (some ⟨g1, 0, none⟩) xs.length (xs.length + 1), .bool n2, .slice (some ⟨g2, 0, none⟩) ys.length (ys.length + 1)]) V) (l1 : xs.length <= 1048576) (l2 : ys.length <= 1048576) :
   Zu V lo [.slice (some ⟨g1, 0, none⟩) xs.length (xs.length + 1), .slice (some ⟨g2, 0, none⟩) ys.length (ys.length + 1)] := by
 obtain ⟨a1, a2, e, h1, h2, m1, m2, d1⟩ := h.form
 simp at e
 obtain ⟨rfl, rfl⟩ := e
 refine Zu.two (by omega) (by omega) (h1.rowG m1 l1) (h2.rowG m2 l2) fun g a b => ?_
 cases a
 cases b
 exact d1 rfl
theorem left_frac_t {lo : Nat} {n1 n2 : Bool} {xs ys : List Nat} {g1 g2 : Nat} {w : World} {v_x : Value} (h : YM lo n1 n2 xs ys (.agg #[.bool n1, .slice (some ⟨g1, 0, none⟩) xs.length (xs.length + 1), .bool n2, .slice (some ⟨g2, 0, none⟩) ys.length (ys.length + 1)]) w) (g_x : Y4 w v_x n1 n2 xs ys) (hl : xs.length <= 1048576 /\ ys.length <= 1048576) :
   Calls Tryz.prog 39 #[.agg #[.bool n1, .slice (some ⟨g1, 0, none⟩) xs.length (xs.length + 1), .bool n2, .slice (some ⟨g2, 0, none⟩) ys.length (ys.length + 1)], v_x] w fun e w' => e = .returned (.bool true) /\ Below w.heap.size w w' := by
 obtain ⟨a1, a2, e, h1, h2, -⟩ := h.form
 simp at e
 obtain ⟨rfl, rfl⟩ := e
 obtain ⟨A, c, B, e0, rfl, r1, r2⟩ := g_x.form
 exact left_frac n1 n2 A B c e0 xs ys g1 g2 w r1 r2 h1 h2 hl.1 hl.2

theorem parts_true {n1 n2 n3 n4 m1 m2 : Bool} {xs ys us vs ps qs : List Nat} (w : World) (v_x v_t : Value) (g_x : ZI w v_x n1 n2 n3 n4 xs ys us vs) (g_t : Y4 w v_t m1 m2 ps qs) (htab : Y1 w)
   (bx : (xs.length <= 1152921504606846975 /\ ys.length <= 1152921504606846975) /\ us.length <= 1152921504606846975 /\ vs.length <= 1152921504606846975) (bt : ps.length <= 1152921504606846975 /\ qs.length <= 1152921504606846975) :
   Calls Tryz.prog 6 #[v_x, v_t] w fun e w' => e = .returned (.bool true) /\ Below w.heap.size w w' := by
 obtain ⟨Ax1, cx1, Ax2, cx2, Ax3, cx3, Ax4, cx4, rfl, r1, r2, r3, r4⟩ := g_x.form
 obtain ⟨At1, ct1, At2, ct2, rfl, r5, r6⟩ := g_t.form
 have HLX := Hd (And.intro (And.intro r1.limbs r2.limbs) (And.intro r3.limbs r4.limbs))
 have HLT := Hd (And.intro r5.limbs r6.limbs)
 have C1 := fun (V : World) (v : Value) (g : ZI V v n1 n2 n3 n4 xs ys us vs) => gauss_cost bx.1.1 bx.1.2 bx.2.1 bx.2.2 V v g
 have C2 := fun (V : World) (g : Y4 V (.agg #[.bool m1, .slice At1 ps.length ct1, .bool m2, .slice At2 qs.length ct2]) m1 m2 ps qs) => frac_cost m1 m2 At1 At2 ct1 ct2 ps qs bt.1 bt.2 V g.raws.1 g.raws.2
 have b1 := fcost_le bx.1.1 bx.1.2
 have b2 := fcost_le bx.2.1 bx.2.2
 have b3 := fcost_le bt.1 bt.2
 obtain ⟨s1, e1⟩ : ∃ k : Nat, k = fcost xs.length ys.length + fcost us.length vs.length := ⟨_, rfl⟩
 obtain ⟨s2, e2⟩ : ∃ k : Nat, k = fcost ps.length qs.length := ⟨_, rfl⟩
 rw [<- e1] at C1
 rw [<- e2] at C2
 obtain ⟨b, hb⟩ : ∃ b : Bool, b = decide (1048576 < [s1, s2].sum) := ⟨_, rfl⟩
 have HLEN := Hd (show b = false -> ((xs.length <= 1048576 /\ ys.length <= 1048576) /\ us.length <= 1048576 /\ vs.length <= 1048576) /\ ps.length <= 1048576 /\ qs.length <= 1048576 from by
   intro e
   rw [e] at hb
   have h9 := of_decide_eq_false hb.symm
   simp at h9
   clear C1 C2 HLX HLT b1 b2 b3 hb
   unfold fcost at e1 e2
   omega)
 have H3 := Hd (fun (u : Value) (V : World) (h : Ja [s1, s2] u V) => beyond_of3 [s1, s2] b (by simp) (by simp; omega) hb u V h)
 have H1 := Hd C1
 have H2 := Hd C2
 obtain ⟨N1, D1, M1, E1, k1, z1, P1, Q1⟩ := conj_spec n1 n2 n3 n4 xs ys us vs r1.limbs r2.limbs r3.limbs r4.limbs
 obtain ⟨N2, D2, k2, z2, P2, Q2⟩ := norm_spec n1 n2 n3 n4 xs ys us vs r1.limbs r2.limbs r3.limbs r4.limbs
 obtain ⟨N3, D3, M3, E3, k3, z3, P3, Q3⟩ := unit_spec m1 m2 ps qs r5.limbs r6.limbs
 have HZ1 := Hd z1
 have HZ2 := Hd z2
 have HZ3 := Hd z3
 have HP1 := Hd P1
 have HP2 := Hd P2
 have HP3 := Hd P3
 have HQ1 := Hd Q1
 have HQ2 := Hd Q2
 have HQ3 := Hd Q3
 have HT := Hd htab
 have G_x := Hd g_x
 have G_t := Hd g_t
 clear C1 C2 b1 b2 b3 e1 e2 hb z1 z2 z3 P1 P2 P3 Q1 Q2 Q3 htab g_x g_t r1 r2 r3 r4 r5 r6 bx bt
 go_enter Tryz.func6, Tryz.ntmps6
 go_upto_region 1 with fail
 refine Yp (P := fun W => Code.wp _ _ _ _ W) fun W p0 p1 b0 => ?_
 have F := Hd (((Kp.base b0).add (FRV.mk (Zo.mk p1) (G_t.out.below b0)) (fun _ _ => FRV.below)).add (GRV.mk (Z6.mk p0) (G_x.out.below b0)) (fun _ _ => GRV.below))
 clear b0 p0 p1 G_x G_t
 go_wp2_with fail
 refine Zd [.val (.agg #[.bool n1, .slice Ax1 xs.length cx1, .bool n2, .slice Ax2 ys.length cx2, .bool n3, .slice Ax3 us.length cx3, .bool n4, .slice Ax4 vs.length cx4]) [], .val (.int .i64 s1) [], .val (.agg #[.bool m1, .slice At1 ps.length ct1, .bool m2, .slice At2 qs.length ct2]) [], .val (.int .i64 s2) [], .any false (Ja [s1, s2]) [], .val (.bool b) [4]] W.heap.size W [] (fun _ _ => False) _ Zc (Nat.le_refl _) (Below.refl _ _) (Zq.refl _ _ _) rfl (by kernel_rfl) (by kernel_rfl) (by kernel_rfl) (by kernel_rfl) (by kernel_rfl) (by kernel_rfl) (by kernel_rfl) (by kernel_rfl) rfl (by simp [ZK]) ?_ ?_ ?_ ?_
 . simp only [Zr, and_true]
   exact fun u V V' h k => h.kept k
 . simp only [ZN]
 . simp (maxSteps := 4000000) [Zz, Z7, Zf, Zs, Zg]
   repeat' (first | apply And.intro | (intro (u : Value)) | (intro (u : Nat)))
   all_goals first
   | (intro V hV hK
      obtain ⟨V_x, V_t, -⟩ := (F.out.below hV).h
      obtain ⟨l_x, a_x, b_x, c_x, d_x, e_x, f_x, g_x, h_x⟩ := V_x.oct.facts
      obtain ⟨l_t, a_t, b_t, c_t, d_t, -, -, -, -⟩ := V_t.quad.facts
      clear hV hK
      go_simp
      first
      | exact Below.refl _ _
      | exact ⟨Ja.new [s1, s2] _ _ _ rfl, (Below.refl _ _).alloc (Nat.le_refl _) _⟩
      | ((with_reducible refine (H1.out V _ V_x.at_).mono ?_); rintro e w' ⟨rfl, hb⟩; exact ⟨rfl, hb⟩)
      | ((with_reducible refine (H2.out V V_t.at_).mono ?_); rintro e w' ⟨rfl, hb⟩; exact ⟨rfl, hb⟩))
   | (intro V hV hK h1
      obtain ⟨V_x, V_t, -⟩ := (F.out.below hV).h
      obtain ⟨l_x, a_x, b_x, c_x, d_x, e_x, f_x, g_x, h_x⟩ := V_x.oct.facts
      obtain ⟨l_t, a_t, b_t, c_t, d_t, -, -, -, -⟩ := V_t.quad.facts
      clear hV hK
      go_simp
      ((with_reducible refine (H3.out _ V h1).mono ?_); rintro e w' ⟨rfl, hb⟩; exact ⟨rfl, hb⟩))
 . simp [Z9, ZB, Zf, Zs, Zg]
   intro u1 V1 hV hK h1 _ _ _
   have F := Hd (F.out.below hV)
   clear hV hK h1
   clear H1 H2 H3
   cases b
   case true =>
     obtain ⟨-, -, HB⟩ := F.out.h
     go_wp2_with fail
     go_ret
     exact ⟨rfl, HB⟩
   have HL := Hd (HLEN.out rfl)
   clear HLEN
   have H1 := Hd (fun (V : World) (g : ZI V (.agg #[.bool n1, .slice Ax1 xs.length cx1, .bool n2, .slice Ax2 ys.length cx2, .bool n3, .slice Ax3 us.length cx3, .bool n4, .slice Ax4 vs.length cx4]) n1 n2 n3 n4 xs ys us vs) => twin_gauss_own n1 n2 n3 n4 Ax1 Ax2 Ax3 Ax4 cx1 cx2 cx3 cx4 xs ys us vs V g.raws.1 g.raws.2.1 g.raws.2.2.1 g.raws.2.2.2 HL.out.1.1.1 HL.out.1.1.2 HL.out.1.2.1 HL.out.1.2.2)
   have H2 := Hd (fun (V : World) (g : Y4 V (.agg #[.bool m1, .slice At1 ps.length ct1, .bool m2, .slice At2 qs.length ct2]) m1 m2 ps qs) => Jz m1 m2 At1 At2 ct1 ct2 ps qs V g.raws.1 g.raws.2 HL.out.2.1 HL.out.2.2)
   go_wp2_with fail
   refine Zd [.val (.agg #[.bool n1, .slice Ax1 xs.length cx1, .bool n2, .slice Ax2 ys.length cx2, .bool n3, .slice Ax3 us.length cx3, .bool n4, .slice Ax4 vs.length cx4]) [], .any true (fun u V => Ys w.heap.size n1 n2 n3 n4 xs ys us vs u V) [], .val (.agg #[.bool m1, .slice At1 ps.length ct1, .bool m2, .slice At2 qs.length ct2]) [], .any true (fun u V => YM w.heap.size m1 m2 ps qs u V) [], .new 28 8, .new 26 4, .put 28 8 4 1 [], .put 26 4 5 3 []] V1.heap.size V1 [28, 26] blkAgg _ Zc (Nat.le_refl _) (Below.refl _ _) (Zq.refl _ _ _) rfl (by kernel_rfl) (by kernel_rfl) (by kernel_rfl) (by kernel_rfl) (by kernel_rfl) (by kernel_rfl) (by kernel_rfl) (by kernel_rfl) rfl (by simp [ZK]) ?_ ?_ ?_ ?_
   . simp only [Zr, and_true]
     exact ⟨fun u V V' h k => h.kept k (by decide), fun u V V' h k => h.kept k (by decide)⟩
   . simp only [ZN]
   . simp (maxSteps := 4000000) [Zz, Z7, Zf, Zs, Zg]
     repeat' (first | apply And.intro | (intro (u : Value)) | (intro (u : Nat)))
     all_goals try exact ⟨_, _, _, rfl, rfl, rfl, rfl, Xl⟩
     all_goals try exact ⟨_, _, _, rfl, rfl, rfl, rfl, Yo⟩
     all_goals try exact allocGauss rfl
     all_goals try exact allocFracG rfl
     all_goals first
     | (intro V hV hK
        obtain ⟨V_x, V_t, HB⟩ := (F.out.below hV).h
        have hvs := HB.size
        obtain ⟨l_x, a_x, b_x, c_x, d_x, e_x, f_x, g_x, h_x⟩ := V_x.oct.facts
        obtain ⟨l_t, a_t, b_t, c_t, d_t, -, -, -, -⟩ := V_t.quad.facts
        clear hV hK
        go_simp
        first
        | exact Below.refl _ _
        | ((with_reducible refine (H1.out V V_x.at_).mono ?_); rintro e w' ⟨v, rfl, hv, hb⟩; exact ⟨hv.base hvs, hb, hv.mineA⟩)
        | ((with_reducible refine (H2.out V V_t.at_).mono ?_); rintro e w' ⟨v, rfl, hv, hb⟩; exact ⟨hv.base hvs, hb, hv.mineA⟩))
     | exact fun _ _ _ (h : Ys _ _ _ _ _ _ _ _ _ _ _) => h.cells
     | exact fun _ _ _ (h : Ys _ _ _ _ _ _ _ _ _ _ _) _ => h.cells
     | exact fun _ _ _ (h : YM _ _ _ _ _ _ _) => h.cells
     | exact fun _ _ _ (h : YM _ _ _ _ _ _ _) _ => h.cells
   . simp [Z9, ZB, Zf, Zs, Zg]
     intro u1 u2 b_p hb_p b_u hb_u V3 hV hK h1 h2 p_p p_u hap _ _
     have hap2 : ∀ g, blkAgg u1 g -> ¬ blkAgg u2 g := hap 1 3 rfl rfl (by decide)
     have x1 := h1.raw HLX.out.1.1 HLX.out.1.2 HLX.out.2.1 HLX.out.2.2 HL.out.1.1.1 HL.out.1.1.2 HL.out.1.2.1 HL.out.1.2.2
     have x2 := h2.raw HLT.out.1 HLT.out.2 HL.out.2.1 HL.out.2.2
     obtain ⟨g1, g2, g3, g4, rfl, -⟩ := h1.form
     obtain ⟨f1, f2, rfl, -⟩ := h2.form
     have RS := Zu.both (h1.free HL.out.1.1.1 HL.out.1.1.2 HL.out.1.2.1 HL.out.1.2.2) (h2.free HL.out.2.1 HL.out.2.2) (rows_apart hap2 (by simp) (by simp))
     have F := Hd (((((F.out.below hV).add (GRV.mk (show Z6 V3 b_p 28 _ _ _ _ _ _ _ _ from ⟨p_p⟩) x1) (fun _ _ => GRV.below)).add (FRV.mk (show Zo V3 b_u _ _ _ _ from ⟨p_u⟩) x2) (fun _ _ => FRV.below)).add h1 (fun _ _ => Ys.below)).add h2 (fun _ _ => YM.below))
     have F := Hd (F.out.add (show Zu V3 w.heap.size [.slice (some ⟨g1, 0, none⟩) xs.length (xs.length + 1), .slice (some ⟨g2, 0, none⟩) ys.length (ys.length + 1), .slice (some ⟨g3, 0, none⟩) us.length (us.length + 1), .slice (some ⟨g4, 0, none⟩) vs.length (vs.length + 1), .slice (some ⟨f1, 0, none⟩) ps.length (ps.length + 1), .slice (some ⟨f2, 0, none⟩) qs.length (qs.length + 1)] from RS) (fun _ _ => Zu.below))
     clear hV hK h1 h2 p_p p_u hap hap2 x1 x2 RS hb_p hb_u H1 H2
     obtain ⟨RS, -, -, -, V_p, -, -, HB⟩ := F.out.h
     obtain ⟨l_p, a_p, b_p, c_p, d_p, e_p, f_p, g_p, h_p⟩ := V_p.oct.facts
     go_wp2_with fail
     refine (HP1.out V3 _ V_p.at_).mono ?_
     rintro e wx2 ⟨v, rfl, hI, hb⟩
     obtain ⟨A2a, c2a, A2b, c2b, A2c, c2c, A2d, c2d, rfl, -⟩ := hI.form
     have hn := GV.new 28 (hI.in_.at_)
     have ha := (Below.refl wx2.heap.size wx2).alloc (Nat.le_refl _) (.cells #[.bool (decide (N1 < 0)), .slice A2a (Za N1.natAbs).length c2a, .bool (decide (D1 < 0)), .slice A2b (Za D1.natAbs).length c2b, .bool (decide (M1 < 0)), .slice A2c (Za M1.natAbs).length c2c, .bool (decide (E1 < 0)), .slice A2d (Za E1.natAbs).length c2d] 28)
     have hbx := hb.trans (ha.mono hb.size)
     have RS := Zu.ins (w0 := V3) [] [.slice A2a (Za N1.natAbs).length c2a, .slice A2b (Za D1.natAbs).length c2b, .slice A2c (Za M1.natAbs).length c2c, .slice A2d (Za E1.natAbs).length c2d] [.slice (some ⟨g1, 0, none⟩) xs.length (xs.length + 1), .slice (some ⟨g2, 0, none⟩) ys.length (ys.length + 1), .slice (some ⟨g3, 0, none⟩) us.length (us.length + 1), .slice (some ⟨g4, 0, none⟩) vs.length (vs.length + 1), .slice (some ⟨f1, 0, none⟩) ps.length (ps.length + 1), .slice (some ⟨f2, 0, none⟩) qs.length (qs.length + 1)] (RS.below hbx) RS HB.size ((hI.below ha).free (Nat.le_trans HZ1.out.1 (by decide)) (Nat.le_trans HZ1.out.2.1 (by decide)) (Nat.le_trans HZ1.out.2.2.1 (by decide)) (Nat.le_trans HZ1.out.2.2.2 (by decide)))
     have F := Hd ((((F.out.below hb).below ha).add hn (fun _ _ => GV.below)).add (show Zu _ w.heap.size [.slice A2a (Za N1.natAbs).length c2a, .slice A2b (Za D1.natAbs).length c2b, .slice A2c (Za M1.natAbs).length c2c, .slice A2d (Za E1.natAbs).length c2d, .slice (some ⟨g1, 0, none⟩) xs.length (xs.length + 1), .slice (some ⟨g2, 0, none⟩) ys.length (ys.length + 1), .slice (some ⟨g3, 0, none⟩) us.length (us.length + 1), .slice (some ⟨g4, 0, none⟩) vs.length (vs.length + 1), .slice (some ⟨f1, 0, none⟩) ps.length (ps.length + 1), .slice (some ⟨f2, 0, none⟩) qs.length (qs.length + 1)] from RS) (fun _ _ => Zu.below))
     clear l_p a_p b_p c_p d_p e_p f_p g_p h_p HB RS V_p
     clear hI hb hn ha hbx
     go_upto_region 5 with fail
     obtain ⟨wy2, E⟩ : ∃ W, W = wx2.alloc (.cells #[.bool (decide (N1 < 0)), .slice A2a (Za N1.natAbs).length c2a, .bool (decide (D1 < 0)), .slice A2b (Za D1.natAbs).length c2b, .bool (decide (M1 < 0)), .slice A2c (Za M1.natAbs).length c2c, .bool (decide (E1 < 0)), .slice A2d (Za E1.natAbs).length c2d] 28) := ⟨_, rfl⟩
     obtain ⟨q2, hq⟩ : ∃ q, q = wx2.heap.size := ⟨_, rfl⟩
     rw [<- E, <- hq] at F ⊢
     clear E hq
     obtain ⟨RS, -, -, -, -, -, V_p, -, -, HB⟩ := F.out.h
     obtain ⟨l_p, a_p, b_p, c_p, d_p, e_p, f_p, g_p, h_p⟩ := V_p.oct.facts
     go_wp2_with fail
     refine (HP2.out wy2 _ V_p.at_).mono ?_
     rintro e wx3 ⟨v, rfl, hI, hb⟩
     obtain ⟨A3a, c3a, A3b, c3b, rfl, -⟩ := hI.form
     have hn := FV.new (hI.at_).raws.1 (hI.at_).raws.2
     have ha := (Below.refl wx3.heap.size wx3).alloc (Nat.le_refl _) (.cells #[.bool (decide (N2 < 0)), .slice A3a (Za N2.natAbs).length c3a, .bool (decide (D2 < 0)), .slice A3b (Za D2.natAbs).length c3b] 26)
     have hbx := hb.trans (ha.mono hb.size)
     have RS := Zu.ins (w0 := wy2) [.slice A2a (Za N1.natAbs).length c2a, .slice A2b (Za D1.natAbs).length c2b, .slice A2c (Za M1.natAbs).length c2c, .slice A2d (Za E1.natAbs).length c2d] [.slice A3a (Za N2.natAbs).length c3a, .slice A3b (Za D2.natAbs).length c3b] [.slice (some ⟨g1, 0, none⟩) xs.length (xs.length + 1), .slice (some ⟨g2, 0, none⟩) ys.length (ys.length + 1), .slice (some ⟨g3, 0, none⟩) us.length (us.length + 1), .slice (some ⟨g4, 0, none⟩) vs.length (vs.length + 1), .slice (some ⟨f1, 0, none⟩) ps.length (ps.length + 1), .slice (some ⟨f2, 0, none⟩) qs.length (qs.length + 1)] (RS.below hbx) RS HB.size ((hI.below ha).free (Nat.le_trans HZ2.out.1 (by decide)) (Nat.le_trans HZ2.out.2 (by decide)))
     have F := Hd ((((F.out.below hb).below ha).add hn (fun _ _ => FV.below)).add (show Zu _ w.heap.size [.slice A2a (Za N1.natAbs).length c2a, .slice A2b (Za D1.natAbs).length c2b, .slice A2c (Za M1.natAbs).length c2c, .slice A2d (Za E1.natAbs).length c2d, .slice A3a (Za N2.natAbs).length c3a, .slice A3b (Za D2.natAbs).length c3b, .slice (some ⟨g1, 0, none⟩) xs.length (xs.length + 1), .slice (some ⟨g2, 0, none⟩) ys.length (ys.length + 1), .slice (some ⟨g3, 0, none⟩) us.length (us.length + 1), .slice (some ⟨g4, 0, none⟩) vs.length (vs.length + 1), .slice (some ⟨f1, 0, none⟩) ps.length (ps.length + 1), .slice (some ⟨f2, 0, none⟩) qs.length (qs.length + 1)] from RS) (fun _ _ => Zu.below))
     clear l_p a_p b_p c_p d_p e_p f_p g_p h_p HB RS V_p
     clear hI hb hn ha hbx
     go_upto_region 6 with fail
     obtain ⟨wy3, E⟩ : ∃ W, W = wx3.alloc (.cells #[.bool (decide (N2 < 0)), .slice A3a (Za N2.natAbs).length c3a, .bool (decide (D2 < 0)), .slice A3b (Za D2.natAbs).length c3b] 26) := ⟨_, rfl⟩
     obtain ⟨q3, hq⟩ : ∃ q, q = wx3.heap.size := ⟨_, rfl⟩
     rw [<- E, <- hq] at F ⊢
     clear E hq
     obtain ⟨RS, -, -, -, -, -, -, V_u, -, -, -, HB⟩ := F.out.h
     obtain ⟨l_u, a_u, b_u, c_u, d_u, -, -, -, -⟩ := V_u.quad.facts
     go_wp2_with fail
     refine (HP3.out wy3 _ V_u.at_).mono ?_
     rintro e wx4 ⟨v, rfl, hI, hb⟩
     obtain ⟨A4a, c4a, A4b, c4b, A4c, c4c, A4d, c4d, rfl, -⟩ := hI.form
     have hn := GV.new 28 (hI.in_.at_)
     have ha := (Below.refl wx4.heap.size wx4).alloc (Nat.le_refl _) (.cells #[.bool (decide (N3 < 0)), .slice A4a (Za N3.natAbs).length c4a, .bool (decide (D3 < 0)), .slice A4b (Za D3.natAbs).length c4b, .bool (decide (M3 < 0)), .slice A4c (Za M3.natAbs).length c4c, .bool (decide (E3 < 0)), .slice A4d (Za E3.natAbs).length c4d] 28)
     have hbx := hb.trans (ha.mono hb.size)
     have RS := Zu.ins (w0 := wy3) [.slice A2a (Za N1.natAbs).length c2a, .slice A2b (Za D1.natAbs).length c2b, .slice A2c (Za M1.natAbs).length c2c, .slice A2d (Za E1.natAbs).length c2d, .slice A3a (Za N2.natAbs).length c3a, .slice A3b (Za D2.natAbs).length c3b] [.slice A4a (Za N3.natAbs).length c4a, .slice A4b (Za D3.natAbs).length c4b, .slice A4c (Za M3.natAbs).length c4c, .slice A4d (Za E3.natAbs).length c4d] [.slice (some ⟨g1, 0, none⟩) xs.length (xs.length + 1), .slice (some ⟨g2, 0, none⟩) ys.length (ys.length + 1), .slice (some ⟨g3, 0, none⟩) us.length (us.length + 1), .slice (some ⟨g4, 0, none⟩) vs.length (vs.length + 1), .slice (some ⟨f1, 0, none⟩) ps.length (ps.length + 1), .slice (some ⟨f2, 0, none⟩) qs.length (qs.length + 1)] (RS.below hbx) RS HB.size ((hI.below ha).free (Nat.le_trans HZ3.out.1 (by decide)) (Nat.le_trans HZ3.out.2.1 (by decide)) (Nat.le_trans HZ3.out.2.2.1 (by decide)) (Nat.le_trans HZ3.out.2.2.2 (by decide)))
     have F := Hd ((((F.out.below hb).below ha).add hn (fun _ _ => GV.below)).add (show Zu _ w.heap.size [.slice A2a (Za N1.natAbs).length c2a, .slice A2b (Za D1.natAbs).length c2b, .slice A2c (Za M1.natAbs).length c2c, .slice A2d (Za E1.natAbs).length c2d, .slice A3a (Za N2.natAbs).length c3a, .slice A3b (Za D2.natAbs).length c3b, .slice A4a (Za N3.natAbs).length c4a, .slice A4b (Za D3.natAbs).length c4b, .slice A4c (Za M3.natAbs).length c4c, .slice A4d (Za E3.natAbs).length c4d, .slice (some ⟨g1, 0, none⟩) xs.length (xs.length + 1), .slice (some ⟨g2, 0, none⟩) ys.length (ys.length + 1), .slice (some ⟨g3, 0, none⟩) us.length (us.length + 1), .slice (some ⟨g4, 0, none⟩) vs.length (vs.length + 1), .slice (some ⟨f1, 0, none⟩) ps.length (ps.length + 1), .slice (some ⟨f2, 0, none⟩) qs.length (qs.length + 1)] from RS) (fun _ _ => Zu.below))
     clear l_u a_u b_u c_u d_u HB RS V_u
     clear hI hb hn ha hbx
     go_upto_region 7 with fail
     obtain ⟨wy4, E⟩ : ∃ W, W = wx4.alloc (.cells #[.bool (decide (N3 < 0)), .slice A4a (Za N3.natAbs).length c4a, .bool (decide (D3 < 0)), .slice A4b (Za D3.natAbs).length c4b, .bool (decide (M3 < 0)), .slice A4c (Za M3.natAbs).length c4c, .bool (decide (E3 < 0)), .slice A4d (Za E3.natAbs).length c4d] 28) := ⟨_, rfl⟩
     obtain ⟨q4, hq⟩ : ∃ q, q = wx4.heap.size := ⟨_, rfl⟩
     rw [<- E, <- hq] at F ⊢
     clear E hq
     obtain ⟨RS, -, -, -, -, -, -, -, -, -, V_p, -, -, HB⟩ := F.out.h
     obtain ⟨l_p, a_p, b_p, c_p, d_p, e_p, f_p, g_p, h_p⟩ := V_p.oct.facts
     go_wp2_with fail
     refine (HP1.out wy4 _ V_p.at_).mono ?_
     rintro e wx5 ⟨v, rfl, hI, hb⟩
     obtain ⟨A5a, c5a, A5b, c5b, A5c, c5c, A5d, c5d, rfl, -⟩ := hI.form
     have hn := GV.new 28 (hI.in_.at_)
     have ha := (Below.refl wx5.heap.size wx5).alloc (Nat.le_refl _) (.cells #[.bool (decide (N1 < 0)), .slice A5a (Za N1.natAbs).length c5a, .bool (decide (D1 < 0)), .slice A5b (Za D1.natAbs).length c5b, .bool (decide (M1 < 0)), .slice A5c (Za M1.natAbs).length c5c, .bool (decide (E1 < 0)), .slice A5d (Za E1.natAbs).length c5d] 28)
     have hbx := hb.trans (ha.mono hb.size)
     have RS := Zu.ins (w0 := wy4) [.slice A2a (Za N1.natAbs).length c2a, .slice A2b (Za D1.natAbs).length c2b, .slice A2c (Za M1.natAbs).length c2c, .slice A2d (Za E1.natAbs).length c2d] [.slice A5a (Za N1.natAbs).length c5a, .slice A5b (Za D1.natAbs).length c5b, .slice A5c (Za M1.natAbs).length c5c, .slice A5d (Za E1.natAbs).length c5d] [.slice A3a (Za N2.natAbs).length c3a, .slice A3b (Za D2.natAbs).length c3b, .slice A4a (Za N3.natAbs).length c4a, .slice A4b (Za D3.natAbs).length c4b, .slice A4c (Za M3.natAbs).length c4c, .slice A4d (Za E3.natAbs).length c4d, .slice (some ⟨g1, 0, none⟩) xs.length (xs.length + 1), .slice (some ⟨g2, 0, none⟩) ys.length (ys.length + 1), .slice (some ⟨g3, 0, none⟩) us.length (us.length + 1), .slice (some ⟨g4, 0, none⟩) vs.length (vs.length + 1), .slice (some ⟨f1, 0, none⟩) ps.length (ps.length + 1), .slice (some ⟨f2, 0, none⟩) qs.length (qs.length + 1)] (RS.below hbx) RS HB.size ((hI.below ha).free (Nat.le_trans HZ1.out.1 (by decide)) (Nat.le_trans HZ1.out.2.1 (by decide)) (Nat.le_trans HZ1.out.2.2.1 (by decide)) (Nat.le_trans HZ1.out.2.2.2 (by decide)))
     have F := Hd ((((F.out.below hb).below ha).add hn (fun _ _ => GV.below)).add (show Zu _ w.heap.size [.slice A2a (Za N1.natAbs).length c2a, .slice A2b (Za D1.natAbs).length c2b, .slice A2c (Za M1.natAbs).length c2c, .slice A2d (Za E1.natAbs).length c2d, .slice A5a (Za N1.natAbs).length c5a, .slice A5b (Za D1.natAbs).length c5b, .slice A5c (Za M1.natAbs).length c5c, .slice A5d (Za E1.natAbs).length c5d, .slice A3a (Za N2.natAbs).length c3a, .slice A3b (Za D2.natAbs).length c3b, .slice A4a (Za N3.natAbs).length c4a, .slice A4b (Za D3.natAbs).length c4b, .slice A4c (Za M3.natAbs).length c4c, .slice A4d (Za E3.natAbs).length c4d, .slice (some ⟨g1, 0, none⟩) xs.length (xs.length + 1), .slice (some ⟨g2, 0, none⟩) ys.length (ys.length + 1), .slice (some ⟨g3, 0, none⟩) us.length (us.length + 1), .slice (some ⟨g4, 0, none⟩) vs.length (vs.length + 1), .slice (some ⟨f1, 0, none⟩) ps.length (ps.length + 1), .slice (some ⟨f2, 0, none⟩) qs.length (qs.length + 1)] from RS) (fun _ _ => Zu.below))
     clear l_p a_p b_p c_p d_p e_p f_p g_p h_p HB RS V_p
     clear hI hb hn ha hbx
     go_upto_region 8 with fail
     obtain ⟨wy5, E⟩ : ∃ W, W = wx5.alloc (.cells #[.bool (decide (N1 < 0)), .slice A5a (Za N1.natAbs).length c5a, .bool (decide (D1 < 0)), .slice A5b (Za D1.natAbs).length c5b, .bool (decide (M1 < 0)), .slice A5c (Za M1.natAbs).length c5c, .bool (decide (E1 < 0)), .slice A5d (Za E1.natAbs).length c5d] 28) := ⟨_, rfl⟩
     obtain ⟨q5, hq⟩ : ∃ q, q = wx5.heap.size := ⟨_, rfl⟩
     rw [<- E, <- hq] at F ⊢
     clear E hq
     obtain ⟨-, -, -, -, -, -, -, -, -, -, -, -, -, V_x, -⟩ := F.out.h
     obtain ⟨l_x, a_x, b_x, c_x, d_x, e_x, f_x, g_x, h_x⟩ := V_x.oct.facts
     go_wp2_with fail
     refine (HQ1.out wy5 _ V_x.at_).mono ?_
     rintro e wx6 ⟨v, rfl, hI, hb⟩
     obtain ⟨A6a, c6a, A6b, c6b, A6c, c6c, A6d, c6d, rfl, -⟩ := hI.form
     have hn := GV.new 28 (hI.at_)
     have ha := (Below.refl wx6.heap.size wx6).alloc (Nat.le_refl _) (.cells #[.bool (decide (N1 < 0)), .slice A6a (Za N1.natAbs).length c6a, .bool (decide (D1 < 0)), .slice A6b (Za D1.natAbs).length c6b, .bool (decide (M1 < 0)), .slice A6c (Za M1.natAbs).length c6c, .bool (decide (E1 < 0)), .slice A6d (Za E1.natAbs).length c6d] 28)
     have F := Hd (((F.out.below hb).below ha).add hn (fun _ _ => GV.below))
     clear l_x a_x b_x c_x d_x e_x f_x g_x h_x V_x
     clear hI hb hn ha
     go_upto_region 9 with fail
     obtain ⟨wy6, E⟩ : ∃ W, W = wx6.alloc (.cells #[.bool (decide (N1 < 0)), .slice A6a (Za N1.natAbs).length c6a, .bool (decide (D1 < 0)), .slice A6b (Za D1.natAbs).length c6b, .bool (decide (M1 < 0)), .slice A6c (Za M1.natAbs).length c6c, .bool (decide (E1 < 0)), .slice A6d (Za E1.natAbs).length c6d] 28) := ⟨_, rfl⟩
     obtain ⟨q6, hq⟩ : ∃ q, q = wx6.heap.size := ⟨_, rfl⟩
     rw [<- E, <- hq] at F ⊢
     clear E hq
     obtain ⟨-, -, -, -, -, -, -, -, -, -, -, -, -, -, V_x, -⟩ := F.out.h
     obtain ⟨l_x, a_x, b_x, c_x, d_x, e_x, f_x, g_x, h_x⟩ := V_x.oct.facts
     go_wp2_with fail
     refine (HQ2.out wy6 _ V_x.at_).mono ?_
     rintro e wx7 ⟨v, rfl, hI, hb⟩
     obtain ⟨A7a, c7a, A7b, c7b, rfl, -⟩ := hI.form
     have hn := FV.new (hI.at_).raws.1 (hI.at_).raws.2
     have ha := (Below.refl wx7.heap.size wx7).alloc (Nat.le_refl _) (.cells #[.bool (decide (N2 < 0)), .slice A7a (Za N2.natAbs).length c7a, .bool (decide (D2 < 0)), .slice A7b (Za D2.natAbs).length c7b] 26)
     have F := Hd (((F.out.below hb).below ha).add hn (fun _ _ => FV.below))
     clear l_x a_x b_x c_x d_x e_x f_x g_x h_x V_x
     clear hI hb hn ha
     go_upto_region 10 with fail
     obtain ⟨wy7, E⟩ : ∃ W, W = wx7.alloc (.cells #[.bool (decide (N2 < 0)), .slice A7a (Za N2.natAbs).length c7a, .bool (decide (D2 < 0)), .slice A7b (Za D2.natAbs).length c7b] 26) := ⟨_, rfl⟩
     obtain ⟨q7, hq⟩ : ∃ q, q = wx7.heap.size := ⟨_, rfl⟩
     rw [<- E, <- hq] at F ⊢
     clear E hq
     obtain ⟨-, -, -, -, -, -, -, -, -, -, -, -, -, -, -, -, V_t, -⟩ := F.out.h
     obtain ⟨l_t, a_t, b_t, c_t, d_t, -, -, -, -⟩ := V_t.quad.facts
     go_wp2_with fail
     refine (HQ3.out wy7 _ V_t.at_).mono ?_
     rintro e wx8 ⟨v, rfl, hI, hb⟩
     obtain ⟨A8a, c8a, A8b, c8b, A8c, c8c, A8d, c8d, rfl, -⟩ := hI.form
     have hn := GV.new 28 (hI.at_)
     have ha := (Below.refl wx8.heap.size wx8).alloc (Nat.le_refl _) (.cells #[.bool (decide (N3 < 0)), .slice A8a (Za N3.natAbs).length c8a, .bool (decide (D3 < 0)), .slice A8b (Za D3.natAbs).length c8b, .bool (decide (M3 < 0)), .slice A8c (Za M3.natAbs).length c8c, .bool (decide (E3 < 0)), .slice A8d (Za E3.natAbs).length c8d] 28)
     have F := Hd (((F.out.below hb).below ha).add hn (fun _ _ => GV.below))
     clear l_t a_t b_t c_t d_t V_t
     clear hI hb hn ha
     go_upto_region 11 with fail
     obtain ⟨wy8, E⟩ : ∃ W, W = wx8.alloc (.cells #[.bool (decide (N3 < 0)), .slice A8a (Za N3.natAbs).length c8a, .bool (decide (D3 < 0)), .slice A8b (Za D3.natAbs).length c8b, .bool (decide (M3 < 0)), .slice A8c (Za M3.natAbs).length c8c, .bool (decide (E3 < 0)), .slice A8d (Za E3.natAbs).length c8d] 28) := ⟨_, rfl⟩
     obtain ⟨q8, hq⟩ : ∃ q, q = wx8.heap.size := ⟨_, rfl⟩
     rw [<- E, <- hq] at F ⊢
     clear E hq
     clear HP1 HP2 HP3 HQ1 HQ2 HQ3
     obtain ⟨-, -, V_wc, -, -, -, -, -, -, -, V_c, -⟩ := F.out.h
     obtain ⟨l_c, a_c, b_c, c_c, d_c, e_c, f_c, g_c, h_c⟩ := V_c.oct.facts
     obtain ⟨l_wc, a_wc, b_wc, c_wc, d_wc, e_wc, f_wc, g_wc, h_wc⟩ := V_wc.oct.facts
     go_wp2_with fail
     refine (Jh wy8 _ _ V_c.at_ V_wc.at_).mono ?_
     rintro e wx9 ⟨rfl, hb⟩
     have F := Hd (F.out.below hb)
     clear l_c a_c b_c c_c d_c e_c f_c g_c h_c l_wc a_wc b_wc c_wc d_wc e_wc f_wc g_wc h_wc V_c V_wc
     clear hb
     obtain ⟨-, -, V_wc, -, V_again, -⟩ := F.out.h
     obtain ⟨l_again, a_again, b_again, c_again, d_again, e_again, f_again, g_again, h_again⟩ := V_again.oct.facts
     obtain ⟨l_wc, a_wc, b_wc, c_wc, d_wc, e_wc, f_wc, g_wc, h_wc⟩ := V_wc.oct.facts
     go_wp2_with fail
     refine (Jh wx9 _ _ V_again.at_ V_wc.at_).mono ?_
     rintro e wx10 ⟨rfl, hb⟩
     have F := Hd (F.out.below hb)
     clear l_again a_again b_again c_again d_again e_again f_again g_again h_again l_wc a_wc b_wc c_wc d_wc e_wc f_wc g_wc h_wc V_again V_wc
     clear hb
     obtain ⟨-, V_wn, -, -, -, -, -, -, V_n, -⟩ := F.out.h
     obtain ⟨l_n, a_n, b_n, c_n, d_n, -, -, -, -⟩ := V_n.quad.facts
     obtain ⟨l_wn, a_wn, b_wn, c_wn, d_wn, -, -, -, -⟩ := V_wn.quad.facts
     go_wp2_with fail
     refine (JA _ _ _ _ wx10 V_n.at_ V_wn.at_).mono ?_
     rintro e wx11 ⟨rfl, hb⟩
     have F := Hd (F.out.below hb)
     clear l_n a_n b_n c_n d_n l_wn a_wn b_wn c_wn d_wn V_n V_wn
     clear hb
     obtain ⟨V_wo, -, -, -, -, -, V_o, -⟩ := F.out.h
     obtain ⟨l_o, a_o, b_o, c_o, d_o, e_o, f_o, g_o, h_o⟩ := V_o.oct.facts
     obtain ⟨l_wo, a_wo, b_wo, c_wo, d_wo, e_wo, f_wo, g_wo, h_wo⟩ := V_wo.oct.facts
     go_wp2_with fail
     refine (Jh wx11 _ _ V_o.at_ V_wo.at_).mono ?_
     rintro e wx12 ⟨rfl, hb⟩
     have F := Hd (F.out.below hb)
     clear l_o a_o b_o c_o d_o e_o f_o g_o h_o l_wo a_wo b_wo c_wo d_wo e_wo f_wo g_wo h_wo V_o V_wo
     clear hb
     obtain ⟨-, -, -, -, -, -, -, -, -, -, -, -, -, TP, -, V_p, V_x, -⟩ := F.out.h
     obtain ⟨l_p, a_p, b_p, c_p, d_p, e_p, f_p, g_p, h_p⟩ := V_p.oct.facts
     obtain ⟨l_x, a_x, b_x, c_x, d_x, e_x, f_x, g_x, h_x⟩ := V_x.oct.facts
     go_wp2_with fail
     refine (left_gauss_t TP V_x.at_ HL.out.1).mono ?_
     rintro e wx13 ⟨rfl, hb⟩
     have F := Hd (F.out.below hb)
     clear l_p a_p b_p c_p d_p e_p f_p g_p h_p l_x a_x b_x c_x d_x e_x f_x g_x h_x TP V_p V_x
     clear hb
     obtain ⟨-, -, -, -, -, -, -, -, -, -, -, -, TU, -, V_u, -, -, V_t, -⟩ := F.out.h
     obtain ⟨l_u, a_u, b_u, c_u, d_u, -, -, -, -⟩ := V_u.quad.facts
     obtain ⟨l_t, a_t, b_t, c_t, d_t, -, -, -, -⟩ := V_t.quad.facts
     go_wp2_with fail
     refine (left_frac_t TU V_t.at_ HL.out.2).mono ?_
     rintro e wx14 ⟨rfl, hb⟩
     have F := Hd (F.out.below hb)
     clear l_u a_u b_u c_u d_u l_t a_t b_t c_t d_t TU V_t V_u
     clear hb
     go_upto_region 14 with fail
     obtain ⟨v0, E⟩ : ∃ W, W = wx14.alloc (.cells #[.int .i64 0, .slice none 0 0, .slice none 0 0, .slice none 0 0, .slice none 0 0, .slice none 0 0, .slice none 0 0, .slice none 0 0, .slice none 0 0, .slice none 0 0, .slice none 0 0, .slice none 0 0, .slice none 0 0, .slice none 0 0, .slice none 0 0, .slice none 0 0, .slice none 0 0] 50) := ⟨_, rfl⟩
     have hk0 : Jb v0 wx14.heap.size 0 (fun _ => ZE) ZE := by rw [E]; exact Jb.new wx14 _
     have HY := Hd (show Below wx14.heap.size wx14 v0 from by rw [E]; exact (Below.refl _ _).alloc (Nat.le_refl _) _)
     rw [<- E]
     obtain ⟨bk, hbb⟩ : ∃ b, b = wx14.heap.size := ⟨_, rfl⟩
     rw [<- hbb] at hk0 ⊢
     have HBB := Hd hbb
     have K := Hd (show Kept v0 bk [] from ⟨ZE, hk0.cong (fun j hj => by omega)⟩)
     clear E hk0 hbb
     have FB := F
     clear F
     obtain ⟨-, -, -, -, -, -, -, -, -, -, V_c, -⟩ := (FB.out.below HY.out).h
     obtain ⟨l_c, a_c, b_c, c_c, d_c, e_c, f_c, g_c, h_c⟩ := V_c.oct.facts
     go_wp2_with fail
     refine (keep_gauss bk [] (decide (N1 < 0)) (decide (D1 < 0)) (decide (M1 < 0)) (decide (E1 < 0)) A2a A2b A2c A2d (Za N1.natAbs).length c2a (Za D1.natAbs).length c2b (Za M1.natAbs).length c2c (Za E1.natAbs).length c2d (by simp) _ K.out).mono ?_
     rintro e vz1 ⟨rfl, hk, hb, -⟩
     have K := Hd (show Kept vz1 bk [.slice A2a (Za N1.natAbs).length c2a, .slice A2b (Za D1.natAbs).length c2b, .slice A2c (Za M1.natAbs).length c2c, .slice A2d (Za E1.natAbs).length c2d] from hk)
     have HY := Hd (HY.out.trans (HBB.out ▸ hb))
     clear l_c a_c b_c c_c d_c e_c f_c g_c h_c V_c
     clear hk hb
     obtain ⟨-, -, -, -, V_again, -⟩ := (FB.out.below HY.out).h
     obtain ⟨l_again, a_again, b_again, c_again, d_again, e_again, f_again, g_again, h_again⟩ := V_again.oct.facts
     go_wp2_with fail
     refine (keep_gauss bk [.slice A2a (Za N1.natAbs).length c2a, .slice A2b (Za D1.natAbs).length c2b, .slice A2c (Za M1.natAbs).length c2c, .slice A2d (Za E1.natAbs).length c2d] (decide (N1 < 0)) (decide (D1 < 0)) (decide (M1 < 0)) (decide (E1 < 0)) A5a A5b A5c A5d (Za N1.natAbs).length c5a (Za D1.natAbs).length c5b (Za M1.natAbs).length c5c (Za E1.natAbs).length c5d (by simp) _ K.out).mono ?_
     rintro e vz2 ⟨rfl, hk, hb, -⟩
     have K := Hd (show Kept vz2 bk [.slice A2a (Za N1.natAbs).length c2a, .slice A2b (Za D1.natAbs).length c2b, .slice A2c (Za M1.natAbs).length c2c, .slice A2d (Za E1.natAbs).length c2d, .slice A5a (Za N1.natAbs).length c5a, .slice A5b (Za D1.natAbs).length c5b, .slice A5c (Za M1.natAbs).length c5c, .slice A5d (Za E1.natAbs).length c5d] from hk)
     have HY := Hd (HY.out.trans (HBB.out ▸ hb))
     clear l_again a_again b_again c_again d_again e_again f_again g_again h_again V_again
     clear hk hb
     obtain ⟨-, -, -, -, -, -, -, -, V_n, -⟩ := (FB.out.below HY.out).h
     obtain ⟨l_n, a_n, b_n, c_n, d_n, -, -, -, -⟩ := V_n.quad.facts
     go_wp2_with fail
     refine (keep_frac bk [.slice A2a (Za N1.natAbs).length c2a, .slice A2b (Za D1.natAbs).length c2b, .slice A2c (Za M1.natAbs).length c2c, .slice A2d (Za E1.natAbs).length c2d, .slice A5a (Za N1.natAbs).length c5a, .slice A5b (Za D1.natAbs).length c5b, .slice A5c (Za M1.natAbs).length c5c, .slice A5d (Za E1.natAbs).length c5d] (decide (N2 < 0)) (decide (D2 < 0)) A3a A3b (Za N2.natAbs).length c3a (Za D2.natAbs).length c3b (by simp) _ K.out).mono ?_
     rintro e vz3 ⟨rfl, hk, hb, -⟩
     have K := Hd (show Kept vz3 bk [.slice A2a (Za N1.natAbs).length c2a, .slice A2b (Za D1.natAbs).length c2b, .slice A2c (Za M1.natAbs).length c2c, .slice A2d (Za E1.natAbs).length c2d, .slice A5a (Za N1.natAbs).length c5a, .slice A5b (Za D1.natAbs).length c5b, .slice A5c (Za M1.natAbs).length c5c, .slice A5d (Za E1.natAbs).length c5d, .slice A3a (Za N2.natAbs).length c3a, .slice A3b (Za D2.natAbs).length c3b] from hk)
     have HY := Hd (HY.out.trans (HBB.out ▸ hb))
     clear l_n a_n b_n c_n d_n V_n
     clear hk hb
     obtain ⟨-, -, -, -, -, -, V_o, -⟩ := (FB.out.below HY.out).h
     obtain ⟨l_o, a_o, b_o, c_o, d_o, e_o, f_o, g_o, h_o⟩ := V_o.oct.facts
     go_wp2_with fail
     refine (keep_gauss bk [.slice A2a (Za N1.natAbs).length c2a, .slice A2b (Za D1.natAbs).length c2b, .slice A2c (Za M1.natAbs).length c2c, .slice A2d (Za E1.natAbs).length c2d, .slice A5a (Za N1.natAbs).length c5a, .slice A5b (Za D1.natAbs).length c5b, .slice A5c (Za M1.natAbs).length c5c, .slice A5d (Za E1.natAbs).length c5d, .slice A3a (Za N2.natAbs).length c3a, .slice A3b (Za D2.natAbs).length c3b] (decide (N3 < 0)) (decide (D3 < 0)) (decide (M3 < 0)) (decide (E3 < 0)) A4a A4b A4c A4d (Za N3.natAbs).length c4a (Za D3.natAbs).length c4b (Za M3.natAbs).length c4c (Za E3.natAbs).length c4d (by simp) _ K.out).mono ?_
     rintro e vz4 ⟨rfl, hk, hb, -⟩
     have K := Hd (show Kept vz4 bk [.slice A2a (Za N1.natAbs).length c2a, .slice A2b (Za D1.natAbs).length c2b, .slice A2c (Za M1.natAbs).length c2c, .slice A2d (Za E1.natAbs).length c2d, .slice A5a (Za N1.natAbs).length c5a, .slice A5b (Za D1.natAbs).length c5b, .slice A5c (Za M1.natAbs).length c5c, .slice A5d (Za E1.natAbs).length c5d, .slice A3a (Za N2.natAbs).length c3a, .slice A3b (Za D2.natAbs).length c3b, .slice A4a (Za N3.natAbs).length c4a, .slice A4b (Za D3.natAbs).length c4b, .slice A4c (Za M3.natAbs).length c4c, .slice A4d (Za E3.natAbs).length c4d] from hk)
     have HY := Hd (HY.out.trans (HBB.out ▸ hb))
     clear l_o a_o b_o c_o d_o e_o f_o g_o h_o V_o
     clear hk hb
     obtain ⟨-, -, -, -, -, -, -, -, -, -, -, -, -, -, -, V_p, -⟩ := (FB.out.below HY.out).h
     obtain ⟨l_p, a_p, b_p, c_p, d_p, e_p, f_p, g_p, h_p⟩ := V_p.oct.facts
     go_wp2_with fail
     refine (keep_gauss bk [.slice A2a (Za N1.natAbs).length c2a, .slice A2b (Za D1.natAbs).length c2b, .slice A2c (Za M1.natAbs).length c2c, .slice A2d (Za E1.natAbs).length c2d, .slice A5a (Za N1.natAbs).length c5a, .slice A5b (Za D1.natAbs).length c5b, .slice A5c (Za M1.natAbs).length c5c, .slice A5d (Za E1.natAbs).length c5d, .slice A3a (Za N2.natAbs).length c3a, .slice A3b (Za D2.natAbs).length c3b, .slice A4a (Za N3.natAbs).length c4a, .slice A4b (Za D3.natAbs).length c4b, .slice A4c (Za M3.natAbs).length c4c, .slice A4d (Za E3.natAbs).length c4d] n1 n2 n3 n4 (some ⟨g1, 0, none⟩) (some ⟨g2, 0, none⟩) (some ⟨g3, 0, none⟩) (some ⟨g4, 0, none⟩) xs.length (xs.length + 1) ys.length (ys.length + 1) us.length (us.length + 1) vs.length (vs.length + 1) (by simp) _ K.out).mono ?_
     rintro e vz5 ⟨rfl, hk, hb, -⟩
     have K := Hd (show Kept vz5 bk [.slice A2a (Za N1.natAbs).length c2a, .slice A2b (Za D1.natAbs).length c2b, .slice A2c (Za M1.natAbs).length c2c, .slice A2d (Za E1.natAbs).length c2d, .slice A5a (Za N1.natAbs).length c5a, .slice A5b (Za D1.natAbs).length c5b, .slice A5c (Za M1.natAbs).length c5c, .slice A5d (Za E1.natAbs).length c5d, .slice A3a (Za N2.natAbs).length c3a, .slice A3b (Za D2.natAbs).length c3b, .slice A4a (Za N3.natAbs).length c4a, .slice A4b (Za D3.natAbs).length c4b, .slice A4c (Za M3.natAbs).length c4c, .slice A4d (Za E3.natAbs).length c4d, .slice (some ⟨g1, 0, none⟩) xs.length (xs.length + 1), .slice (some ⟨g2, 0, none⟩) ys.length (ys.length + 1), .slice (some ⟨g3, 0, none⟩) us.length (us.length + 1), .slice (some ⟨g4, 0, none⟩) vs.length (vs.length + 1)] from hk)
     have HY := Hd (HY.out.trans (HBB.out ▸ hb))
     clear l_p a_p b_p c_p d_p e_p f_p g_p h_p V_p
     clear hk hb
     obtain ⟨-, -, -, -, -, -, -, -, -, -, -, -, -, -, V_u, -⟩ := (FB.out.below HY.out).h
     obtain ⟨l_u, a_u, b_u, c_u, d_u, -, -, -, -⟩ := V_u.quad.facts
     go_wp2_with fail
     refine (keep_frac bk [.slice A2a (Za N1.natAbs).length c2a, .slice A2b (Za D1.natAbs).length c2b, .slice A2c (Za M1.natAbs).length c2c, .slice A2d (Za E1.natAbs).length c2d, .slice A5a (Za N1.natAbs).length c5a, .slice A5b (Za D1.natAbs).length c5b, .slice A5c (Za M1.natAbs).length c5c, .slice A5d (Za E1.natAbs).length c5d, .slice A3a (Za N2.natAbs).length c3a, .slice A3b (Za D2.natAbs).length c3b, .slice A4a (Za N3.natAbs).length c4a, .slice A4b (Za D3.natAbs).length c4b, .slice A4c (Za M3.natAbs).length c4c, .slice A4d (Za E3.natAbs).length c4d, .slice (some ⟨g1, 0, none⟩) xs.length (xs.length + 1), .slice (some ⟨g2, 0, none⟩) ys.length (ys.length + 1), .slice (some ⟨g3, 0, none⟩) us.length (us.length + 1), .slice (some ⟨g4, 0, none⟩) vs.length (vs.length + 1)] m1 m2 (some ⟨f1, 0, none⟩) (some ⟨f2, 0, none⟩) ps.length (ps.length + 1) qs.length (qs.length + 1) (by simp) _ K.out).mono ?_
     rintro e vz6 ⟨rfl, hk, hb, -⟩
     have K := Hd (show Kept vz6 bk [.slice A2a (Za N1.natAbs).length c2a, .slice A2b (Za D1.natAbs).length c2b, .slice A2c (Za M1.natAbs).length c2c, .slice A2d (Za E1.natAbs).length c2d, .slice A5a (Za N1.natAbs).length c5a, .slice A5b (Za D1.natAbs).length c5b, .slice A5c (Za M1.natAbs).length c5c, .slice A5d (Za E1.natAbs).length c5d, .slice A3a (Za N2.natAbs).length c3a, .slice A3b (Za D2.natAbs).length c3b, .slice A4a (Za N3.natAbs).length c4a, .slice A4b (Za D3.natAbs).length c4b, .slice A4c (Za M3.natAbs).length c4c, .slice A4d (Za E3.natAbs).length c4d, .slice (some ⟨g1, 0, none⟩) xs.length (xs.length + 1), .slice (some ⟨g2, 0, none⟩) ys.length (ys.length + 1), .slice (some ⟨g3, 0, none⟩) us.length (us.length + 1), .slice (some ⟨g4, 0, none⟩) vs.length (vs.length + 1), .slice (some ⟨f1, 0, none⟩) ps.length (ps.length + 1), .slice (some ⟨f2, 0, none⟩) qs.length (qs.length + 1)] from hk)
     have HY := Hd (HY.out.trans (HBB.out ▸ hb))
     clear l_u a_u b_u c_u d_u V_u
     clear hk hb
     obtain ⟨-, -, -, RS, -, -, -, -, -, -, -, -, -, -, -, -, -, -, HB⟩ := (FB.out.below HY.out).h
     have hbs : w.heap.size <= bk := by rw [HBB.out]; obtain ⟨-, -, -, -, -, -, -, -, -, -, -, -, -, -, -, -, -, -, hz⟩ := FB.out.h; exact hz.size
     go_wp2_with fail
     refine (kept_apart bk w.heap.size [.slice A2a (Za N1.natAbs).length c2a, .slice A2b (Za D1.natAbs).length c2b, .slice A2c (Za M1.natAbs).length c2c, .slice A2d (Za E1.natAbs).length c2d, .slice A5a (Za N1.natAbs).length c5a, .slice A5b (Za D1.natAbs).length c5b, .slice A5c (Za M1.natAbs).length c5c, .slice A5d (Za E1.natAbs).length c5d, .slice A3a (Za N2.natAbs).length c3a, .slice A3b (Za D2.natAbs).length c3b, .slice A4a (Za N3.natAbs).length c4a, .slice A4b (Za D3.natAbs).length c4b, .slice A4c (Za M3.natAbs).length c4c, .slice A4d (Za E3.natAbs).length c4d, .slice (some ⟨g1, 0, none⟩) xs.length (xs.length + 1), .slice (some ⟨g2, 0, none⟩) ys.length (ys.length + 1), .slice (some ⟨g3, 0, none⟩) us.length (us.length + 1), .slice (some ⟨g4, 0, none⟩) vs.length (vs.length + 1), .slice (some ⟨f1, 0, none⟩) ps.length (ps.length + 1), .slice (some ⟨f2, 0, none⟩) qs.length (qs.length + 1)] w vz6 (by simp) (by simp) K.out RS hbs HB).mono ?_
     rintro e vy ⟨rfl, hb⟩
     have HE := Hd hb
     clear RS HB hbs hb
     go_wp2_with fail
     refine (alive_true vy (HT.out.below2 HE.out)).mono ?_
     rintro e vx ⟨rfl, hb⟩
     have HE := Hd (Zb HE.out hb)
     clear hb
     go_wp2_with fail
     go_ret
     exact ⟨rfl, HE.out⟩
end Go.Proofs.YthlehkjcfhnplaaGreatDoor
