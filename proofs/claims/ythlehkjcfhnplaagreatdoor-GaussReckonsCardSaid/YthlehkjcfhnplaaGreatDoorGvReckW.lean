/- Several texts in one: ReckW. -/
import Derived.Test.YthlehkjcfhnplaaGreatDoorGv29
set_option maxRecDepth 100000
set_option maxHeartbeats 8000000
namespace Go.Proofs.YthlehkjcfhnplaaGreatDoor
open Go.RowKit

structure GRV (w : World) (g : Nat) (T : TypeId) (n1 n2 n3 n4 : Bool) (A : Option Addr) (c : Nat) (B : Option Addr) (e : Nat) (C : Option Addr) (k : Nat) (D : Option Addr) (l : Nat) (xs ys us vs : List Nat) : Prop where
 oct : ZF w g T (.bool n1) (.slice A xs.length c) (.bool n2) (.slice B ys.length e) (.bool n3) (.slice C us.length k) (.bool n4) (.slice D vs.length l)
 at_ : Zn w (.agg #[.bool n1, .slice A xs.length c, .bool n2, .slice B ys.length e, .bool n3, .slice C us.length k, .bool n4, .slice D vs.length l]) n1 n2 n3 n4 xs ys us vs
theorem GRV.below {w w' : World} {g : Nat} {T : TypeId} {n1 n2 n3 n4 : Bool} {A : Option Addr} {c : Nat} {B : Option Addr} {e : Nat} {C : Option Addr} {k : Nat} {D : Option Addr} {l : Nat} {xs ys us vs : List Nat} (h : GRV w g T n1 n2 n3 n4 A c B e C k D l xs ys us vs) (hb : Below w.heap.size w w') : GRV w' g T n1 n2 n3 n4 A c B e C k D l xs ys us vs := ⟨h.oct.below hb, h.at_.below hb⟩
theorem rows_apart {cs ds : Array Value} {vs us : List Value} (h : ∀ g, blkAgg (.agg cs) g -> ¬ blkAgg (.agg ds) g) (h1 : ∀ v ∈ vs, v ∈ cs.toList) (h2 : ∀ v ∈ us, v ∈ ds.toList) : ∀ i j, i < vs.length -> j < us.length -> ∀ g, (vs.getD i ZJ).ownBlock = some g -> (us.getD j ZJ).ownBlock ≠ some g := by
 intro i j hi hj g a b
 have e1 : vs.getD i ZJ = vs[i] := by simp [List.getD, List.getElem?_eq_getElem hi]
 have e2 : us.getD j ZJ = us[j] := by simp [List.getD, List.getElem?_eq_getElem hj]
 rw [e1] at a
 rw [e2] at b
 exact h g (.of (h1 _ (List.getElem_mem hi)) a) (.of (h2 _ (List.getElem_mem hj)) b)
theorem left_gauss_t {lo : Nat} {n1 n2 n3 n4 : Bool} {xs ys us vs : List Nat} {g1 g2 g3 g4 : Nat} {w : World} {v_x : Value} (h : Yo lo n1 n2 n3 n4 xs ys us vs (.agg #[.bool n1, .slice (some ⟨g1, 0, none⟩) xs.length (xs.length + 1), .bool n2, .slice (some ⟨g2, 0, none⟩) ys.length (ys.length + 1), .bool n3, .slice (some ⟨g3, 0, none⟩) us.length (us.length + 1), .bool n4, .slice (some ⟨g4, 0, none⟩) vs.length (vs.length + 1)]) w) (g_x : Zn w v_x n1 n2 n3 n4 xs ys us vs) (hl : (xs.length <= 1048576 /\ ys.length <= 1048576) /\ us.length <= 1048576 /\ vs.length <= 1048576) :
  Calls Tryz.prog 24 #[.agg #[.bool n1, .slice (some ⟨g1, 0, none⟩) xs.length (xs.length + 1), .bool n2, .slice (some ⟨g2, 0, none⟩) ys.length (ys.length + 1), .bool n3, .slice (some ⟨g3, 0, none⟩) us.length (us.length + 1), .bool n4, .slice (some ⟨g4, 0, none⟩) vs.length (vs.length + 1)], v_x] w fun e w' => e = .returned (.bool true) /\ Below w.heap.size w w' := by
 obtain ⟨a1, a2, a3, a4, e, h1, h2, h3, h4, -⟩ := h.form
 simp at e
 obtain ⟨rfl, rfl, rfl, rfl⟩ := e
 exact left_gauss n1 n2 n3 n4 xs ys us vs g1 g2 g3 g4 w v_x h1 h2 h3 h4 g_x hl.1.1 hl.1.2 hl.2.1 hl.2.2
structure LoopG (w0 wr : World) (b i : Nat) : Prop where
 form : ∃ rs : List Value, rs.length + 12 = 12 * i /\ Kept wr b rs /\ Zz wr w0.heap.size rs /\ Below w0.heap.size w0 wr

theorem reckons_true {n1 n2 n3 n4 m1 m2 m3 m4 : Bool} {xs ys us vs ps qs ks ts : List Nat} (w : World) (v_x v_y : Value) (g_x : Zn w v_x n1 n2 n3 n4 xs ys us vs) (g_y : Zn w v_y m1 m2 m3 m4 ps qs ks ts) (htab : Y5 w)
   (bx : (xs.length <= 1152921504606846975 /\ ys.length <= 1152921504606846975) /\ us.length <= 1152921504606846975 /\ vs.length <= 1152921504606846975) (by_ : (ps.length <= 1152921504606846975 /\ qs.length <= 1152921504606846975) /\ ks.length <= 1152921504606846975 /\ ts.length <= 1152921504606846975) :
   Calls Tryz.prog 4 #[v_x, v_y] w fun e w' => e = .returned (.bool true) /\ Below w.heap.size w w' := by
 obtain ⟨Ax1, cx1, Ax2, cx2, Ax3, cx3, Ax4, cx4, rfl, r1, r2, r3, r4⟩ := g_x.form
 obtain ⟨Ay1, cy1, Ay2, cy2, Ay3, cy3, Ay4, cy4, rfl, r5, r6, r7, r8⟩ := g_y.form
 have HLX := Hd (And.intro (And.intro r1.limbs r2.limbs) (And.intro r3.limbs r4.limbs))
 have HLY := Hd (And.intro (And.intro r5.limbs r6.limbs) (And.intro r7.limbs r8.limbs))
 have C1 := fun (V : World) (v : Value) (g : Zn V v n1 n2 n3 n4 xs ys us vs) => gauss_cost bx.1.1 bx.1.2 bx.2.1 bx.2.2 V v g
 have C2 := fun (V : World) (v : Value) (g : Zn V v m1 m2 m3 m4 ps qs ks ts) => gauss_cost by_.1.1 by_.1.2 by_.2.1 by_.2.2 V v g
 have b1 := JN bx.1.1 bx.1.2
 have b2 := JN bx.2.1 bx.2.2
 have b3 := JN by_.1.1 by_.1.2
 have b4 := JN by_.2.1 by_.2.2
 obtain ⟨s1, e1⟩ : ∃ k : Nat, k = JO xs.length ys.length + JO us.length vs.length := ⟨_, rfl⟩
 obtain ⟨s2, e2⟩ : ∃ k : Nat, k = JO ps.length qs.length + JO ks.length ts.length := ⟨_, rfl⟩
 rw [<- e1] at C1
 rw [<- e2] at C2
 obtain ⟨b, hb⟩ : ∃ b : Bool, b = decide (1048576 < [s1, s2].sum) := ⟨_, rfl⟩
 have HLEN := Hd (show b = false -> ((xs.length <= 1048576 /\ ys.length <= 1048576) /\ us.length <= 1048576 /\ vs.length <= 1048576) /\ (ps.length <= 1048576 /\ qs.length <= 1048576) /\ ks.length <= 1048576 /\ ts.length <= 1048576 from by
   intro e
   rw [e] at hb
   have h9 := of_decide_eq_false hb.symm
   simp at h9
   clear C1 C2 HLX HLY b1 b2 b3 b4 hb
   unfold JO at e1 e2
   omega)
 have H3 := Hd (fun (u : Value) (V : World) (h : X9 [s1, s2] u V) => beyond_of3 [s1, s2] b (by simp) (by simp; omega) hb u V h)
 have H1 := Hd C1
 have H2 := Hd C2
 obtain ⟨k1, D1, E1⟩ := check_spec n1 n2 n3 n4 xs ys us vs
 obtain ⟨k2, D2, E2⟩ := check_spec m1 m2 m3 m4 ps qs ks ts
 have HD1 := Hd D1
 have HE1 := Hd E1
 have HD2 := Hd D2
 have HE2 := Hd E2
 have HT := Hd htab
 have G_x := Hd g_x
 have G_y := Hd g_y
 clear C1 C2 b1 b2 b3 b4 e1 e2 hb D1 E1 D2 E2 htab g_x g_y r1 r2 r3 r4 r5 r6 r7 r8 bx by_
 go_enter Tryz.func4, Tryz.ntmps4
 go_upto_region 1 with fail
 refine XG (P := fun W => Code.wp _ _ _ _ W) fun W p0 p1 b0 => ?_
 have F := Hd (((Kp.base b0).add (GRV.mk (ZF.mk p1) (G_y.out.below b0)) (fun _ _ => GRV.below)).add (GRV.mk (ZF.mk p0) (G_x.out.below b0)) (fun _ _ => GRV.below))
 clear b0 p0 p1 G_x G_y
 go_wp2_with fail
 refine Zc [.val (.agg #[.bool n1, .slice Ax1 xs.length cx1, .bool n2, .slice Ax2 ys.length cx2, .bool n3, .slice Ax3 us.length cx3, .bool n4, .slice Ax4 vs.length cx4]) [], .val (.int .i64 s1) [], .val (.agg #[.bool m1, .slice Ay1 ps.length cy1, .bool m2, .slice Ay2 qs.length cy2, .bool m3, .slice Ay3 ks.length cy3, .bool m4, .slice Ay4 ts.length cy4]) [], .val (.int .i64 s2) [], .any false (X9 [s1, s2]) [], .val (.bool b) [4]] W.heap.size W [] (fun _ _ => False) _ Zd (Nat.le_refl _) (Below.refl _ _) (Zr.refl _ _ _) rfl ?_ ?_ ?_ ?_ ?_ ?_ ?_ ?_ rfl (by simp [ZI]) ?_ ?_ ?_ ?_
 iterate 8 kernel_rfl
 . simp only [Zq, and_true]
   exact fun u V V' h k => h.kept k
 . simp only [ZK]
 . simp (maxSteps := 4000000) [Zv, Z6, Ze, Zs, Zg]
   repeat' (first | apply And.intro | (intro (u : Value)) | (intro (u : Nat)))
   all_goals first
   | (intro V hV hK
      obtain ⟨V_x, V_y, -⟩ := (F.out.below hV).h
      obtain ⟨l_x, a_x, b_x, c_x, d_x, e_x, f_x, g_x, h_x⟩ := V_x.oct.facts
      obtain ⟨l_y, a_y, b_y, c_y, d_y, e_y, f_y, g_y, h_y⟩ := V_y.oct.facts
      clear hV hK
      go_simp
      first
      | exact Below.refl _ _
      | exact ⟨X9.new [s1, s2] _ _ _ rfl, (Below.refl _ _).alloc (Nat.le_refl _) _⟩
      | ((with_reducible refine (H1.out V _ V_x.at_).mono ?_); rintro e w' ⟨rfl, hb⟩; exact ⟨rfl, hb⟩)
      | ((with_reducible refine (H2.out V _ V_y.at_).mono ?_); rintro e w' ⟨rfl, hb⟩; exact ⟨rfl, hb⟩))
   | (intro V hV hK h1
      obtain ⟨V_x, V_y, -⟩ := (F.out.below hV).h
      obtain ⟨l_x, a_x, b_x, c_x, d_x, e_x, f_x, g_x, h_x⟩ := V_x.oct.facts
      obtain ⟨l_y, a_y, b_y, c_y, d_y, e_y, f_y, g_y, h_y⟩ := V_y.oct.facts
      clear hV hK
      go_simp
      ((with_reducible refine (H3.out _ V h1).mono ?_); rintro e w' ⟨rfl, hb⟩; exact ⟨rfl, hb⟩))
 . simp [Z8, Zx, Ze, Zs, Zg]
   intro u1 V1 hV hK h1 _ _ _
   have F := Hd (F.out.below hV)
   clear hV hK h1
   clear H1 H2 H3
   cases b
   case true =>
     obtain ⟨-, -, HB⟩ := F.out.h
     go_wp2_with fail
     go_ret
     exact ⟨rfl, HB⟩
   have HL := Hd (HLEN.out rfl)
   have HL2 := HL
   clear HLEN
   have H1 := Hd (fun (V : World) (g : Zn V (.agg #[.bool n1, .slice Ax1 xs.length cx1, .bool n2, .slice Ax2 ys.length cx2, .bool n3, .slice Ax3 us.length cx3, .bool n4, .slice Ax4 vs.length cx4]) n1 n2 n3 n4 xs ys us vs) => twin_gauss_own n1 n2 n3 n4 Ax1 Ax2 Ax3 Ax4 cx1 cx2 cx3 cx4 xs ys us vs V g.raws.1 g.raws.2.1 g.raws.2.2.1 g.raws.2.2.2 HL.out.1.1.1 HL.out.1.1.2 HL.out.1.2.1 HL.out.1.2.2)
   have H2 := Hd (fun (V : World) (g : Zn V (.agg #[.bool m1, .slice Ay1 ps.length cy1, .bool m2, .slice Ay2 qs.length cy2, .bool m3, .slice Ay3 ks.length cy3, .bool m4, .slice Ay4 ts.length cy4]) m1 m2 m3 m4 ps qs ks ts) => twin_gauss_own m1 m2 m3 m4 Ay1 Ay2 Ay3 Ay4 cy1 cy2 cy3 cy4 ps qs ks ts V g.raws.1 g.raws.2.1 g.raws.2.2.1 g.raws.2.2.2 HL.out.2.1.1 HL.out.2.1.2 HL.out.2.2.1 HL.out.2.2.2)
   go_wp2_with fail
   refine Zc [.val (.agg #[.bool n1, .slice Ax1 xs.length cx1, .bool n2, .slice Ax2 ys.length cx2, .bool n3, .slice Ax3 us.length cx3, .bool n4, .slice Ax4 vs.length cx4]) [], .any true (fun u V => Yo w.heap.size n1 n2 n3 n4 xs ys us vs u V) [], .val (.agg #[.bool m1, .slice Ay1 ps.length cy1, .bool m2, .slice Ay2 qs.length cy2, .bool m3, .slice Ay3 ks.length cy3, .bool m4, .slice Ay4 ts.length cy4]) [], .any true (fun u V => Yo w.heap.size m1 m2 m3 m4 ps qs ks ts u V) [], .new 28 8, .new 28 8, .put 28 8 4 1 [], .put 28 8 5 3 []] V1.heap.size V1 [28] blkAgg _ Zd (Nat.le_refl _) (Below.refl _ _) (Zr.refl _ _ _) rfl ?_ ?_ ?_ ?_ ?_ ?_ ?_ ?_ rfl (by simp [ZI]) ?_ ?_ ?_ ?_
   iterate 8 kernel_rfl
   . simp only [Zq, and_true]
     exact ⟨fun u V V' h k => h.kept k (by decide), fun u V V' h k => h.kept k (by decide)⟩
   . simp only [ZK]
   . simp (maxSteps := 4000000) [Zv, Z6, Ze, Zs, Zg]
     repeat' (first | apply And.intro | (intro (u : Value)) | (intro (u : Nat)))
     all_goals try exact ⟨_, _, _, rfl, rfl, rfl, rfl, YD⟩
     all_goals try exact allocGauss rfl
     all_goals first
     | (intro V hV hK
        obtain ⟨V_x, V_y, HB⟩ := (F.out.below hV).h
        have hvs := HB.size
        obtain ⟨l_x, a_x, b_x, c_x, d_x, e_x, f_x, g_x, h_x⟩ := V_x.oct.facts
        obtain ⟨l_y, a_y, b_y, c_y, d_y, e_y, f_y, g_y, h_y⟩ := V_y.oct.facts
        clear hV hK
        go_simp
        first
        | exact Below.refl _ _
        | ((with_reducible refine (H1.out V V_x.at_).mono ?_); rintro _ _ ⟨_, rfl, x, y⟩; exact ⟨x.base hvs, y, x.mineA⟩)
        | ((with_reducible refine (H2.out V V_y.at_).mono ?_); rintro _ _ ⟨_, rfl, x, y⟩; exact ⟨x.base hvs, y, x.mineA⟩))
     | exact fun _ _ _ (h : Yo _ _ _ _ _ _ _ _ _ _ _) => h.cells
     | exact fun _ _ _ (h : Yo _ _ _ _ _ _ _ _ _ _ _) _ => h.cells
   . simp [Z8, Zx, Ze, Zs, Zg]
     intro u1 u2 b_p hb_p b_q hb_q V3 hV hK h1 h2 p_p p_q hap _ _
     have hap2 : ∀ g, blkAgg u1 g -> ¬ blkAgg u2 g := hap 1 3 rfl rfl (by decide)
     have x1 := h1.raw HLX.out.1.1 HLX.out.1.2 HLX.out.2.1 HLX.out.2.2 HL.out.1.1.1 HL.out.1.1.2 HL.out.1.2.1 HL.out.1.2.2
     have x2 := h2.raw HLY.out.1.1 HLY.out.1.2 HLY.out.2.1 HLY.out.2.2 HL.out.2.1.1 HL.out.2.1.2 HL.out.2.2.1 HL.out.2.2.2
     obtain ⟨g1, g2, g3, g4, rfl, -⟩ := h1.form
     obtain ⟨f1, f2, f3, f4, rfl, -⟩ := h2.form
     have RS := Zz.both (h1.free HL.out.1.1.1 HL.out.1.1.2 HL.out.1.2.1 HL.out.1.2.2) (h2.free HL.out.2.1.1 HL.out.2.1.2 HL.out.2.2.1 HL.out.2.2.2) (rows_apart hap2 (by simp) (by simp))
     have F := Hd (((((F.out.below hV).add (GRV.mk (show ZF V3 b_p 28 _ _ _ _ _ _ _ _ from ⟨p_p⟩) x1) (fun _ _ => GRV.below)).add (GRV.mk (show ZF V3 b_q 28 _ _ _ _ _ _ _ _ from ⟨p_q⟩) x2) (fun _ _ => GRV.below)).add h1 (fun _ _ => Yo.below)).add h2 (fun _ _ => Yo.below))
     have F := Hd (F.out.add (show Zz V3 w.heap.size [.slice (some ⟨g1, 0, none⟩) xs.length (xs.length + 1), .slice (some ⟨g2, 0, none⟩) ys.length (ys.length + 1), .slice (some ⟨g3, 0, none⟩) us.length (us.length + 1), .slice (some ⟨g4, 0, none⟩) vs.length (vs.length + 1), .slice (some ⟨f1, 0, none⟩) ps.length (ps.length + 1), .slice (some ⟨f2, 0, none⟩) qs.length (qs.length + 1), .slice (some ⟨f3, 0, none⟩) ks.length (ks.length + 1), .slice (some ⟨f4, 0, none⟩) ts.length (ts.length + 1)] from RS) (fun _ _ => Zz.below))
     clear hV hK h1 h2 p_p p_q hap hap2 x1 x2 RS hb_p hb_q H1 H2
     go_wp2_with fail
     refine Zc [.val (.agg #[.bool n1, .slice (some ⟨g1, 0, none⟩) xs.length (xs.length + 1), .bool n2, .slice (some ⟨g2, 0, none⟩) ys.length (ys.length + 1), .bool n3, .slice (some ⟨g3, 0, none⟩) us.length (us.length + 1), .bool n4, .slice (some ⟨g4, 0, none⟩) vs.length (vs.length + 1)]) [], .val (.int .i64 k1) [], .val (.agg #[.bool n1, .slice Ax1 xs.length cx1, .bool n2, .slice Ax2 ys.length cx2, .bool n3, .slice Ax3 us.length cx3, .bool n4, .slice Ax4 vs.length cx4]) [], .val (.int .i64 k1) [], .val (.bool false) [], .val (.bool false) [], .val (.agg #[.bool m1, .slice (some ⟨f1, 0, none⟩) ps.length (ps.length + 1), .bool m2, .slice (some ⟨f2, 0, none⟩) qs.length (qs.length + 1), .bool m3, .slice (some ⟨f3, 0, none⟩) ks.length (ks.length + 1), .bool m4, .slice (some ⟨f4, 0, none⟩) ts.length (ts.length + 1)]) [], .val (.int .i64 k2) [], .val (.agg #[.bool m1, .slice Ay1 ps.length cy1, .bool m2, .slice Ay2 qs.length cy2, .bool m3, .slice Ay3 ks.length cy3, .bool m4, .slice Ay4 ts.length cy4]) [], .val (.int .i64 k2) [], .val (.bool false) [], .val (.bool false) []] V3.heap.size V3 [] (fun _ _ => False) _ Zd (Nat.le_refl _) (Below.refl _ _) (Zr.refl _ _ _) rfl ?_ ?_ ?_ ?_ ?_ ?_ ?_ ?_ rfl (by simp [ZI]) ?_ ?_ ?_ ?_
     iterate 8 kernel_rfl
     . simp only [Zq]
     . simp only [ZK]
     . simp (maxSteps := 4000000) [Zv, Z6, Ze, Zs, Zg]
       repeat' (first | apply And.intro | (intro (u : Value)) | (intro (u : Nat)))
       all_goals first
       | (intro V hV hK
          obtain ⟨-, -, -, V_q, V_p, V_x, V_y, -⟩ := (F.out.below hV).h
          obtain ⟨l_x, a_x, b_x, c_x, d_x, e_x, f_x, g_x, h_x⟩ := V_x.oct.facts
          obtain ⟨l_y, a_y, b_y, c_y, d_y, e_y, f_y, g_y, h_y⟩ := V_y.oct.facts
          obtain ⟨l_p, a_p, b_p, c_p, d_p, e_p, f_p, g_p, h_p⟩ := V_p.oct.facts
          obtain ⟨l_q, a_q, b_q, c_q, d_q, e_q, f_q, g_q, h_q⟩ := V_q.oct.facts
          clear hV hK
          go_simp
          first
          | exact Below.refl _ _
          | exact ⟨by simp, Below.refl _ _⟩
          | ((with_reducible refine (HD1.out V _ V_p.at_).mono ?_); rintro e w' ⟨rfl, hb⟩; exact ⟨rfl, hb⟩)
          | ((with_reducible refine (HE1.out V _ V_x.at_).mono ?_); rintro e w' ⟨rfl, hb⟩; exact ⟨rfl, hb⟩)
          | ((with_reducible refine (HD2.out V _ V_q.at_).mono ?_); rintro e w' ⟨rfl, hb⟩; exact ⟨rfl, hb⟩)
          | ((with_reducible refine (HE2.out V _ V_y.at_).mono ?_); rintro e w' ⟨rfl, hb⟩; exact ⟨rfl, hb⟩))
     . simp [Z8, Zx, Ze, Zs, Zg]
       intro  V2 hV hK  _ _ _
       have F := Hd (F.out.below hV)
       clear hV hK 
       clear HD1 HE1 HD2 HE2
       go_upto_region 7 with fail
       obtain ⟨v0, E⟩ : ∃ W, W = V2.alloc (.cells #[.int .i64 0, .slice none 0 0, .slice none 0 0, .slice none 0 0, .slice none 0 0, .slice none 0 0, .slice none 0 0, .slice none 0 0, .slice none 0 0, .slice none 0 0, .slice none 0 0, .slice none 0 0, .slice none 0 0, .slice none 0 0, .slice none 0 0, .slice none 0 0, .slice none 0 0] 50) := ⟨_, rfl⟩
       have hk0 : Ja v0 V2.heap.size 0 (fun _ => ZJ) ZJ := by rw [E]; exact Ja.new V2 _
       have HY := Hd (show Below V2.heap.size V2 v0 from by rw [E]; exact (Below.refl _ _).alloc (Nat.le_refl _) _)
       rw [<- E]
       obtain ⟨bk, hbb⟩ : ∃ b, b = V2.heap.size := ⟨_, rfl⟩
       rw [<- hbb] at hk0 ⊢
       have HBB := Hd hbb
       have K := Hd (show Kept v0 bk [] from ⟨ZJ, hk0.cong (fun j hj => by omega)⟩)
       clear E hk0 hbb
       have FB := F
       clear F
       have H0 := Hd (show LoopG V2 v0 bk 1 from LoopG.mk ⟨[], rfl, K.out, Zz.nil _ _, HY.out⟩)
       clear K HY
       have HSP := Hd (fun (i : Nat) (hi : 1 <= i /\ i <= 4) => reck_spec i hi n1 n2 n3 n4 xs ys us vs m1 m2 m3 m4 ps qs ks ts HLX.out.1.1 HLX.out.1.2 HLX.out.2.1 HLX.out.2.2 HLY.out.1.1 HLY.out.1.2 HLY.out.2.1 HLY.out.2.2)
       have HSQ := Hd (fun (i : Nat) (hi : 1 <= i /\ i <= 4) => reck_spec i hi m1 m2 m3 m4 ps qs ks ts n1 n2 n3 n4 xs ys us vs HLY.out.1.1 HLY.out.1.2 HLY.out.2.1 HLY.out.2.2 HLX.out.1.1 HLX.out.1.2 HLX.out.2.1 HLX.out.2.2)
       go_wp2_with fail
       go_loopw [8] (fun s wr => ∃ i : Nat, s = .int .i64 i /\ 1 <= i /\ i <= 5 /\ Hid (LoopG V2 wr bk i)) (fun s _ => 5 - (intOf s).toNat)
       case atStart => exact ⟨1, rfl, by omega, by omega, H0⟩
       case round =>
         obtain ⟨i, rfl, hi1, hi5, HR⟩ := hrel
         clear H0
         obtain ⟨rs, hlen, hk, hr, hlow⟩ := HR.out.form
         have HLN := Hd hlen
         have F := Hd ((((FB.out.below hlow).add hr (fun _ _ => Zz.below)).add hk (fun _ _ => Kept.below)).add (show (fun V => Below V2.heap.size V2 V) wr from hlow) (fun _ _ a b => Zb a b))
         clear HR hlen hk hr hlow
         by_cases hlt : i <= 4
         . obtain ⟨N, D, M, E, k, hz, D1, D2⟩ := HSP.out i ⟨hi1, hlt⟩
           obtain ⟨N', D', M', E', k', hz', D3, D4⟩ := HSQ.out i ⟨hi1, hlt⟩
           have HZ := Hd (And.intro hz hz')
           have HD1 := Hd D1
           have HD2 := Hd D2
           have HD3 := Hd D3
           have HD4 := Hd D4
           have a1 : (i : Int) <= 4 := by omega
           clear hz hz' D1 D2 D3 D4 HSP HSQ hlt hi5
           obtain ⟨HL, K, RS, -, -, -, V_q, V_p, -⟩ := F.out.h
           obtain ⟨l_p, a_p, b_p, c_p, d_p, e_p, f_p, g_p, h_p⟩ := V_p.oct.facts
           obtain ⟨l_q, a_q, b_q, c_q, d_q, e_q, f_q, g_q, h_q⟩ := V_q.oct.facts
           go_wp2_with fail
           refine (HD1.out wr _ _ V_p.at_ V_q.at_).mono ?_
           rintro e wx51 ⟨v, rfl, hI, hb⟩
           obtain ⟨A51a, c51a, A51b, c51b, A51c, c51c, A51d, c51d, rfl, -⟩ := hI.form
           have hn := GV.new 28 (hI.in_.at_)
           have ha := (Below.refl wx51.heap.size wx51).alloc (Nat.le_refl _) (.cells #[.bool (decide (N < 0)), .slice A51a (Za N.natAbs).length c51a, .bool (decide (D < 0)), .slice A51b (Za D.natAbs).length c51b, .bool (decide (M < 0)), .slice A51c (Za M.natAbs).length c51c, .bool (decide (E < 0)), .slice A51d (Za E.natAbs).length c51d] 28)
           have hbx := hb.trans (ha.mono hb.size)
           have RS := Zz.app (w0 := wr) (RS.below hbx) RS HL.size ((hI.below ha).free (Nat.le_trans HZ.out.1.1 (by decide)) (Nat.le_trans HZ.out.1.2.1 (by decide)) (Nat.le_trans HZ.out.1.2.2.1 (by decide)) (Nat.le_trans HZ.out.1.2.2.2 (by decide)))
           obtain ⟨cs9, hc9⟩ := K.book
           have hlt9 := hc9.lt
           have hsz9 := hb.size
           have hne9 : wx51.heap.size ≠ bk := by omega
           have F := Hd ((((F.out.below hb).below ha).add hn (fun _ _ => GV.below)).add (show Zz _ V2.heap.size (rs ++ [.slice A51a (Za N.natAbs).length c51a, .slice A51b (Za D.natAbs).length c51b, .slice A51c (Za M.natAbs).length c51c, .slice A51d (Za E.natAbs).length c51d]) from RS) (fun _ _ => Zz.below))
           clear l_p a_p b_p c_p d_p e_p f_p g_p h_p l_q a_q b_q c_q d_q e_q f_q g_q h_q HL K RS V_p V_q
           clear hI hb hn ha hbx hc9 hlt9 hsz9
           go_upto_region 11 with fail
           obtain ⟨wy51, E⟩ : ∃ W, W = wx51.alloc (.cells #[.bool (decide (N < 0)), .slice A51a (Za N.natAbs).length c51a, .bool (decide (D < 0)), .slice A51b (Za D.natAbs).length c51b, .bool (decide (M < 0)), .slice A51c (Za M.natAbs).length c51c, .bool (decide (E < 0)), .slice A51d (Za E.natAbs).length c51d] 28) := ⟨_, rfl⟩
           obtain ⟨q51, hq⟩ : ∃ q, q = wx51.heap.size := ⟨_, rfl⟩
           rw [<- hq] at hne9
           have N_a := Hd hne9
           clear hne9
           rw [<- E, <- hq] at F ⊢
           clear E hq
           obtain ⟨RS, -, HL, K, -, -, -, -, V_q, V_p, -⟩ := F.out.h
           obtain ⟨l_q, a_q, b_q, c_q, d_q, e_q, f_q, g_q, h_q⟩ := V_q.oct.facts
           obtain ⟨l_p, a_p, b_p, c_p, d_p, e_p, f_p, g_p, h_p⟩ := V_p.oct.facts
           go_wp2_with fail
           refine (HD3.out wy51 _ _ V_q.at_ V_p.at_).mono ?_
           rintro e wx52 ⟨v, rfl, hI, hb⟩
           obtain ⟨A52a, c52a, A52b, c52b, A52c, c52c, A52d, c52d, rfl, -⟩ := hI.form
           have hn := GV.new 28 (hI.in_.at_)
           have ha := (Below.refl wx52.heap.size wx52).alloc (Nat.le_refl _) (.cells #[.bool (decide (N' < 0)), .slice A52a (Za N'.natAbs).length c52a, .bool (decide (D' < 0)), .slice A52b (Za D'.natAbs).length c52b, .bool (decide (M' < 0)), .slice A52c (Za M'.natAbs).length c52c, .bool (decide (E' < 0)), .slice A52d (Za E'.natAbs).length c52d] 28)
           have hbx := hb.trans (ha.mono hb.size)
           have RS := Zz.app (w0 := wy51) (RS.below hbx) RS HL.size ((hI.below ha).free (Nat.le_trans HZ.out.2.1 (by decide)) (Nat.le_trans HZ.out.2.2.1 (by decide)) (Nat.le_trans HZ.out.2.2.2.1 (by decide)) (Nat.le_trans HZ.out.2.2.2.2 (by decide)))
           obtain ⟨cs9, hc9⟩ := K.book
           have hlt9 := hc9.lt
           have hsz9 := hb.size
           have hne9 : wx52.heap.size ≠ bk := by omega
           have F := Hd ((((F.out.below hb).below ha).add hn (fun _ _ => GV.below)).add (show Zz _ V2.heap.size ((rs ++ [.slice A51a (Za N.natAbs).length c51a, .slice A51b (Za D.natAbs).length c51b, .slice A51c (Za M.natAbs).length c51c, .slice A51d (Za E.natAbs).length c51d]) ++ [.slice A52a (Za N'.natAbs).length c52a, .slice A52b (Za D'.natAbs).length c52b, .slice A52c (Za M'.natAbs).length c52c, .slice A52d (Za E'.natAbs).length c52d]) from RS) (fun _ _ => Zz.below))
           clear l_q a_q b_q c_q d_q e_q f_q g_q h_q l_p a_p b_p c_p d_p e_p f_p g_p h_p HL K RS V_p V_q
           clear hI hb hn ha hbx hc9 hlt9 hsz9
           go_upto_region 12 with fail
           obtain ⟨wy52, E⟩ : ∃ W, W = wx52.alloc (.cells #[.bool (decide (N' < 0)), .slice A52a (Za N'.natAbs).length c52a, .bool (decide (D' < 0)), .slice A52b (Za D'.natAbs).length c52b, .bool (decide (M' < 0)), .slice A52c (Za M'.natAbs).length c52c, .bool (decide (E' < 0)), .slice A52d (Za E'.natAbs).length c52d] 28) := ⟨_, rfl⟩
           obtain ⟨q52, hq⟩ : ∃ q, q = wx52.heap.size := ⟨_, rfl⟩
           rw [<- hq] at hne9
           have N_b := Hd hne9
           clear hne9
           rw [<- E, <- hq] at F ⊢
           clear E hq
           obtain ⟨RS, -, -, -, HL, K, -, -, -, -, V_q, V_p, -⟩ := F.out.h
           obtain ⟨l_p, a_p, b_p, c_p, d_p, e_p, f_p, g_p, h_p⟩ := V_p.oct.facts
           obtain ⟨l_q, a_q, b_q, c_q, d_q, e_q, f_q, g_q, h_q⟩ := V_q.oct.facts
           go_wp2_with fail
           refine (HD1.out wy52 _ _ V_p.at_ V_q.at_).mono ?_
           rintro e wx53 ⟨v, rfl, hI, hb⟩
           obtain ⟨A53a, c53a, A53b, c53b, A53c, c53c, A53d, c53d, rfl, -⟩ := hI.form
           have hn := GV.new 28 (hI.in_.at_)
           have ha := (Below.refl wx53.heap.size wx53).alloc (Nat.le_refl _) (.cells #[.bool (decide (N < 0)), .slice A53a (Za N.natAbs).length c53a, .bool (decide (D < 0)), .slice A53b (Za D.natAbs).length c53b, .bool (decide (M < 0)), .slice A53c (Za M.natAbs).length c53c, .bool (decide (E < 0)), .slice A53d (Za E.natAbs).length c53d] 28)
           have hbx := hb.trans (ha.mono hb.size)
           have RS := Zz.app (w0 := wy52) (RS.below hbx) RS HL.size ((hI.below ha).free (Nat.le_trans HZ.out.1.1 (by decide)) (Nat.le_trans HZ.out.1.2.1 (by decide)) (Nat.le_trans HZ.out.1.2.2.1 (by decide)) (Nat.le_trans HZ.out.1.2.2.2 (by decide)))
           obtain ⟨cs9, hc9⟩ := K.book
           have hlt9 := hc9.lt
           have hsz9 := hb.size
           have hne9 : wx53.heap.size ≠ bk := by omega
           have F := Hd ((((F.out.below hb).below ha).add hn (fun _ _ => GV.below)).add (show Zz _ V2.heap.size (((rs ++ [.slice A51a (Za N.natAbs).length c51a, .slice A51b (Za D.natAbs).length c51b, .slice A51c (Za M.natAbs).length c51c, .slice A51d (Za E.natAbs).length c51d]) ++ [.slice A52a (Za N'.natAbs).length c52a, .slice A52b (Za D'.natAbs).length c52b, .slice A52c (Za M'.natAbs).length c52c, .slice A52d (Za E'.natAbs).length c52d]) ++ [.slice A53a (Za N.natAbs).length c53a, .slice A53b (Za D.natAbs).length c53b, .slice A53c (Za M.natAbs).length c53c, .slice A53d (Za E.natAbs).length c53d]) from RS) (fun _ _ => Zz.below))
           clear l_p a_p b_p c_p d_p e_p f_p g_p h_p l_q a_q b_q c_q d_q e_q f_q g_q h_q HL K RS V_p V_q
           clear hI hb hn ha hbx hc9 hlt9 hsz9
           go_upto_region 13 with fail
           obtain ⟨wy53, E⟩ : ∃ W, W = wx53.alloc (.cells #[.bool (decide (N < 0)), .slice A53a (Za N.natAbs).length c53a, .bool (decide (D < 0)), .slice A53b (Za D.natAbs).length c53b, .bool (decide (M < 0)), .slice A53c (Za M.natAbs).length c53c, .bool (decide (E < 0)), .slice A53d (Za E.natAbs).length c53d] 28) := ⟨_, rfl⟩
           obtain ⟨q53, hq⟩ : ∃ q, q = wx53.heap.size := ⟨_, rfl⟩
           rw [<- hq] at hne9
           have N_c := Hd hne9
           clear hne9
           rw [<- E, <- hq] at F ⊢
           clear E hq
           obtain ⟨-, -, -, -, -, -, -, -, -, -, -, -, -, -, V_x, V_y, -⟩ := F.out.h
           obtain ⟨l_x, a_x, b_x, c_x, d_x, e_x, f_x, g_x, h_x⟩ := V_x.oct.facts
           obtain ⟨l_y, a_y, b_y, c_y, d_y, e_y, f_y, g_y, h_y⟩ := V_y.oct.facts
           go_wp2_with fail
           refine (HD2.out wy53 _ _ V_x.at_ V_y.at_).mono ?_
           rintro e wx54 ⟨v, rfl, hI, hb⟩
           obtain ⟨A54a, c54a, A54b, c54b, A54c, c54c, A54d, c54d, rfl, -⟩ := hI.form
           have hn := GV.new 28 (hI.at_)
           have ha := (Below.refl wx54.heap.size wx54).alloc (Nat.le_refl _) (.cells #[.bool (decide (N < 0)), .slice A54a (Za N.natAbs).length c54a, .bool (decide (D < 0)), .slice A54b (Za D.natAbs).length c54b, .bool (decide (M < 0)), .slice A54c (Za M.natAbs).length c54c, .bool (decide (E < 0)), .slice A54d (Za E.natAbs).length c54d] 28)
           have F := Hd (((F.out.below hb).below ha).add hn (fun _ _ => GV.below))
           clear l_x a_x b_x c_x d_x e_x f_x g_x h_x l_y a_y b_y c_y d_y e_y f_y g_y h_y V_x V_y
           clear hI hb hn ha
           go_upto_region 14 with fail
           obtain ⟨wy54, E⟩ : ∃ W, W = wx54.alloc (.cells #[.bool (decide (N < 0)), .slice A54a (Za N.natAbs).length c54a, .bool (decide (D < 0)), .slice A54b (Za D.natAbs).length c54b, .bool (decide (M < 0)), .slice A54c (Za M.natAbs).length c54c, .bool (decide (E < 0)), .slice A54d (Za E.natAbs).length c54d] 28) := ⟨_, rfl⟩
           obtain ⟨q54, hq⟩ : ∃ q, q = wx54.heap.size := ⟨_, rfl⟩
           rw [<- E, <- hq] at F ⊢
           clear E hq
           obtain ⟨-, -, -, -, -, -, -, -, -, -, -, -, -, -, -, V_x, V_y, -⟩ := F.out.h
           obtain ⟨l_y, a_y, b_y, c_y, d_y, e_y, f_y, g_y, h_y⟩ := V_y.oct.facts
           obtain ⟨l_x, a_x, b_x, c_x, d_x, e_x, f_x, g_x, h_x⟩ := V_x.oct.facts
           go_wp2_with fail
           refine (HD4.out wy54 _ _ V_y.at_ V_x.at_).mono ?_
           rintro e wx55 ⟨v, rfl, hI, hb⟩
           obtain ⟨A55a, c55a, A55b, c55b, A55c, c55c, A55d, c55d, rfl, -⟩ := hI.form
           have hn := GV.new 28 (hI.at_)
           have ha := (Below.refl wx55.heap.size wx55).alloc (Nat.le_refl _) (.cells #[.bool (decide (N' < 0)), .slice A55a (Za N'.natAbs).length c55a, .bool (decide (D' < 0)), .slice A55b (Za D'.natAbs).length c55b, .bool (decide (M' < 0)), .slice A55c (Za M'.natAbs).length c55c, .bool (decide (E' < 0)), .slice A55d (Za E'.natAbs).length c55d] 28)
           have F := Hd (((F.out.below hb).below ha).add hn (fun _ _ => GV.below))
           clear l_y a_y b_y c_y d_y e_y f_y g_y h_y l_x a_x b_x c_x d_x e_x f_x g_x h_x V_x V_y
           clear hI hb hn ha
           go_upto_region 15 with fail
           obtain ⟨wy55, E⟩ : ∃ W, W = wx55.alloc (.cells #[.bool (decide (N' < 0)), .slice A55a (Za N'.natAbs).length c55a, .bool (decide (D' < 0)), .slice A55b (Za D'.natAbs).length c55b, .bool (decide (M' < 0)), .slice A55c (Za M'.natAbs).length c55c, .bool (decide (E' < 0)), .slice A55d (Za E'.natAbs).length c55d] 28) := ⟨_, rfl⟩
           obtain ⟨q55, hq⟩ : ∃ q, q = wx55.heap.size := ⟨_, rfl⟩
           rw [<- E, <- hq] at F ⊢
           clear E hq
           clear HD1 HD2 HD3 HD4
           obtain ⟨-, V_wa, -, -, -, -, -, V_a, -⟩ := F.out.h
           obtain ⟨l_a, a_a, b_a, c_a, d_a, e_a, f_a, g_a, h_a⟩ := V_a.oct.facts
           obtain ⟨l_wa, a_wa, b_wa, c_wa, d_wa, e_wa, f_wa, g_wa, h_wa⟩ := V_wa.oct.facts
           go_wp2_with fail
           refine (Jg wy55 _ _ V_a.at_ V_wa.at_).mono ?_
           rintro e wx56 ⟨rfl, hb⟩
           have F := Hd (F.out.below hb)
           clear l_a a_a b_a c_a d_a e_a f_a g_a h_a l_wa a_wa b_wa c_wa d_wa e_wa f_wa g_wa h_wa V_a V_wa
           clear hb
           obtain ⟨-, V_wa, -, V_c, -⟩ := F.out.h
           obtain ⟨l_c, a_c, b_c, c_c, d_c, e_c, f_c, g_c, h_c⟩ := V_c.oct.facts
           obtain ⟨l_wa, a_wa, b_wa, c_wa, d_wa, e_wa, f_wa, g_wa, h_wa⟩ := V_wa.oct.facts
           go_wp2_with fail
           refine (Jg wx56 _ _ V_c.at_ V_wa.at_).mono ?_
           rintro e wx57 ⟨rfl, hb⟩
           have F := Hd (F.out.below hb)
           clear l_c a_c b_c c_c d_c e_c f_c g_c h_c l_wa a_wa b_wa c_wa d_wa e_wa f_wa g_wa h_wa V_c V_wa
           clear hb
           obtain ⟨V_wb, -, -, -, -, V_b, -⟩ := F.out.h
           obtain ⟨l_b, a_b, b_b, c_b, d_b, e_b, f_b, g_b, h_b⟩ := V_b.oct.facts
           obtain ⟨l_wb, a_wb, b_wb, c_wb, d_wb, e_wb, f_wb, g_wb, h_wb⟩ := V_wb.oct.facts
           go_wp2_with fail
           refine (Jg wx57 _ _ V_b.at_ V_wb.at_).mono ?_
           rintro e wx58 ⟨rfl, hb⟩
           have F := Hd (F.out.below hb)
           clear l_b a_b b_b c_b d_b e_b f_b g_b h_b l_wb a_wb b_wb c_wb d_wb e_wb f_wb g_wb h_wb V_b V_wb
           clear hb
           obtain ⟨-, -, RS, V_c, -, V_b, -, V_a, HL, K, -⟩ := F.out.h
           have KK := Hd K
           have RSL := Hd RS
           have HY := Hd HL
           have P_a := Hd V_a.oct
           have P_b := Hd V_b.oct
           have P_c := Hd V_c.oct
           clear K RS HL F V_a V_b V_c
           obtain ⟨l_0, x0, x1, x2, x3, x4, x5, x6, x7⟩ := P_a.out.facts
           go_wp2_with fail
           refine (Jk bk rs (decide (N < 0)) (decide (D < 0)) (decide (M < 0)) (decide (E < 0)) A51a A51b A51c A51d (Za N.natAbs).length c51a (Za D.natAbs).length c51b (Za M.natAbs).length c51c (Za E.natAbs).length c51d (by have := HLN.out; simp; omega) _ KK.out).mono ?_
           rintro e vz1 ⟨rfl, hk, hb, hf⟩
           obtain ⟨cs9, hc9⟩ := KK.out.book
           have RSL := Hd (RSL.out.far hf hc9)
           have P_b := Hd (ZF.mk (hf.blk _ _ _ (by decide) N_b.out P_b.out.blk))
           have P_c := Hd (ZF.mk (hf.blk _ _ _ (by decide) N_c.out P_c.out.blk))
           have KK := Hd hk
           have HY := Hd (HY.out.trans (HBB.out ▸ hb))
           clear hk hb hf hc9 l_0 x0 x1 x2 x3 x4 x5 x6 x7 P_a
           obtain ⟨l_0, x0, x1, x2, x3, x4, x5, x6, x7⟩ := P_b.out.facts
           go_wp2_with fail
           refine (Jk bk (rs ++ [.slice A51a (Za N.natAbs).length c51a, .slice A51b (Za D.natAbs).length c51b, .slice A51c (Za M.natAbs).length c51c, .slice A51d (Za E.natAbs).length c51d]) (decide (N' < 0)) (decide (D' < 0)) (decide (M' < 0)) (decide (E' < 0)) A52a A52b A52c A52d (Za N'.natAbs).length c52a (Za D'.natAbs).length c52b (Za M'.natAbs).length c52c (Za E'.natAbs).length c52d (by have := HLN.out; simp; omega) _ KK.out).mono ?_
           rintro e vz2 ⟨rfl, hk, hb, hf⟩
           obtain ⟨cs9, hc9⟩ := KK.out.book
           have RSL := Hd (RSL.out.far hf hc9)
           have P_c := Hd (ZF.mk (hf.blk _ _ _ (by decide) N_c.out P_c.out.blk))
           have KK := Hd hk
           have HY := Hd (HY.out.trans (HBB.out ▸ hb))
           clear hk hb hf hc9 l_0 x0 x1 x2 x3 x4 x5 x6 x7 P_b
           obtain ⟨l_0, x0, x1, x2, x3, x4, x5, x6, x7⟩ := P_c.out.facts
           go_wp2_with fail
           refine (Jk bk ((rs ++ [.slice A51a (Za N.natAbs).length c51a, .slice A51b (Za D.natAbs).length c51b, .slice A51c (Za M.natAbs).length c51c, .slice A51d (Za E.natAbs).length c51d]) ++ [.slice A52a (Za N'.natAbs).length c52a, .slice A52b (Za D'.natAbs).length c52b, .slice A52c (Za M'.natAbs).length c52c, .slice A52d (Za E'.natAbs).length c52d]) (decide (N < 0)) (decide (D < 0)) (decide (M < 0)) (decide (E < 0)) A53a A53b A53c A53d (Za N.natAbs).length c53a (Za D.natAbs).length c53b (Za M.natAbs).length c53c (Za E.natAbs).length c53d (by have := HLN.out; simp; omega) _ KK.out).mono ?_
           rintro e vz3 ⟨rfl, hk, hb, hf⟩
           obtain ⟨cs9, hc9⟩ := KK.out.book
           have RSL := Hd (RSL.out.far hf hc9)
           have KK := Hd hk
           have HY := Hd (HY.out.trans (HBB.out ▸ hb))
           clear hk hb hf hc9 l_0 x0 x1 x2 x3 x4 x5 x6 x7 P_c
           have HN := Hd (show LoopG V2 vz3 bk (i + 1) from LoopG.mk ⟨_, by have := HLN.out; simp; omega, KK.out, RSL.out, HY.out⟩)
           clear KK RSL HY HLN
           go_wp2_with fail
           go_roundw
           case rel => exact ⟨i + 1, by go_num, by omega, by omega, HN⟩
           case measure => simp [intOf]; omega
         . obtain rfl : i = 5 := by omega
           clear HSP HSQ hlt hi1 hi5
           obtain ⟨-, -, -, -, -, TP, -, V_p, V_x, -⟩ := F.out.h
           obtain ⟨l_p, a_p, b_p, c_p, d_p, e_p, f_p, g_p, h_p⟩ := V_p.oct.facts
           obtain ⟨l_x, a_x, b_x, c_x, d_x, e_x, f_x, g_x, h_x⟩ := V_x.oct.facts
           go_wp2_with fail
           refine (left_gauss_t TP V_x.at_ HL2.out.1).mono ?_
           rintro e wx101 ⟨rfl, hb⟩
           have F := Hd (F.out.below hb)
           clear l_p a_p b_p c_p d_p e_p f_p g_p h_p l_x a_x b_x c_x d_x e_x f_x g_x h_x TP V_p V_x
           clear hb
           obtain ⟨-, -, -, -, TQ, -, V_q, -, -, V_y, -⟩ := F.out.h
           obtain ⟨l_q, a_q, b_q, c_q, d_q, e_q, f_q, g_q, h_q⟩ := V_q.oct.facts
           obtain ⟨l_y, a_y, b_y, c_y, d_y, e_y, f_y, g_y, h_y⟩ := V_y.oct.facts
           go_wp2_with fail
           refine (left_gauss_t TQ V_y.at_ HL2.out.2).mono ?_
           rintro e wx102 ⟨rfl, hb⟩
           have F := Hd (F.out.below hb)
           clear l_q a_q b_q c_q d_q e_q f_q g_q h_q l_y a_y b_y c_y d_y e_y f_y g_y h_y TQ V_q V_y
           clear hb
           obtain ⟨HL, K, RS, -⟩ := F.out.h
           have KK := Hd K
           have RSL := Hd RS
           have HY := Hd HL
           clear K RS HL F
           obtain ⟨-, -, -, -, V_p, -⟩ := (FB.out.below HY.out).h
           have P_p := Hd V_p.oct
           clear V_p
           obtain ⟨l_0, x0, x1, x2, x3, x4, x5, x6, x7⟩ := P_p.out.facts
           go_wp2_with fail
           refine (Jk bk rs n1 n2 n3 n4 (some ⟨g1, 0, none⟩) (some ⟨g2, 0, none⟩) (some ⟨g3, 0, none⟩) (some ⟨g4, 0, none⟩) xs.length (xs.length + 1) ys.length (ys.length + 1) us.length (us.length + 1) vs.length (vs.length + 1) (by have := HLN.out; simp; omega) _ KK.out).mono ?_
           rintro e vz51 ⟨rfl, hk, hb, hf⟩
           obtain ⟨cs9, hc9⟩ := KK.out.book
           have RSL := Hd (RSL.out.far hf hc9)
           have KK := Hd hk
           have HY := Hd (HY.out.trans (HBB.out ▸ hb))
           clear hk hb hf hc9 l_0 x0 x1 x2 x3 x4 x5 x6 x7 P_p
           obtain ⟨-, -, -, V_q, -⟩ := (FB.out.below HY.out).h
           have P_q := Hd V_q.oct
           clear V_q
           obtain ⟨l_0, x0, x1, x2, x3, x4, x5, x6, x7⟩ := P_q.out.facts
           go_wp2_with fail
           refine (Jk bk (rs ++ [.slice (some ⟨g1, 0, none⟩) xs.length (xs.length + 1), .slice (some ⟨g2, 0, none⟩) ys.length (ys.length + 1), .slice (some ⟨g3, 0, none⟩) us.length (us.length + 1), .slice (some ⟨g4, 0, none⟩) vs.length (vs.length + 1)]) m1 m2 m3 m4 (some ⟨f1, 0, none⟩) (some ⟨f2, 0, none⟩) (some ⟨f3, 0, none⟩) (some ⟨f4, 0, none⟩) ps.length (ps.length + 1) qs.length (qs.length + 1) ks.length (ks.length + 1) ts.length (ts.length + 1) (by have := HLN.out; simp; omega) _ KK.out).mono ?_
           rintro e vz52 ⟨rfl, hk, hb, hf⟩
           obtain ⟨cs9, hc9⟩ := KK.out.book
           have RSL := Hd (RSL.out.far hf hc9)
           have KK := Hd hk
           have HY := Hd (HY.out.trans (HBB.out ▸ hb))
           clear hk hb hf hc9 l_0 x0 x1 x2 x3 x4 x5 x6 x7 P_q
           obtain ⟨RPQ, -, -, -, -, -, -, HB⟩ := (FB.out.below HY.out).h
           obtain ⟨RPQ0, -, -, -, -, -, -, HB0⟩ := FB.out.h
           have RSA := (RPQ.app RPQ0 HB0.size RSL.out).perm List.perm_append_comm
           have KA : Kept vz52 bk (rs ++ [.slice (some ⟨g1, 0, none⟩) xs.length (xs.length + 1), .slice (some ⟨g2, 0, none⟩) ys.length (ys.length + 1), .slice (some ⟨g3, 0, none⟩) us.length (us.length + 1), .slice (some ⟨g4, 0, none⟩) vs.length (vs.length + 1), .slice (some ⟨f1, 0, none⟩) ps.length (ps.length + 1), .slice (some ⟨f2, 0, none⟩) qs.length (qs.length + 1), .slice (some ⟨f3, 0, none⟩) ks.length (ks.length + 1), .slice (some ⟨f4, 0, none⟩) ts.length (ts.length + 1)]) := by have := KK.out; rw [List.append_assoc] at this; exact this
           have e5 : rs.length = 48 := by have := HLN.out; omega
           go_wp2_with fail
           refine (kept_apart bk w.heap.size (rs ++ [.slice (some ⟨g1, 0, none⟩) xs.length (xs.length + 1), .slice (some ⟨g2, 0, none⟩) ys.length (ys.length + 1), .slice (some ⟨g3, 0, none⟩) us.length (us.length + 1), .slice (some ⟨g4, 0, none⟩) vs.length (vs.length + 1), .slice (some ⟨f1, 0, none⟩) ps.length (ps.length + 1), .slice (some ⟨f2, 0, none⟩) qs.length (qs.length + 1), .slice (some ⟨f3, 0, none⟩) ks.length (ks.length + 1), .slice (some ⟨f4, 0, none⟩) ts.length (ts.length + 1)]) w vz52 (by simp) (by simp; omega) KA RSA (by rw [HBB.out]; exact HB0.size) HB).mono ?_
           rintro e vy ⟨rfl, hb⟩
           have HE := Hd hb
           clear RPQ RPQ0 HB HB0 RSA KA KK RSL HY e5 hb
           go_wp2_with fail
           refine (alive_true vy (HT.out.below2 HE.out)).mono ?_
           rintro e vx ⟨rfl, hb⟩
           have HE := Hd (Zb HE.out hb)
           clear hb
           go_wp2_with fail
           go_ret
           exact ⟨rfl, HE.out⟩
end Go.Proofs.YthlehkjcfhnplaaGreatDoor
