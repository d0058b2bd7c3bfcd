/- Several texts in one: Turned, Lowest, LowestOwn, Trees, Copy. -/
import Derived.Test.YthlehkjcfhnplaaGreatDoorGv14
set_option maxRecDepth 100000
set_option maxHeartbeats 8000000
namespace Go.Proofs.YthlehkjcfhnplaaGreatDoor
open Go.RowKit

theorem eturned (x z : Int) (A : Option Addr) (c : Nat) (w : World) (h_x : Zj w A c (Za x.natAbs)) (hx : lz x <= 400000000) (hz : z = -x) :
   Calls Tryz.prog 249 #[.agg #[.bool (decide (x < 0)), .slice A (Za x.natAbs).length c]] w (ZG w.heap.size w z) := by
 obtain ⟨n0, hn0⟩ : ∃ k : Int, k = 0 := ⟨_, rfl⟩
 have H0 := Hd hn0
 have HZ := Hd (show z = n0 - x from by rw [hz, hn0]; omega)
 have hl0 : lz n0 <= 400000000 := by rw [hn0]; decide
 clear hz hn0
 have b0 := (((Below.refl w.heap.size w).alloc (Nat.le_refl _) (.cells #[.bool (decide (x < 0)), .slice A (Za x.natAbs).length c] 24)).alloc (by simp) (.cells #[.bool false, .slice none 0 0] 24))
 have p0 := (Zl.new w 24 (.bool (decide (x < 0))) (.slice A (Za x.natAbs).length c)).alloc (.cells #[.bool false, .slice none 0 0] 24)
 have p1 := Zl.new (w.alloc (.cells #[.bool (decide (x < 0)), .slice A (Za x.natAbs).length c] 24)) 24 (.bool false) (.slice none 0 0)
 simp only [World.size_alloc] at p1
 have V_x := Hd (NV.of h_x b0 p0)
 have P_r0 := Hd p1
 have RW_x := Hd h_x
 have HBW := Hd b0
 clear b0 p0 p1 h_x
 go_enter Tryz.func249, Tryz.ntmps249
 obtain ⟨W, E⟩ : ∃ W, W = ((w.alloc (.cells #[.bool (decide (x < 0)), .slice A (Za x.natAbs).length c] 24)).alloc (.cells #[.bool false, .slice none 0 0] 24)) := ⟨_, rfl⟩
 go_upto_region 1 with fail
 rw [<- E] at V_x P_r0 HBW ⊢
 clear E
 have hsz := P_r0.out.blk.lt
 go_wp2_with fail
 refine Zc [.any false (fun u V => Zf V 0 u n0) [], .val (.agg #[.bool (decide (x < 0)), .slice A (Za x.natAbs).length c]) [], .any false (fun u V => Zf V w.heap.size u z) [0], .old (w.heap.size + 1) 24 #[.bool false, .slice none 0 0] 0 2 2 []] (w.heap.size + 1) W [24] (fun _ _ => False) _ Zd (by omega) (Below.refl _ _) (Zr.refl _ _ _) rfl ?_ ?_ ?_ ?_ ?_ ?_ ?_ ?_ rfl (by simp [ZI]) ?_ ?_ ?_ ?_
 iterate 8 kernel_rfl
 . simp only [Zq, and_true]
   exact ⟨fun u V V' h k => h.kept k (by decide), fun u V V' h k => h.kept k (by decide)⟩
 . simp only [ZK, and_true]
   exact ⟨Nat.le_refl _, by omega, P_r0.out.blk, by simp⟩
 . simp (maxSteps := 4000000) [Zv, Z6, Ze, Zs, Zg]
   repeat' (first | apply And.intro | (intro (u : Value)) | (intro (u : Nat)))
   all_goals try exact ⟨_, _, _, rfl, rfl, rfl, rfl, Jx⟩
   all_goals first
   | (intro V hV hK
      have px := V_x.out.pair.blk.below hV (Nat.lt_succ_self _)
      obtain ⟨-, a_x, b_x, -, -⟩ := (Zl.mk px).facts
      clear hV hK px
      go_simp
      first
      | exact Below.refl _ _
      | ((with_reducible refine (eof 0 n0 H0.out (by decide) (by decide) V).mono ?_); rintro _ _ ⟨_, rfl, x, y⟩; exact ⟨x.base (Nat.zero_le _), y⟩))
   | (intro V hV hK hu
      obtain ⟨A', c', rfl, hr⟩ := hu.raw
      have r2 := Hd hr
      have rx := Hd (RW_x.out.below (HBW.out.trans (hV.mono (by omega))))
      have hvs : w.heap.size <= V.heap.size := by have := hK.size; omega
      clear hV hK hu hr
      go_simp
      (with_reducible refine (eminus n0 x z A' A c' c V r2.out rx.out (by omega) (by omega) HZ.out).mono ?_)
      rintro e w' ⟨v, rfl, hv, hb⟩
      exact ⟨hv.base hvs, hb⟩)
   | exact fun _ _ _ (h : Zf _ _ _ _) => h.cells
 . simp [Z8, Zx, Ze, Zs, Zg]
   intro u1 u2 V hV hK h1 h2 bq _ _ _
   obtain ⟨A2, c2, rfl, -⟩ := h2.raw
   simp [ZT, Value.cells] at bq
   have k0 := bq.cell 0
   have k1 := bq.cell 1
   simp at k0 k1
   have HO := Hd h2
   have HB := Hd (HBW.out.trans (hV.mono (by omega)))
   clear h1 h2 hV hK bq
   go_wp2_with fail
   exact bodyPost_ret (by simp [results, Tryz.results249, go_sem, k0, k1]) rfl ⟨_, rfl, HO.out, HB.out⟩


def YJ (w : World) (n d : Int) (e : Ending) (w' : World) : Prop := ∃ v, e = .returned v /\ ZH w' 0 v n d /\ Below w.heap.size w w'
theorem Zf.quad {w : World} {base g : Nat} {v' a b c d : Value} {n : Int} (hi : Zf w base v' n) (q : ZB w g a b c d) (x y z u : Value) : Zf ((((w.setCell ⟨g, 0, none⟩ x).setCell ⟨g, 1, none⟩ y).setCell ⟨g, 2, none⟩ z).setCell ⟨g, 3, none⟩ u) base v' n := by
 obtain ⟨A', c', a1, a2, a3, a4⟩ := hi.form
 have hne := YO a4 q.blk (by decide)
 refine ⟨A', c', a1, a2, a3, a4.1, ?_⟩
 rcases a4.2 with p | ⟨g', cap, cur, p1, p2, p3, p4⟩
 . exact .inl p
 . refine .inr ⟨g', cap, cur, p1, p2, ?_, p4⟩
   have hg : g' ≠ g := fun e => by
    rw [p1] at hne
    exact hne (by simp [Value.ownBlock, e])
   rw [Below.heap_setCell _ ⟨g, 3, none⟩ u g' hg, Below.heap_setCell _ ⟨g, 2, none⟩ z g' hg, Below.heap_setCell _ ⟨g, 1, none⟩ y g' hg, Below.heap_setCell _ ⟨g, 0, none⟩ x g' hg]
   exact p3

theorem rlow_neg (n d : Int) (A B : Option Addr) (c e0 : Nat) (w : World) (h_n : Zj w A c (Za n.natAbs)) (h_d : Zj w B e0 (Za d.natAbs)) (hn : lz n <= 30000) (hd : lz d <= 30000) (hd0 : d ≠ 0) (hs0 : d < 0) :
   Calls Tryz.prog 157 #[.agg #[.bool (decide (n < 0)), .slice A (Za n.natAbs).length c], .agg #[.bool (decide (d < 0)), .slice B (Za d.natAbs).length e0]] w (YJ w (YF n d) (YB n d)) := by
 obtain ⟨g, hg⟩ : ∃ k : Int, k = ZX n d := ⟨_, rfl⟩
 obtain ⟨q, hq⟩ : ∃ k : Int, k = n.tdiv g := ⟨_, rfl⟩
 obtain ⟨r, hr⟩ : ∃ k : Int, k = n.tmod g := ⟨_, rfl⟩
 obtain ⟨p, hp⟩ : ∃ k : Int, k = d.tdiv g := ⟨_, rfl⟩
 obtain ⟨s, hs⟩ : ∃ k : Int, k = d.tmod g := ⟨_, rfl⟩
 obtain ⟨q', hq'⟩ : ∃ k : Int, k = -q := ⟨_, rfl⟩
 obtain ⟨p', hp'⟩ : ∃ k : Int, k = -p := ⟨_, rfl⟩
 have hgp := Xw (n := n) hd0
 have hgl := XP (n := n) hd0
 rw [<- hg] at hgp hgl
 have hql : lz q <= lz n := by rw [hq]; exact YX n g
 have hpl : lz p <= lz d := by rw [hp]; exact YX d g
 have hps : p.sign = d.sign := by rw [hp, hg]; exact Jc hd0
 obtain ⟨sg, hsg⟩ : ∃ k : Int, k = p.sign := ⟨_, rfl⟩
 have HSG := Hd hsg
 have HSN := Hd (show decide (sg < 0) = true from by
   rw [hsg, hps]
   exact decide_eq_true (by rw [Int.sign_eq_neg_one_of_neg hs0]; decide))
 have HG := Hd hg
 have HG0 := Hd (show g ≠ 0 from by omega)
 have HQ := Hd (And.intro hq hr)
 have HP := Hd (And.intro hp hs)
 have HN1 := Hd hq'
 have HN2 := Hd hp'
 have HLN := Hd (show YF n d = q' /\ YB n d = p' from by
   unfold YF YB
   rw [if_pos hs0, if_pos hs0, <- hg, <- hq, <- hp, hq', hp']
   exact ⟨rfl, rfl⟩)
 clear hg hq hr hp hs hq' hp' hs0 hsg hps hd0
 have b0 := ((((Below.refl w.heap.size w).alloc (Nat.le_refl _) (.cells #[.bool (decide (n < 0)), .slice A (Za n.natAbs).length c] 24)).alloc (by simp) (.cells #[.bool (decide (d < 0)), .slice B (Za d.natAbs).length e0] 24)).alloc (by simp; omega) (.cells #[.bool false, .slice none 0 0, .bool false, .slice none 0 0] 26))
 have p0 := ((Zl.new w 24 (.bool (decide (n < 0))) (.slice A (Za n.natAbs).length c)).alloc (.cells #[.bool (decide (d < 0)), .slice B (Za d.natAbs).length e0] 24)).alloc (.cells #[.bool false, .slice none 0 0, .bool false, .slice none 0 0] 26)
 have p1 := (Zl.new (w.alloc (.cells #[.bool (decide (n < 0)), .slice A (Za n.natAbs).length c] 24)) 24 (.bool (decide (d < 0))) (.slice B (Za d.natAbs).length e0)).alloc (.cells #[.bool false, .slice none 0 0, .bool false, .slice none 0 0] 26)
 have p2 := ZB.new ((w.alloc (.cells #[.bool (decide (n < 0)), .slice A (Za n.natAbs).length c] 24)).alloc (.cells #[.bool (decide (d < 0)), .slice B (Za d.natAbs).length e0] 24)) (.bool false) (.slice none 0 0) (.bool false) (.slice none 0 0)
 simp only [World.size_alloc] at p1 p2
 have V_n := Hd (NV.of h_n b0 p0)
 have V_d := Hd (NV.of h_d b0 p1)
 have P_r0 := Hd p2
 have RW_n := Hd h_n
 have RW_d := Hd h_d
 have HBW := Hd b0
 clear b0 p0 p1 p2 h_n h_d
 go_enter Tryz.func157, Tryz.ntmps157
 obtain ⟨W, E⟩ : ∃ W, W = (((w.alloc (.cells #[.bool (decide (n < 0)), .slice A (Za n.natAbs).length c] 24)).alloc (.cells #[.bool (decide (d < 0)), .slice B (Za d.natAbs).length e0] 24)).alloc (.cells #[.bool false, .slice none 0 0, .bool false, .slice none 0 0] 26)) := ⟨_, rfl⟩
 go_upto_region 1 with fail
 rw [<- E] at V_n V_d P_r0 HBW ⊢
 clear E
 have hsz := P_r0.out.blk.lt
 obtain ⟨l_n, a_n, b_n, -, -⟩ := V_n.out.pair.facts
 obtain ⟨l_d, a_d, b_d, -, -⟩ := V_d.out.pair.facts
 go_wp2_with fail
 refine (common02 n d A B c e0 W V_n.out.raw V_d.out.raw (by omega) (by omega)).mono ?_
 rintro e x1 ⟨v, rfl, hI, hb⟩
 rw [<- HG.out] at hI
 obtain ⟨A1, c1, rfl, r1⟩ := hI.form
 clear hI
 clear l_n a_n b_n l_d a_d b_d
 have V_n := Hd (V_n.out.below hb)
 have V_d := Hd (V_d.out.below hb)
 have P_r0 := Hd (P_r0.out.below hb)
 have HBW := Hd (Zb HBW.out hb)
 have R_g := Hd r1
 clear hb r1
 go_upto_region 2 with fail
 have ha := ((Below.refl x1.heap.size x1).alloc (Nat.le_refl _) (.cells #[.bool (decide (g < 0)), .slice A1 (Za g.natAbs).length c1] 24))
 have p_g := (Zl.new x1 24 (.bool (decide (g < 0))) (.slice A1 (Za g.natAbs).length c1))
 obtain ⟨y2, E⟩ : ∃ W, W = (x1.alloc (.cells #[.bool (decide (g < 0)), .slice A1 (Za g.natAbs).length c1] 24)) := ⟨_, rfl⟩
 rw [<- E] at ha p_g ⊢
 have V_g := Hd (NV.of R_g.out ha p_g)
 have V_n := Hd (V_n.out.below ha)
 have V_d := Hd (V_d.out.below ha)
 have P_r0 := Hd (P_r0.out.below ha)
 have HBW := Hd (Zb HBW.out ha)
 obtain ⟨g2, hg⟩ : ∃ g, g = x1.heap.size := ⟨_, rfl⟩
 rw [<- hg] at V_g ⊢
 clear E ha hg p_g
 obtain ⟨l_n, a_n, b_n, -, -⟩ := V_n.out.pair.facts
 obtain ⟨l_g, a_g, b_g, -, -⟩ := V_g.out.pair.facts
 go_wp2_with fail
 refine (Ju n g q r A A1 c c1 y2 V_n.out.raw V_g.out.raw (by omega) (by omega) HG0.out HQ.out.1 HQ.out.2).mono ?_
 rintro e x3 ⟨v1, v2, rfl, hI1, hI2, hb⟩
 obtain ⟨A2, c2, rfl, r2⟩ := hI1.raw
 obtain ⟨A3, c3, rfl, r3⟩ := hI2.raw
 clear l_n a_n b_n l_g a_g b_g
 have V_n := Hd (V_n.out.below hb)
 have V_d := Hd (V_d.out.below hb)
 have V_g := Hd (V_g.out.below hb)
 have P_r0 := Hd (P_r0.out.below hb)
 have HBW := Hd (Zb HBW.out hb)
 have R_q := Hd r2
 have R_rm := Hd r3
 have O_q := Hd (hI1.base (Nat.zero_le _))
 clear hb hI1 hI2 r2 r3
 go_upto_region 3 with fail
 have ha := (((Below.refl x3.heap.size x3).alloc (Nat.le_refl _) (.cells #[.bool (decide (q < 0)), .slice A2 (Za q.natAbs).length c2] 24)).alloc (by simp) (.cells #[.bool (decide (r < 0)), .slice A3 (Za r.natAbs).length c3] 24))
 have p_q := ((Zl.new x3 24 (.bool (decide (q < 0))) (.slice A2 (Za q.natAbs).length c2)).alloc (.cells #[.bool (decide (r < 0)), .slice A3 (Za r.natAbs).length c3] 24))
 have p_rm := (Zl.new (x3.alloc (.cells #[.bool (decide (q < 0)), .slice A2 (Za q.natAbs).length c2] 24)) 24 (.bool (decide (r < 0))) (.slice A3 (Za r.natAbs).length c3))
 simp only [World.size_alloc] at p_rm
 obtain ⟨y4, E⟩ : ∃ W, W = ((x3.alloc (.cells #[.bool (decide (q < 0)), .slice A2 (Za q.natAbs).length c2] 24)).alloc (.cells #[.bool (decide (r < 0)), .slice A3 (Za r.natAbs).length c3] 24)) := ⟨_, rfl⟩
 rw [<- E] at ha p_q p_rm ⊢
 have V_q := Hd (NV.of R_q.out ha p_q)
 have V_rm := Hd (NV.of R_rm.out ha p_rm)
 have V_n := Hd (V_n.out.below ha)
 have V_d := Hd (V_d.out.below ha)
 have V_g := Hd (V_g.out.below ha)
 have P_r0 := Hd (P_r0.out.below ha)
 have O_q := Hd (O_q.out.below ha)
 have HBW := Hd (Zb HBW.out ha)
 obtain ⟨g4, hg⟩ : ∃ g, g = x3.heap.size := ⟨_, rfl⟩
 rw [<- hg] at V_q V_rm ⊢
 clear E ha hg p_q p_rm
 clear V_rm
 obtain ⟨l_d, a_d, b_d, -, -⟩ := V_d.out.pair.facts
 obtain ⟨l_g, a_g, b_g, -, -⟩ := V_g.out.pair.facts
 go_wp2_with fail
 refine (Ju d g p s B A1 e0 c1 y4 V_d.out.raw V_g.out.raw (by omega) (by omega) HG0.out HP.out.1 HP.out.2).mono ?_
 rintro e x5 ⟨v1, v2, rfl, hI1, hI2, hb⟩
 obtain ⟨A4, c4, rfl, r2⟩ := hI1.raw
 obtain ⟨A5, c5, rfl, r3⟩ := hI2.raw
 clear l_d a_d b_d l_g a_g b_g
 have V_n := Hd (V_n.out.below hb)
 have V_d := Hd (V_d.out.below hb)
 have V_g := Hd (V_g.out.below hb)
 have V_q := Hd (V_q.out.below hb)
 have P_r0 := Hd (P_r0.out.below hb)
 have O_q := Hd (O_q.out.below hb)
 have HBW := Hd (Zb HBW.out hb)
 have R_p := Hd r2
 have R_sm := Hd r3
 have O_p := Hd (hI1.base (Nat.zero_le _))
 clear hb hI1 hI2 r2 r3
 go_upto_region 4 with fail
 have ha := (((Below.refl x5.heap.size x5).alloc (Nat.le_refl _) (.cells #[.bool (decide (p < 0)), .slice A4 (Za p.natAbs).length c4] 24)).alloc (by simp) (.cells #[.bool (decide (s < 0)), .slice A5 (Za s.natAbs).length c5] 24))
 have p_p := ((Zl.new x5 24 (.bool (decide (p < 0))) (.slice A4 (Za p.natAbs).length c4)).alloc (.cells #[.bool (decide (s < 0)), .slice A5 (Za s.natAbs).length c5] 24))
 have p_sm := (Zl.new (x5.alloc (.cells #[.bool (decide (p < 0)), .slice A4 (Za p.natAbs).length c4] 24)) 24 (.bool (decide (s < 0))) (.slice A5 (Za s.natAbs).length c5))
 simp only [World.size_alloc] at p_sm
 obtain ⟨y6, E⟩ : ∃ W, W = ((x5.alloc (.cells #[.bool (decide (p < 0)), .slice A4 (Za p.natAbs).length c4] 24)).alloc (.cells #[.bool (decide (s < 0)), .slice A5 (Za s.natAbs).length c5] 24)) := ⟨_, rfl⟩
 rw [<- E] at ha p_p p_sm ⊢
 have V_p := Hd (NV.of R_p.out ha p_p)
 have V_sm := Hd (NV.of R_sm.out ha p_sm)
 have V_n := Hd (V_n.out.below ha)
 have V_d := Hd (V_d.out.below ha)
 have V_g := Hd (V_g.out.below ha)
 have V_q := Hd (V_q.out.below ha)
 have P_r0 := Hd (P_r0.out.below ha)
 have O_q := Hd (O_q.out.below ha)
 have O_p := Hd (O_p.out.below ha)
 have HBW := Hd (Zb HBW.out ha)
 obtain ⟨g6, hg⟩ : ∃ g, g = x5.heap.size := ⟨_, rfl⟩
 rw [<- hg] at V_p V_sm ⊢
 clear E ha hg p_p p_sm
 clear V_sm
 have hsn := HSN.out
 obtain ⟨l_p, a_p, b_p, -, -⟩ := V_p.out.pair.facts
 go_wp2_with fail
 refine (rsign p sg A4 c4 y6 V_p.out.raw HSG.out).mono ?_
 rintro e x7 ⟨rfl, hb⟩
 clear l_p a_p b_p
 have V_n := Hd (V_n.out.below hb)
 have V_d := Hd (V_d.out.below hb)
 have V_g := Hd (V_g.out.below hb)
 have V_q := Hd (V_q.out.below hb)
 have V_p := Hd (V_p.out.below hb)
 have P_r0 := Hd (P_r0.out.below hb)
 have O_q := Hd (O_q.out.below hb)
 have O_p := Hd (O_p.out.below hb)
 have HBW := Hd (Zb HBW.out hb)
 clear hb
 go_upto_region 5 with fail
 clear hsn
 go_wp2_with fail
 refine Zc [.val (.agg #[.bool (decide (q < 0)), .slice A2 (Za q.natAbs).length c2]) [], .any false (fun u V => Zf V 0 u q') [], .val (.agg #[.bool (decide (p < 0)), .slice A4 (Za p.natAbs).length c4]) [], .any false (fun u V => Zf V 0 u p') [], .any false (fun u V => ZH V 0 u q' p') [1, 3], .old (w.heap.size + 1 + 1) 26 #[.bool false, .slice none 0 0, .bool false, .slice none 0 0] 0 4 4 []] (w.heap.size + 1 + 1) x7 [26] (fun _ _ => False) _ Zd (by have := P_r0.out.blk.lt; omega) (Below.refl _ _) (Zr.refl _ _ _) rfl ?_ ?_ ?_ ?_ ?_ ?_ ?_ ?_ rfl (by simp [ZI]) ?_ ?_ ?_ ?_
 iterate 8 kernel_rfl
 . simp only [Zq, and_true]
   exact ⟨fun u V V' h k => h.kept k (by decide), fun u V V' h k => h.kept k (by decide), fun u V V' h k => h.kept k (by decide)⟩
 . simp only [ZK, and_true]
   exact ⟨Nat.le_refl _, P_r0.out.blk.lt, P_r0.out.blk, by simp⟩
 . simp (maxSteps := 4000000) [Zv, Z6, Ze, Zs, Zg]
   repeat' (first | apply And.intro | (intro (u : Value)) | (intro (u : Nat)))
   all_goals try exact ⟨_, _, _, rfl, rfl, rfl, rfl, Yq⟩
   all_goals first
   | (intro V hV hK
      obtain ⟨-, a_q, b_q, -, -⟩ := (Zl.mk (hK.blk V_q.out.pair.blk (by decide))).facts
      obtain ⟨-, a_p, b_p, -, -⟩ := (Zl.mk (hK.blk V_p.out.pair.blk (by decide))).facts
      have rq := Hd (O_q.out.kept hK (by decide)).rawAt
      have rp := Hd (O_p.out.kept hK (by decide)).rawAt
      clear hV hK
      go_simp
      first
      | exact Below.refl _ _
      | ((with_reducible refine (rturned q q' A2 c2 V rq.out (by omega) HN1.out).mono ?_); rintro _ _ ⟨_, rfl, x, y⟩; exact ⟨x.base (Nat.zero_le _), y⟩)
      | ((with_reducible refine (rturned p p' A4 c4 V rp.out (by omega) HN2.out).mono ?_); rintro _ _ ⟨_, rfl, x, y⟩; exact ⟨x.base (Nat.zero_le _), y⟩))
   | (intro V hV hK h1 h2
      obtain ⟨A6, c6, rfl, -⟩ := h1.raw
      obtain ⟨A7, c7, rfl, -⟩ := h2.raw
      clear hV hK
      go_simp
      exact ⟨⟨_, _, _, _, rfl, h1, h2⟩, Below.refl _ _⟩)
   | exact fun _ _ _ (h : ZH _ _ _ _ _) => h.cells
 . simp [Z8, Zx, Ze, Zs, Zg]
   intro u1 u2 u3 V hV hK h1 h2 h3 bq _ _ _
   have HF := Hd h3
   obtain ⟨A6, c6, A7, c7, rfl, -⟩ := h3.form
   simp [ZT, Value.cells] at bq
   have k0 := bq.cell 0
   have k1 := bq.cell 1
   have k2 := bq.cell 2
   have k3 := bq.cell 3
   simp at k0 k1 k2 k3
   have HB9 := Hd (HBW.out.trans (hV.mono (by omega)))
   clear h1 h2 h3 hV hK bq
   go_wp2_with fail
   exact bodyPost_ret (by simp [results, Tryz.results157, go_sem, k0, k1, k2, k3]) rfl ⟨.agg #[.bool (decide (q' < 0)), .slice A6 (Za q'.natAbs).length c6, .bool (decide (p' < 0)), .slice A7 (Za p'.natAbs).length c7], rfl, by rw [HLN.out.1, HLN.out.2]; exact HF.out, HB9.out⟩

theorem rlow_pos (n d : Int) (A B : Option Addr) (c e0 : Nat) (w : World) (h_n : Zj w A c (Za n.natAbs)) (h_d : Zj w B e0 (Za d.natAbs)) (hn : lz n <= 30000) (hd : lz d <= 30000) (hd0 : d ≠ 0) (hs0 : ¬ d < 0) :
  Calls Tryz.prog 157 #[.agg #[.bool (decide (n < 0)), .slice A (Za n.natAbs).length c], .agg #[.bool (decide (d < 0)), .slice B (Za d.natAbs).length e0]] w (YJ w (YF n d) (YB n d)) := by
 obtain ⟨g, hg⟩ : ∃ k : Int, k = ZX n d := ⟨_, rfl⟩
 obtain ⟨q, hq⟩ : ∃ k : Int, k = n.tdiv g := ⟨_, rfl⟩
 obtain ⟨r, hr⟩ : ∃ k : Int, k = n.tmod g := ⟨_, rfl⟩
 obtain ⟨p, hp⟩ : ∃ k : Int, k = d.tdiv g := ⟨_, rfl⟩
 obtain ⟨s, hs⟩ : ∃ k : Int, k = d.tmod g := ⟨_, rfl⟩
 obtain ⟨q', hq'⟩ : ∃ k : Int, k = -q := ⟨_, rfl⟩
 obtain ⟨p', hp'⟩ : ∃ k : Int, k = -p := ⟨_, rfl⟩
 have hgp := Xw (n := n) hd0
 have hgl := XP (n := n) hd0
 rw [<- hg] at hgp hgl
 have hql : lz q <= lz n := by rw [hq]; exact YX n g
 have hpl : lz p <= lz d := by rw [hp]; exact YX d g
 have hps : p.sign = d.sign := by rw [hp, hg]; exact Jc hd0
 obtain ⟨sg, hsg⟩ : ∃ k : Int, k = p.sign := ⟨_, rfl⟩
 have HSG := Hd hsg
 have HSN := Hd (show decide (sg < 0) = false from by
  rw [hsg, hps]
  exact decide_eq_false (by have := Xl d; omega))
 have HG := Hd hg
 have HG0 := Hd (show g ≠ 0 from by omega)
 have HQ := Hd (And.intro hq hr)
 have HP := Hd (And.intro hp hs)
 have HN1 := Hd hq'
 have HN2 := Hd hp'
 have HLN := Hd (show YF n d = q /\ YB n d = p from by
  unfold YF YB
  rw [if_neg hs0, if_neg hs0, <- hg, <- hq, <- hp]
  exact ⟨rfl, rfl⟩)
 clear hg hq hr hp hs hq' hp' hs0 hsg hps hd0
 have b0 := ((((Below.refl w.heap.size w).alloc (Nat.le_refl _) (.cells #[.bool (decide (n < 0)), .slice A (Za n.natAbs).length c] 24)).alloc (by simp) (.cells #[.bool (decide (d < 0)), .slice B (Za d.natAbs).length e0] 24)).alloc (by simp; omega) (.cells #[.bool false, .slice none 0 0, .bool false, .slice none 0 0] 26))
 have p0 := ((Zl.new w 24 (.bool (decide (n < 0))) (.slice A (Za n.natAbs).length c)).alloc (.cells #[.bool (decide (d < 0)), .slice B (Za d.natAbs).length e0] 24)).alloc (.cells #[.bool false, .slice none 0 0, .bool false, .slice none 0 0] 26)
 have p1 := (Zl.new (w.alloc (.cells #[.bool (decide (n < 0)), .slice A (Za n.natAbs).length c] 24)) 24 (.bool (decide (d < 0))) (.slice B (Za d.natAbs).length e0)).alloc (.cells #[.bool false, .slice none 0 0, .bool false, .slice none 0 0] 26)
 have p2 := ZB.new ((w.alloc (.cells #[.bool (decide (n < 0)), .slice A (Za n.natAbs).length c] 24)).alloc (.cells #[.bool (decide (d < 0)), .slice B (Za d.natAbs).length e0] 24)) (.bool false) (.slice none 0 0) (.bool false) (.slice none 0 0)
 simp only [World.size_alloc] at p1 p2
 have V_n := Hd (NV.of h_n b0 p0)
 have V_d := Hd (NV.of h_d b0 p1)
 have P_r0 := Hd p2
 have RW_n := Hd h_n
 have RW_d := Hd h_d
 have HBW := Hd b0
 clear b0 p0 p1 p2 h_n h_d
 go_enter Tryz.func157, Tryz.ntmps157
 obtain ⟨W, E⟩ : ∃ W, W = (((w.alloc (.cells #[.bool (decide (n < 0)), .slice A (Za n.natAbs).length c] 24)).alloc (.cells #[.bool (decide (d < 0)), .slice B (Za d.natAbs).length e0] 24)).alloc (.cells #[.bool false, .slice none 0 0, .bool false, .slice none 0 0] 26)) := ⟨_, rfl⟩
 go_upto_region 1 with fail
 rw [<- E] at V_n V_d P_r0 HBW ⊢
 clear E
 have hsz := P_r0.out.blk.lt
 obtain ⟨l_n, a_n, b_n, -, -⟩ := V_n.out.pair.facts
 obtain ⟨l_d, a_d, b_d, -, -⟩ := V_d.out.pair.facts
 go_wp2_with fail
 refine (common02 n d A B c e0 W V_n.out.raw V_d.out.raw (by omega) (by omega)).mono ?_
 rintro e x1 ⟨v, rfl, hI, hb⟩
 rw [<- HG.out] at hI
 obtain ⟨A1, c1, rfl, r1⟩ := hI.form
 clear hI
 clear l_n a_n b_n l_d a_d b_d
 have V_n := Hd (V_n.out.below hb)
 have V_d := Hd (V_d.out.below hb)
 have P_r0 := Hd (P_r0.out.below hb)
 have HBW := Hd (Zb HBW.out hb)
 have R_g := Hd r1
 clear hb r1
 go_upto_region 2 with fail
 have ha := ((Below.refl x1.heap.size x1).alloc (Nat.le_refl _) (.cells #[.bool (decide (g < 0)), .slice A1 (Za g.natAbs).length c1] 24))
 have p_g := (Zl.new x1 24 (.bool (decide (g < 0))) (.slice A1 (Za g.natAbs).length c1))
 obtain ⟨y2, E⟩ : ∃ W, W = (x1.alloc (.cells #[.bool (decide (g < 0)), .slice A1 (Za g.natAbs).length c1] 24)) := ⟨_, rfl⟩
 rw [<- E] at ha p_g ⊢
 have V_g := Hd (NV.of R_g.out ha p_g)
 have V_n := Hd (V_n.out.below ha)
 have V_d := Hd (V_d.out.below ha)
 have P_r0 := Hd (P_r0.out.below ha)
 have HBW := Hd (Zb HBW.out ha)
 obtain ⟨g2, hg⟩ : ∃ g, g = x1.heap.size := ⟨_, rfl⟩
 rw [<- hg] at V_g ⊢
 clear E ha hg p_g
 obtain ⟨l_n, a_n, b_n, -, -⟩ := V_n.out.pair.facts
 obtain ⟨l_g, a_g, b_g, -, -⟩ := V_g.out.pair.facts
 go_wp2_with fail
 refine (Ju n g q r A A1 c c1 y2 V_n.out.raw V_g.out.raw (by omega) (by omega) HG0.out HQ.out.1 HQ.out.2).mono ?_
 rintro e x3 ⟨v1, v2, rfl, hI1, hI2, hb⟩
 obtain ⟨A2, c2, rfl, r2⟩ := hI1.raw
 obtain ⟨A3, c3, rfl, r3⟩ := hI2.raw
 clear l_n a_n b_n l_g a_g b_g
 have V_n := Hd (V_n.out.below hb)
 have V_d := Hd (V_d.out.below hb)
 have V_g := Hd (V_g.out.below hb)
 have P_r0 := Hd (P_r0.out.below hb)
 have HBW := Hd (Zb HBW.out hb)
 have R_q := Hd r2
 have R_rm := Hd r3
 have O_q := Hd (hI1.base (Nat.zero_le _))
 clear hb hI1 hI2 r2 r3
 go_upto_region 3 with fail
 have ha := (((Below.refl x3.heap.size x3).alloc (Nat.le_refl _) (.cells #[.bool (decide (q < 0)), .slice A2 (Za q.natAbs).length c2] 24)).alloc (by simp) (.cells #[.bool (decide (r < 0)), .slice A3 (Za r.natAbs).length c3] 24))
 have p_q := ((Zl.new x3 24 (.bool (decide (q < 0))) (.slice A2 (Za q.natAbs).length c2)).alloc (.cells #[.bool (decide (r < 0)), .slice A3 (Za r.natAbs).length c3] 24))
 have p_rm := (Zl.new (x3.alloc (.cells #[.bool (decide (q < 0)), .slice A2 (Za q.natAbs).length c2] 24)) 24 (.bool (decide (r < 0))) (.slice A3 (Za r.natAbs).length c3))
 simp only [World.size_alloc] at p_rm
 obtain ⟨y4, E⟩ : ∃ W, W = ((x3.alloc (.cells #[.bool (decide (q < 0)), .slice A2 (Za q.natAbs).length c2] 24)).alloc (.cells #[.bool (decide (r < 0)), .slice A3 (Za r.natAbs).length c3] 24)) := ⟨_, rfl⟩
 rw [<- E] at ha p_q p_rm ⊢
 have V_q := Hd (NV.of R_q.out ha p_q)
 have V_rm := Hd (NV.of R_rm.out ha p_rm)
 have V_n := Hd (V_n.out.below ha)
 have V_d := Hd (V_d.out.below ha)
 have V_g := Hd (V_g.out.below ha)
 have P_r0 := Hd (P_r0.out.below ha)
 have O_q := Hd (O_q.out.below ha)
 have HBW := Hd (Zb HBW.out ha)
 obtain ⟨g4, hg⟩ : ∃ g, g = x3.heap.size := ⟨_, rfl⟩
 rw [<- hg] at V_q V_rm ⊢
 clear E ha hg p_q p_rm
 clear V_rm
 obtain ⟨l_d, a_d, b_d, -, -⟩ := V_d.out.pair.facts
 obtain ⟨l_g, a_g, b_g, -, -⟩ := V_g.out.pair.facts
 go_wp2_with fail
 refine (Ju d g p s B A1 e0 c1 y4 V_d.out.raw V_g.out.raw (by omega) (by omega) HG0.out HP.out.1 HP.out.2).mono ?_
 rintro e x5 ⟨v1, v2, rfl, hI1, hI2, hb⟩
 obtain ⟨A4, c4, rfl, r2⟩ := hI1.raw
 obtain ⟨A5, c5, rfl, r3⟩ := hI2.raw
 clear l_d a_d b_d l_g a_g b_g
 have V_n := Hd (V_n.out.below hb)
 have V_d := Hd (V_d.out.below hb)
 have V_g := Hd (V_g.out.below hb)
 have V_q := Hd (V_q.out.below hb)
 have P_r0 := Hd (P_r0.out.below hb)
 have O_q := Hd (O_q.out.below hb)
 have HBW := Hd (Zb HBW.out hb)
 have R_p := Hd r2
 have R_sm := Hd r3
 have O_p := Hd (hI1.base (Nat.zero_le _))
 clear hb hI1 hI2 r2 r3
 go_upto_region 4 with fail
 have ha := (((Below.refl x5.heap.size x5).alloc (Nat.le_refl _) (.cells #[.bool (decide (p < 0)), .slice A4 (Za p.natAbs).length c4] 24)).alloc (by simp) (.cells #[.bool (decide (s < 0)), .slice A5 (Za s.natAbs).length c5] 24))
 have p_p := ((Zl.new x5 24 (.bool (decide (p < 0))) (.slice A4 (Za p.natAbs).length c4)).alloc (.cells #[.bool (decide (s < 0)), .slice A5 (Za s.natAbs).length c5] 24))
 have p_sm := (Zl.new (x5.alloc (.cells #[.bool (decide (p < 0)), .slice A4 (Za p.natAbs).length c4] 24)) 24 (.bool (decide (s < 0))) (.slice A5 (Za s.natAbs).length c5))
 simp only [World.size_alloc] at p_sm
 obtain ⟨y6, E⟩ : ∃ W, W = ((x5.alloc (.cells #[.bool (decide (p < 0)), .slice A4 (Za p.natAbs).length c4] 24)).alloc (.cells #[.bool (decide (s < 0)), .slice A5 (Za s.natAbs).length c5] 24)) := ⟨_, rfl⟩
 rw [<- E] at ha p_p p_sm ⊢
 have V_p := Hd (NV.of R_p.out ha p_p)
 have V_sm := Hd (NV.of R_sm.out ha p_sm)
 have V_n := Hd (V_n.out.below ha)
 have V_d := Hd (V_d.out.below ha)
 have V_g := Hd (V_g.out.below ha)
 have V_q := Hd (V_q.out.below ha)
 have P_r0 := Hd (P_r0.out.below ha)
 have O_q := Hd (O_q.out.below ha)
 have O_p := Hd (O_p.out.below ha)
 have HBW := Hd (Zb HBW.out ha)
 obtain ⟨g6, hg⟩ : ∃ g, g = x5.heap.size := ⟨_, rfl⟩
 rw [<- hg] at V_p V_sm ⊢
 clear E ha hg p_p p_sm
 clear V_sm
 have hsn := HSN.out
 obtain ⟨l_p, a_p, b_p, -, -⟩ := V_p.out.pair.facts
 go_wp2_with fail
 refine (rsign p sg A4 c4 y6 V_p.out.raw HSG.out).mono ?_
 rintro e x7 ⟨rfl, hb⟩
 clear l_p a_p b_p
 have V_n := Hd (V_n.out.below hb)
 have V_d := Hd (V_d.out.below hb)
 have V_g := Hd (V_g.out.below hb)
 have V_q := Hd (V_q.out.below hb)
 have V_p := Hd (V_p.out.below hb)
 have P_r0 := Hd (P_r0.out.below hb)
 have O_q := Hd (O_q.out.below hb)
 have O_p := Hd (O_p.out.below hb)
 have HBW := Hd (Zb HBW.out hb)
 clear hb
 go_upto_region 6 with fail
 clear hsn
 obtain ⟨l_q, a_q, b_q, -, -⟩ := V_q.out.pair.facts
 obtain ⟨l_p, a_p, b_p, -, -⟩ := V_p.out.pair.facts
 obtain ⟨l_r, c_r0, c_r1, c_r2, c_r3, f_r0, f_r1, f_r2, f_r3⟩ := P_r0.out.facts
 have HQ9 := Hd (P_r0.out.store (.bool (decide (q < 0))) (.slice A2 (Za q.natAbs).length c2) (.bool (decide (p < 0))) (.slice A4 (Za p.natAbs).length c4))
 have HB9 := Hd (below4 HBW.out (show w.heap.size <= w.heap.size + 1 + 1 by omega) (.bool (decide (q < 0))) (.slice A2 (Za q.natAbs).length c2) (.bool (decide (p < 0))) (.slice A4 (Za p.natAbs).length c4))
 have HF := Hd (show ZH ((((x7.setCell ⟨w.heap.size + 1 + 1, 0, none⟩ (.bool (decide (q < 0)))).setCell ⟨w.heap.size + 1 + 1, 1, none⟩ (.slice A2 (Za q.natAbs).length c2)).setCell ⟨w.heap.size + 1 + 1, 2, none⟩ (.bool (decide (p < 0)))).setCell ⟨w.heap.size + 1 + 1, 3, none⟩ (.slice A4 (Za p.natAbs).length c4)) 0 (.agg #[.bool (decide (q < 0)), .slice A2 (Za q.natAbs).length c2, .bool (decide (p < 0)), .slice A4 (Za p.natAbs).length c4]) q p from ⟨_, _, _, _, rfl, O_q.out.quad P_r0.out _ _ _ _, O_p.out.quad P_r0.out _ _ _ _⟩)
 go_wp2_with fail
 obtain ⟨_, k0, k1, k2, k3, _⟩ := HQ9.out.facts
 exact bodyPost_ret (by simp [results, Tryz.results157, go_sem, k0, k1, k2, k3]) rfl ⟨.agg #[.bool (decide (q < 0)), .slice A2 (Za q.natAbs).length c2, .bool (decide (p < 0)), .slice A4 (Za p.natAbs).length c4], rfl, by rw [HLN.out.1, HLN.out.2]; exact HF.out, HB9.out⟩

theorem rlow (n d : Int) (A B : Option Addr) (c e0 : Nat) (w : World) (h : Zj w A c (Za n.natAbs)) (g : Zj w B e0 (Za d.natAbs)) (hn : lz n <= 30000) (hd : lz d <= 30000) (hd0 : d ≠ 0) :
   Calls Tryz.prog 157 #[.agg #[.bool (decide (n < 0)), .slice A (Za n.natAbs).length c], .agg #[.bool (decide (d < 0)), .slice B (Za d.natAbs).length e0]] w (YJ w (YF n d) (YB n d)) := by
 by_cases hs : d < 0
 . exact rlow_neg n d A B c e0 w h g hn hd hd0 hs
 . exact rlow_pos n d A B c e0 w h g hn hd hd0 hs
def addN (n d m f : Int) : Int := YF (n * f + m * d) (d * f)
def addD (n d m f : Int) : Int := YB (n * f + m * d) (d * f)
def subN (n d m f : Int) : Int := YF (n * f - m * d) (d * f)
def subD (n d m f : Int) : Int := YB (n * f - m * d) (d * f)
def mulN (n d m f : Int) : Int := YF (n * m) (d * f)
def mulD (n d m f : Int) : Int := YB (n * m) (d * f)
def quoN (n d m f : Int) : Int := YF (n * f) (d * m)
def quoD (n d m f : Int) : Int := YB (n * f) (d * m)


theorem Zf.mine {w : World} {base : Nat} {v : Value} {x : Int} (h : Zf w base v x) : ∀ g, YT v g -> base <= g /\ g < w.heap.size := by
 obtain ⟨A, c, rfl, -, -, h4⟩ := h.form
 exact fun g hg => h4.lt g hg
theorem Zk.kept {B : Nat} {Ts : List TypeId} {w w' : World} {base : Nat} {v : Value} {n d : Int} (h : Zk w base v n d) (k : Zr B Ts w w') (hT : 114 ∉ Ts) : Zk w' base v n d := by
 obtain ⟨A, c, B, e, h1, h2, h3, h4⟩ := h.form
 exact ⟨A, c, B, e, h1, h2.kept k hT, h3.kept k hT, h4⟩
theorem Zk.cells {w : World} {base : Nat} {v : Value} {n d : Int} (h : Zk w base v n d) : X4 v 4 := by
 obtain ⟨A, c, B, e, rfl, -⟩ := h.form
 exact ⟨rfl, by simp [Value.cells, Value.oneCell']⟩
theorem Zk.at_ {w : World} {base : Nat} {v : Value} {n d : Int} (h : Zk w base v n d) : Yc w v n d := by
 obtain ⟨A, c, B, e, h1, h2, h3, -⟩ := h.form
 exact ⟨A, c, B, e, h1, h2.rawAt, h3.rawAt⟩
theorem same_same (x : Int) (A B : Option Addr) (c d : Nat) (w : World) (h : Zj w A c (Za x.natAbs)) (g : Zj w B d (Za x.natAbs)) :
  Calls Tryz.prog 132 #[.agg #[.bool (decide (x < 0)), .slice A (Za x.natAbs).length c], .agg #[.bool (decide (x < 0)), .slice B (Za x.natAbs).length d]] w fun e w' => e = .returned (.bool true) /\ Below w.heap.size w w' := by
 have := same_any (decide (x < 0)) (decide (x < 0)) A B c d _ _ w h g
 simpa using this

theorem sameFrac_at (n d : Int) (A B A2 B2 : Option Addr) (c e0 c2 e2 : Nat) (w : World) (h_x : Zj w A c (Za n.natAbs)) (k_x : Zj w B e0 (Za d.natAbs)) (h_y : Zj w A2 c2 (Za n.natAbs)) (k_y : Zj w B2 e2 (Za d.natAbs))  :
  Calls Tryz.prog 38 #[.agg #[.bool (decide (n < 0)), .slice A (Za n.natAbs).length c, .bool (decide (d < 0)), .slice B (Za d.natAbs).length e0], .agg #[.bool (decide (n < 0)), .slice A2 (Za n.natAbs).length c2, .bool (decide (d < 0)), .slice B2 (Za d.natAbs).length e2]] w fun e w' => e = .returned (.bool true) /\ Below w.heap.size w w' := by
 have b0 := (((Below.refl w.heap.size w).alloc (Nat.le_refl _) (.cells #[.bool (decide (n < 0)), .slice A (Za n.natAbs).length c, .bool (decide (d < 0)), .slice B (Za d.natAbs).length e0] 26)).alloc (by simp) (.cells #[.bool (decide (n < 0)), .slice A2 (Za n.natAbs).length c2, .bool (decide (d < 0)), .slice B2 (Za d.natAbs).length e2] 26))
 have p0 := (ZB.new w (.bool (decide (n < 0))) (.slice A (Za n.natAbs).length c) (.bool (decide (d < 0))) (.slice B (Za d.natAbs).length e0)).alloc (.cells #[.bool (decide (n < 0)), .slice A2 (Za n.natAbs).length c2, .bool (decide (d < 0)), .slice B2 (Za d.natAbs).length e2] 26)
 have p1 := ZB.new (w.alloc (.cells #[.bool (decide (n < 0)), .slice A (Za n.natAbs).length c, .bool (decide (d < 0)), .slice B (Za d.natAbs).length e0] 26)) (.bool (decide (n < 0))) (.slice A2 (Za n.natAbs).length c2) (.bool (decide (d < 0))) (.slice B2 (Za d.natAbs).length e2)
 simp only [World.size_alloc] at p1
 have V_x := Hd (FV.mk p0 (h_x.below b0) (k_x.below b0))
 have KW_x := Hd k_x
 have V_y := Hd (FV.mk p1 (h_y.below b0) (k_y.below b0))
 have KW_y := Hd k_y
 have RW_x := Hd h_x
 have RW_y := Hd h_y
 have HBW := Hd b0
 clear b0 p0 p1 h_x k_x h_y k_y
 go_enter Tryz.func38, Tryz.ntmps38
 obtain ⟨W, E⟩ : ∃ W, W = ((w.alloc (.cells #[.bool (decide (n < 0)), .slice A (Za n.natAbs).length c, .bool (decide (d < 0)), .slice B (Za d.natAbs).length e0] 26)).alloc (.cells #[.bool (decide (n < 0)), .slice A2 (Za n.natAbs).length c2, .bool (decide (d < 0)), .slice B2 (Za d.natAbs).length e2] 26)) := ⟨_, rfl⟩
 go_upto_region 1 with fail
 rw [<- E] at V_x V_y HBW ⊢
 clear E
 obtain ⟨l_x, a_x, b_x, c_x, d_x, -, -, -, -⟩ := V_x.out.quad.facts
 obtain ⟨l_y, a_y, b_y, c_y, d_y, -, -, -, -⟩ := V_y.out.quad.facts
 go_wp2_with fail
 refine (same_same n A A2 c c2 W V_x.out.num V_y.out.num).mono ?_
 rintro e x1 ⟨rfl, hb⟩
 clear l_x a_x b_x c_x d_x l_y a_y b_y c_y d_y
 have V_x := Hd (V_x.out.below hb)
 have V_y := Hd (V_y.out.below hb)
 have HBW := Hd (Zb HBW.out hb)
 clear hb
 obtain ⟨l_x, a_x, b_x, c_x, d_x, -, -, -, -⟩ := V_x.out.quad.facts
 obtain ⟨l_y, a_y, b_y, c_y, d_y, -, -, -, -⟩ := V_y.out.quad.facts
 go_wp2_with fail
 refine (same_same d B B2 e0 e2 x1 V_x.out.den V_y.out.den).mono ?_
 rintro e x2 ⟨rfl, hb⟩
 clear l_x a_x b_x c_x d_x l_y a_y b_y c_y d_y
 have V_x := Hd (V_x.out.below hb)
 have V_y := Hd (V_y.out.below hb)
 have HBW := Hd (Zb HBW.out hb)
 clear hb
 go_wp2_with fail
 go_ret
 exact ⟨rfl, HBW.out⟩

theorem sameFrac_true (v1 v2 : Value) (n d : Int) (w : World) (h : Yc w v1 n d) (g : Yc w v2 n d) :
  Calls Tryz.prog 38 #[v1, v2] w fun e w' => e = .returned (.bool true) /\ Below w.heap.size w w' := by
 obtain ⟨A, c, B, e0, rfl, h1, h2⟩ := h.form
 obtain ⟨A2, c2, B2, e2, rfl, g1, g2⟩ := g.form
 exact sameFrac_at n d A B A2 B2 c e0 c2 e2 w h1 h2 g1 g2

theorem ratio_Copy (n d : Int) (A B : Option Addr) (c e0 : Nat) (w : World) (h_x : Zj w A c (Za n.natAbs)) (k_x : Zj w B e0 (Za d.natAbs)) (hn : lz n <= 400000000) (hd : lz d <= 400000000) :
   Calls Tryz.prog 201 #[.agg #[.bool (decide (n < 0)), .slice A (Za n.natAbs).length c, .bool (decide (d < 0)), .slice B (Za d.natAbs).length e0]] w (ZP w.heap.size w n d) := by
 obtain ⟨n0, hn0⟩ : ∃ k : Int, k = 0 := ⟨_, rfl⟩
 have H0 := Hd hn0
 have HN := Hd (show n = n + n0 /\ d = d + n0 from ⟨by omega, by omega⟩)
 have hl0 : lz n0 <= 400000000 := by rw [hn0]; decide
 clear hn0
 have b0 := (((Below.refl w.heap.size w).alloc (Nat.le_refl _) (.cells #[.bool (decide (n < 0)), .slice A (Za n.natAbs).length c, .bool (decide (d < 0)), .slice B (Za d.natAbs).length e0] 26)).alloc (by simp) (.cells #[.bool false, .slice none 0 0, .bool false, .slice none 0 0] 26))
 have p0 := (ZB.new w (.bool (decide (n < 0))) (.slice A (Za n.natAbs).length c) (.bool (decide (d < 0))) (.slice B (Za d.natAbs).length e0)).alloc (.cells #[.bool false, .slice none 0 0, .bool false, .slice none 0 0] 26)
 have p1 := ZB.new (w.alloc (.cells #[.bool (decide (n < 0)), .slice A (Za n.natAbs).length c, .bool (decide (d < 0)), .slice B (Za d.natAbs).length e0] 26)) (.bool false) (.slice none 0 0) (.bool false) (.slice none 0 0)
 simp only [World.size_alloc] at p1
 have V_x := Hd (FV.mk p0 (h_x.below b0) (k_x.below b0))
 have KW_x := Hd k_x
 have P_r0 := Hd p1
 have RW_x := Hd h_x
 have HBW := Hd b0
 clear b0 p0 p1 h_x k_x
 go_enter Tryz.func201, Tryz.ntmps201
 obtain ⟨W, E⟩ : ∃ W, W = ((w.alloc (.cells #[.bool (decide (n < 0)), .slice A (Za n.natAbs).length c, .bool (decide (d < 0)), .slice B (Za d.natAbs).length e0] 26)).alloc (.cells #[.bool false, .slice none 0 0, .bool false, .slice none 0 0] 26)) := ⟨_, rfl⟩
 go_upto_region 1 with fail
 rw [<- E] at V_x P_r0 HBW ⊢
 clear E
 have hszr := P_r0.out.blk.lt
 go_wp2_with fail
 refine (eof 0 n0 H0.out (by decide) (by decide) W).mono ?_
 rintro e x1 ⟨v, rfl, hI, hb⟩
 obtain ⟨A1, c1, rfl, r1⟩ := hI.raw
 have hIz := hI.base (Nat.zero_le _)
 have hsz9 := hb.size
 have V_x := Hd (V_x.out.below hb)
 have P_r0 := Hd (P_r0.out.below hb)
 have HBW := Hd (Zb HBW.out hb)
 have R_z := Hd r1
 clear hb r1
 have O_z := Hd hIz
 clear hI hIz
 go_upto_region 2 with fail
 have ha := ((Below.refl x1.heap.size x1).alloc (Nat.le_refl _) (.cells #[.bool (decide (n0 < 0)), .slice A1 (Za n0.natAbs).length c1] 24))
 have p_z := (Zl.new x1 24 (.bool (decide (n0 < 0))) (.slice A1 (Za n0.natAbs).length c1))
 obtain ⟨y2, E⟩ : ∃ W, W = (x1.alloc (.cells #[.bool (decide (n0 < 0)), .slice A1 (Za n0.natAbs).length c1] 24)) := ⟨_, rfl⟩
 rw [<- E] at ha p_z ⊢
 have V_z := Hd (NV.of R_z.out ha p_z)
 have V_x := Hd (V_x.out.below ha)
 have P_r0 := Hd (P_r0.out.below ha)
 have O_z := Hd (O_z.out.below ha)
 have HBW := Hd (Zb HBW.out ha)
 obtain ⟨g2, hg⟩ : ∃ g, g = x1.heap.size := ⟨_, rfl⟩
 rw [<- hg] at V_z ⊢
 clear E ha hg p_z
 go_wp2_with fail
 refine Zc [.val (.pointer (some ⟨w.heap.size, 0, none⟩)) [], .val (.agg #[.bool (decide (n < 0)), .slice A (Za n.natAbs).length c]) [], .val (.agg #[.bool (decide (n0 < 0)), .slice A1 (Za n0.natAbs).length c1]) [], .any true (fun u V => Zf V w.heap.size u n) [], .val (.pointer (some ⟨w.heap.size, 2, none⟩)) [], .val (.agg #[.bool (decide (d < 0)), .slice B (Za d.natAbs).length e0]) [], .val (.agg #[.bool (decide (n0 < 0)), .slice A1 (Za n0.natAbs).length c1]) [], .any true (fun u V => Zf V w.heap.size u d) [], .any false (fun u V => Zk V w.heap.size u n d) [3, 7, 1003007], .old (w.heap.size + 1) 26 #[.bool false, .slice none 0 0, .bool false, .slice none 0 0] 0 4 8 []] (w.heap.size + 1) y2 [26] YT _ Zd (by have := P_r0.out.blk.lt; omega) (Below.refl _ _) (Zr.refl _ _ _) rfl ?_ ?_ ?_ ?_ ?_ ?_ ?_ ?_ rfl (by simp [ZI]) ?_ ?_ ?_ ?_
 iterate 8 kernel_rfl
 . simp only [Zq, and_true]
   exact ⟨fun u V V' h k => h.kept k (by decide), fun u V V' h k => h.kept k (by decide), fun u V V' h k => h.kept k (by decide)⟩
 . simp only [ZK, and_true]
   exact ⟨Nat.le_refl _, P_r0.out.blk.lt, P_r0.out.blk, by simp⟩
 . simp (maxSteps := 4000000) [Zv, Z6, Ze, Zs, Zg]
   repeat' (first | apply And.intro | (intro (u : Value)) | (intro (u : Nat)))
   all_goals try exact ⟨_, _, _, rfl, rfl, rfl, rfl, Yq⟩
   all_goals first
   | (intro V hV hK
      have qx : ZB V w.heap.size _ _ _ _ := ⟨V_x.out.quad.blk.below hV (Nat.lt_succ_self _)⟩
      obtain ⟨-, a_x, b_x, c_x, d_x, -, -, -, -⟩ := qx.facts
      obtain ⟨-, a_z, b_z, -, -⟩ := (Zl.mk (hK.blk V_z.out.pair.blk (by decide))).facts
      have rn := Hd (RW_x.out.below (HBW.out.trans (hV.mono (by omega))))
      have rd := Hd (KW_x.out.below (HBW.out.trans (hV.mono (by omega))))
      have rz := Hd (O_z.out.kept hK (by decide)).rawAt
      have hvs : w.heap.size <= V.heap.size := by have := hK.size; have := HBW.out.size; omega
      clear hV hK qx
      go_simp
      first
      | exact Below.refl _ _
      | ((with_reducible refine (eplus n n0 n A A1 c c1 V rn.out rz.out (by omega) (by omega) HN.out.1).mono ?_); rintro _ _ ⟨_, rfl, x, y⟩; exact ⟨x.base hvs, y, x.mine⟩)
      | ((with_reducible refine (eplus d n0 d B A1 e0 c1 V rd.out rz.out (by omega) (by omega) HN.out.2).mono ?_); rintro _ _ ⟨_, rfl, x, y⟩; exact ⟨x.base hvs, y, x.mine⟩))
   | (intro V hV hK h1 h2 hq
      obtain ⟨A6, c6, rfl, -⟩ := h1.raw
      obtain ⟨A7, c7, rfl, -⟩ := h2.raw
      clear hV hK
      go_simp
      exact ⟨⟨_, _, _, _, rfl, h1, h2, hq⟩, Below.refl _ _⟩)
   | exact fun _ _ _ (h : Zk _ _ _ _ _) => h.cells
 . simp [Z8, Zx, Ze, Zs, Zg]
   intro u1 u2 u3 V hV hK h1 h2 h3 bq hap _ _
   have HF := Hd h3
   obtain ⟨A6, c6, A7, c7, rfl, -⟩ := h3.form
   simp [ZT, Value.cells] at bq
   have k0 := bq.cell 0
   have k1 := bq.cell 1
   have k2 := bq.cell 2
   have k3 := bq.cell 3
   simp at k0 k1 k2 k3
   have HB9 := Hd (HBW.out.trans (hV.mono (by omega)))
   clear h1 h2 h3 hV hK bq hap
   go_wp2_with fail
   exact bodyPost_ret (by simp [results, Tryz.results201, go_sem, k0, k1, k2, k3]) rfl ⟨_, rfl, HF.out, HB9.out⟩
end Go.Proofs.YthlehkjcfhnplaaGreatDoor
