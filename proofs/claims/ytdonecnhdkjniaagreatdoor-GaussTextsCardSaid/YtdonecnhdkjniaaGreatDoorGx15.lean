/- Several texts in one: Turned, Lowest, Copy, LowestOwn, LowFresh. -/
import Derived.Test.YtdonecnhdkjniaaGreatDoorGx14
set_option maxRecDepth 100000
set_option maxHeartbeats 8000000
namespace Go.Proofs.YtdonecnhdkjniaaGreatDoor
open Go.RowKit



theorem Zc.mine {w : World} {base : Nat} {v : Value} {x : Int} (h : Zc w base v x) : ∀ g, X6 v g -> base <= g /\ g < w.heap.size := by
 obtain ⟨A, c, rfl, -, -, h4⟩ := h.form
 exact fun g hg => h4.lt g hg
theorem Zl.kept {B : Nat} {Ts : List TypeId} {w w' : World} {base : Nat} {v : Value} {n d : Int} (h : Zl w base v n d) (k : Zu B Ts w w') (hT : 109 ∉ Ts) : Zl w' base v n d := by
 obtain ⟨A, c, B, e, h1, h2, h3, h4⟩ := h.form
 exact ⟨A, c, B, e, h1, h2.kept k hT, h3.kept k hT, h4⟩
theorem Zl.cells {w : World} {base : Nat} {v : Value} {n d : Int} (h : Zl w base v n d) : JT v 4 := by
 obtain ⟨A, c, B, e, rfl, -⟩ := h.form
 exact ⟨rfl, by simp [Value.cells, Value.oneCell']⟩
theorem Zl.at_ {w : World} {base : Nat} {v : Value} {n d : Int} (h : Zl w base v n d) : Yq w v n d := by
 obtain ⟨A, c, B, e, h1, h2, h3, -⟩ := h.form
 exact ⟨A, c, B, e, h1, h2.rawAt, h3.rawAt⟩
theorem same_same (x : Int) (A B : Option Addr) (c d : Nat) (w : World) (h : Zm w A c (Za x.natAbs)) (g : Zm w B d (Za x.natAbs)) :
  Calls Tryz.prog 119 #[.agg #[.bool (decide (x < 0)), .slice A (Za x.natAbs).length c], .agg #[.bool (decide (x < 0)), .slice B (Za x.natAbs).length d]] w fun e w' => e = .returned (.bool true) /\ Below w.heap.size w w' := by
 have := same_any (decide (x < 0)) (decide (x < 0)) A B c d _ _ w h g
 simpa using this

theorem sameFrac_at (n d : Int) (A B A2 B2 : Option Addr) (c e0 c2 e2 : Nat) (w : World) (h_x : Zm w A c (Za n.natAbs)) (k_x : Zm w B e0 (Za d.natAbs)) (h_y : Zm w A2 c2 (Za n.natAbs)) (k_y : Zm w B2 e2 (Za d.natAbs))  :
  Calls Tryz.prog 35 #[.agg #[.bool (decide (n < 0)), .slice A (Za n.natAbs).length c, .bool (decide (d < 0)), .slice B (Za d.natAbs).length e0], .agg #[.bool (decide (n < 0)), .slice A2 (Za n.natAbs).length c2, .bool (decide (d < 0)), .slice B2 (Za d.natAbs).length e2]] w fun e w' => e = .returned (.bool true) /\ Below w.heap.size w w' := by
 have b0 := (((Below.refl w.heap.size w).alloc (Nat.le_refl _) (.cells #[.bool (decide (n < 0)), .slice A (Za n.natAbs).length c, .bool (decide (d < 0)), .slice B (Za d.natAbs).length e0] 26)).alloc (by simp) (.cells #[.bool (decide (n < 0)), .slice A2 (Za n.natAbs).length c2, .bool (decide (d < 0)), .slice B2 (Za d.natAbs).length e2] 26))
 have p0 := (Zz.new w (.bool (decide (n < 0))) (.slice A (Za n.natAbs).length c) (.bool (decide (d < 0))) (.slice B (Za d.natAbs).length e0)).alloc (.cells #[.bool (decide (n < 0)), .slice A2 (Za n.natAbs).length c2, .bool (decide (d < 0)), .slice B2 (Za d.natAbs).length e2] 26)
 have p1 := Zz.new (w.alloc (.cells #[.bool (decide (n < 0)), .slice A (Za n.natAbs).length c, .bool (decide (d < 0)), .slice B (Za d.natAbs).length e0] 26)) (.bool (decide (n < 0))) (.slice A2 (Za n.natAbs).length c2) (.bool (decide (d < 0))) (.slice B2 (Za d.natAbs).length e2)
 simp only [World.size_alloc] at p1
 have V_x := Hd (FV.mk p0 (h_x.below b0) (k_x.below b0))
 have KW_x := Hd k_x
 have V_y := Hd (FV.mk p1 (h_y.below b0) (k_y.below b0))
 have KW_y := Hd k_y
 have RW_x := Hd h_x
 have RW_y := Hd h_y
 have HBW := Hd b0
 clear b0 p0 p1 h_x k_x h_y k_y
 go_enter Tryz.func35, Tryz.ntmps35
 obtain ⟨W, E⟩ : ∃ W, W = ((w.alloc (.cells #[.bool (decide (n < 0)), .slice A (Za n.natAbs).length c, .bool (decide (d < 0)), .slice B (Za d.natAbs).length e0] 26)).alloc (.cells #[.bool (decide (n < 0)), .slice A2 (Za n.natAbs).length c2, .bool (decide (d < 0)), .slice B2 (Za d.natAbs).length e2] 26)) := ⟨_, rfl⟩
 go_upto_region 1 with fail
 rw [<- E] at V_x V_y HBW ⊢
 clear E
 obtain ⟨l_x, a_x, b_x, c_x, d_x, -, -, -, -⟩ := V_x.out.quad.facts
 obtain ⟨l_y, a_y, b_y, c_y, d_y, -, -, -, -⟩ := V_y.out.quad.facts
 go_wp2_with fail
 refine (same_same n A A2 c c2 W V_x.out.num V_y.out.num).mono ?_
 rintro e x1 ⟨rfl, hb⟩
 clear l_x a_x b_x c_x d_x l_y a_y b_y c_y d_y
 have V_x := Hd (V_x.out.below hb)
 have V_y := Hd (V_y.out.below hb)
 have HBW := Hd (Zb HBW.out hb)
 clear hb
 obtain ⟨l_x, a_x, b_x, c_x, d_x, -, -, -, -⟩ := V_x.out.quad.facts
 obtain ⟨l_y, a_y, b_y, c_y, d_y, -, -, -, -⟩ := V_y.out.quad.facts
 go_wp2_with fail
 refine (same_same d B B2 e0 e2 x1 V_x.out.den V_y.out.den).mono ?_
 rintro e x2 ⟨rfl, hb⟩
 clear l_x a_x b_x c_x d_x l_y a_y b_y c_y d_y
 have V_x := Hd (V_x.out.below hb)
 have V_y := Hd (V_y.out.below hb)
 have HBW := Hd (Zb HBW.out hb)
 clear hb
 go_wp2_with fail
 go_ret
 exact ⟨rfl, HBW.out⟩

theorem sameFrac_true (v1 v2 : Value) (n d : Int) (w : World) (h : Yq w v1 n d) (g : Yq w v2 n d) :
  Calls Tryz.prog 35 #[v1, v2] w fun e w' => e = .returned (.bool true) /\ Below w.heap.size w w' := by
 obtain ⟨A, c, B, e0, rfl, h1, h2⟩ := h.form
 obtain ⟨A2, c2, B2, e2, rfl, g1, g2⟩ := g.form
 exact sameFrac_at n d A B A2 B2 c e0 c2 e2 w h1 h2 g1 g2


def Ya (w : World) (n d : Int) (e : Ending) (w' : World) : Prop := ∃ v, e = .returned v /\ ZE w' 0 v n d /\ Below w.heap.size w w'
theorem Zc.quad {w : World} {base g : Nat} {v' a b c d : Value} {n : Int} (hi : Zc w base v' n) (q : Zz w g a b c d) (x y z u : Value) : Zc ((((w.setCell ⟨g, 0, none⟩ x).setCell ⟨g, 1, none⟩ y).setCell ⟨g, 2, none⟩ z).setCell ⟨g, 3, none⟩ u) base v' n := by
 obtain ⟨A', c', a1, a2, a3, a4⟩ := hi.form
 have hne := Xb a4 q.blk (by decide)
 refine ⟨A', c', a1, a2, a3, a4.1, ?_⟩
 rcases a4.2 with p | ⟨g', cap, cur, p1, p2, p3, p4⟩
 . exact .inl p
 . refine .inr ⟨g', cap, cur, p1, p2, ?_, p4⟩
   have hg : g' ≠ g := fun e => by
    rw [p1] at hne
    exact hne (by simp [Value.ownBlock, e])
   rw [Below.heap_setCell _ ⟨g, 3, none⟩ u g' hg, Below.heap_setCell _ ⟨g, 2, none⟩ z g' hg, Below.heap_setCell _ ⟨g, 1, none⟩ y g' hg, Below.heap_setCell _ ⟨g, 0, none⟩ x g' hg]
   exact p3

theorem rlow_pos (n d : Int) (A B : Option Addr) (c e0 : Nat) (w : World) (h_n : Zm w A c (Za n.natAbs)) (h_d : Zm w B e0 (Za d.natAbs)) (hn : lz n <= 30000) (hd : lz d <= 30000) (hd0 : d ≠ 0) (hs0 : ¬ d < 0) :
  Calls Tryz.prog 189 #[.agg #[.bool (decide (n < 0)), .slice A (Za n.natAbs).length c], .agg #[.bool (decide (d < 0)), .slice B (Za d.natAbs).length e0]] w (Ya w (YX n d) (YP n d)) := by
 obtain ⟨g, hg⟩ : ∃ k : Int, k = ZL n d := ⟨_, rfl⟩
 obtain ⟨q, hq⟩ : ∃ k : Int, k = n.tdiv g := ⟨_, rfl⟩
 obtain ⟨r, hr⟩ : ∃ k : Int, k = n.tmod g := ⟨_, rfl⟩
 obtain ⟨p, hp⟩ : ∃ k : Int, k = d.tdiv g := ⟨_, rfl⟩
 obtain ⟨s, hs⟩ : ∃ k : Int, k = d.tmod g := ⟨_, rfl⟩
 obtain ⟨q', hq'⟩ : ∃ k : Int, k = -q := ⟨_, rfl⟩
 obtain ⟨p', hp'⟩ : ∃ k : Int, k = -p := ⟨_, rfl⟩
 have hgp := Km (n := n) hd0
 have hgl := gcdZ_lz (n := n) hd0
 rw [<- hg] at hgp hgl
 have hql : lz q <= lz n := by rw [hq]; exact JV n g
 have hpl : lz p <= lz d := by rw [hp]; exact JV d g
 have hps : p.sign = d.sign := by rw [hp, hg]; exact tdiv_sign hd0
 obtain ⟨sg, hsg⟩ : ∃ k : Int, k = p.sign := ⟨_, rfl⟩
 have HSG := Hd hsg
 have HSN := Hd (show decide (sg < 0) = false from by
  rw [hsg, hps]
  exact decide_eq_false (by have := XK d; omega))
 have HG := Hd hg
 have HG0 := Hd (show g ≠ 0 from by omega)
 have HQ := Hd (And.intro hq hr)
 have HP := Hd (And.intro hp hs)
 have HN1 := Hd hq'
 have HN2 := Hd hp'
 have HLN := Hd (show YX n d = q /\ YP n d = p from by
  unfold YX YP
  rw [if_neg hs0, if_neg hs0, <- hg, <- hq, <- hp]
  exact ⟨rfl, rfl⟩)
 clear hg hq hr hp hs hq' hp' hs0 hsg hps hd0
 have b0 := ((((Below.refl w.heap.size w).alloc (Nat.le_refl _) (.cells #[.bool (decide (n < 0)), .slice A (Za n.natAbs).length c] 24)).alloc (by simp) (.cells #[.bool (decide (d < 0)), .slice B (Za d.natAbs).length e0] 24)).alloc (by simp; omega) (.cells #[.bool false, .slice none 0 0, .bool false, .slice none 0 0] 26))
 have p0 := ((Zr.new w 24 (.bool (decide (n < 0))) (.slice A (Za n.natAbs).length c)).alloc (.cells #[.bool (decide (d < 0)), .slice B (Za d.natAbs).length e0] 24)).alloc (.cells #[.bool false, .slice none 0 0, .bool false, .slice none 0 0] 26)
 have p1 := (Zr.new (w.alloc (.cells #[.bool (decide (n < 0)), .slice A (Za n.natAbs).length c] 24)) 24 (.bool (decide (d < 0))) (.slice B (Za d.natAbs).length e0)).alloc (.cells #[.bool false, .slice none 0 0, .bool false, .slice none 0 0] 26)
 have p2 := Zz.new ((w.alloc (.cells #[.bool (decide (n < 0)), .slice A (Za n.natAbs).length c] 24)).alloc (.cells #[.bool (decide (d < 0)), .slice B (Za d.natAbs).length e0] 24)) (.bool false) (.slice none 0 0) (.bool false) (.slice none 0 0)
 simp only [World.size_alloc] at p1 p2
 have V_n := Hd (NV.of h_n b0 p0)
 have V_d := Hd (NV.of h_d b0 p1)
 have P_r0 := Hd p2
 have RW_n := Hd h_n
 have RW_d := Hd h_d
 have HBW := Hd b0
 clear b0 p0 p1 p2 h_n h_d
 go_enter Tryz.func189, Tryz.ntmps189
 obtain ⟨W, E⟩ : ∃ W, W = (((w.alloc (.cells #[.bool (decide (n < 0)), .slice A (Za n.natAbs).length c] 24)).alloc (.cells #[.bool (decide (d < 0)), .slice B (Za d.natAbs).length e0] 24)).alloc (.cells #[.bool false, .slice none 0 0, .bool false, .slice none 0 0] 26)) := ⟨_, rfl⟩
 go_upto_region 1 with fail
 rw [<- E] at V_n V_d P_r0 HBW ⊢
 clear E
 have hsz := P_r0.out.blk.lt
 obtain ⟨l_n, a_n, b_n, -, -⟩ := V_n.out.pair.facts
 obtain ⟨l_d, a_d, b_d, -, -⟩ := V_d.out.pair.facts
 go_wp2_with fail
 refine (common02 n d A B c e0 W V_n.out.raw V_d.out.raw (by omega) (by omega)).mono ?_
 rintro e x1 ⟨v, rfl, hI, hb⟩
 rw [<- HG.out] at hI
 obtain ⟨A1, c1, rfl, r1⟩ := hI.form
 clear hI
 clear l_n a_n b_n l_d a_d b_d
 have V_n := Hd (V_n.out.below hb)
 have V_d := Hd (V_d.out.below hb)
 have P_r0 := Hd (P_r0.out.below hb)
 have HBW := Hd (Zb HBW.out hb)
 have R_g := Hd r1
 clear hb r1
 go_upto_region 2 with fail
 have ha := ((Below.refl x1.heap.size x1).alloc (Nat.le_refl _) (.cells #[.bool (decide (g < 0)), .slice A1 (Za g.natAbs).length c1] 24))
 have p_g := (Zr.new x1 24 (.bool (decide (g < 0))) (.slice A1 (Za g.natAbs).length c1))
 obtain ⟨y2, E⟩ : ∃ W, W = (x1.alloc (.cells #[.bool (decide (g < 0)), .slice A1 (Za g.natAbs).length c1] 24)) := ⟨_, rfl⟩
 rw [<- E] at ha p_g ⊢
 have V_g := Hd (NV.of R_g.out ha p_g)
 have V_n := Hd (V_n.out.below ha)
 have V_d := Hd (V_d.out.below ha)
 have P_r0 := Hd (P_r0.out.below ha)
 have HBW := Hd (Zb HBW.out ha)
 obtain ⟨g2, hg⟩ : ∃ g, g = x1.heap.size := ⟨_, rfl⟩
 rw [<- hg] at V_g ⊢
 clear E ha hg p_g
 obtain ⟨l_n, a_n, b_n, -, -⟩ := V_n.out.pair.facts
 obtain ⟨l_g, a_g, b_g, -, -⟩ := V_g.out.pair.facts
 go_wp2_with fail
 refine (rdivide n g q r A A1 c c1 y2 V_n.out.raw V_g.out.raw (by omega) (by omega) HG0.out HQ.out.1 HQ.out.2).mono ?_
 rintro e x3 ⟨v1, v2, rfl, hI1, hI2, hb⟩
 obtain ⟨A2, c2, rfl, r2⟩ := hI1.raw
 obtain ⟨A3, c3, rfl, r3⟩ := hI2.raw
 clear l_n a_n b_n l_g a_g b_g
 have V_n := Hd (V_n.out.below hb)
 have V_d := Hd (V_d.out.below hb)
 have V_g := Hd (V_g.out.below hb)
 have P_r0 := Hd (P_r0.out.below hb)
 have HBW := Hd (Zb HBW.out hb)
 have R_q := Hd r2
 have R_rm := Hd r3
 have O_q := Hd (hI1.base (Nat.zero_le _))
 clear hb hI1 hI2 r2 r3
 go_upto_region 3 with fail
 have ha := (((Below.refl x3.heap.size x3).alloc (Nat.le_refl _) (.cells #[.bool (decide (q < 0)), .slice A2 (Za q.natAbs).length c2] 24)).alloc (by simp) (.cells #[.bool (decide (r < 0)), .slice A3 (Za r.natAbs).length c3] 24))
 have p_q := ((Zr.new x3 24 (.bool (decide (q < 0))) (.slice A2 (Za q.natAbs).length c2)).alloc (.cells #[.bool (decide (r < 0)), .slice A3 (Za r.natAbs).length c3] 24))
 have p_rm := (Zr.new (x3.alloc (.cells #[.bool (decide (q < 0)), .slice A2 (Za q.natAbs).length c2] 24)) 24 (.bool (decide (r < 0))) (.slice A3 (Za r.natAbs).length c3))
 simp only [World.size_alloc] at p_rm
 obtain ⟨y4, E⟩ : ∃ W, W = ((x3.alloc (.cells #[.bool (decide (q < 0)), .slice A2 (Za q.natAbs).length c2] 24)).alloc (.cells #[.bool (decide (r < 0)), .slice A3 (Za r.natAbs).length c3] 24)) := ⟨_, rfl⟩
 rw [<- E] at ha p_q p_rm ⊢
 have V_q := Hd (NV.of R_q.out ha p_q)
 have V_rm := Hd (NV.of R_rm.out ha p_rm)
 have V_n := Hd (V_n.out.below ha)
 have V_d := Hd (V_d.out.below ha)
 have V_g := Hd (V_g.out.below ha)
 have P_r0 := Hd (P_r0.out.below ha)
 have O_q := Hd (O_q.out.below ha)
 have HBW := Hd (Zb HBW.out ha)
 obtain ⟨g4, hg⟩ : ∃ g, g = x3.heap.size := ⟨_, rfl⟩
 rw [<- hg] at V_q V_rm ⊢
 clear E ha hg p_q p_rm
 clear V_rm
 obtain ⟨l_d, a_d, b_d, -, -⟩ := V_d.out.pair.facts
 obtain ⟨l_g, a_g, b_g, -, -⟩ := V_g.out.pair.facts
 go_wp2_with fail
 refine (rdivide d g p s B A1 e0 c1 y4 V_d.out.raw V_g.out.raw (by omega) (by omega) HG0.out HP.out.1 HP.out.2).mono ?_
 rintro e x5 ⟨v1, v2, rfl, hI1, hI2, hb⟩
 obtain ⟨A4, c4, rfl, r2⟩ := hI1.raw
 obtain ⟨A5, c5, rfl, r3⟩ := hI2.raw
 clear l_d a_d b_d l_g a_g b_g
 have V_n := Hd (V_n.out.below hb)
 have V_d := Hd (V_d.out.below hb)
 have V_g := Hd (V_g.out.below hb)
 have V_q := Hd (V_q.out.below hb)
 have P_r0 := Hd (P_r0.out.below hb)
 have O_q := Hd (O_q.out.below hb)
 have HBW := Hd (Zb HBW.out hb)
 have R_p := Hd r2
 have R_sm := Hd r3
 have O_p := Hd (hI1.base (Nat.zero_le _))
 clear hb hI1 hI2 r2 r3
 go_upto_region 4 with fail
 have ha := (((Below.refl x5.heap.size x5).alloc (Nat.le_refl _) (.cells #[.bool (decide (p < 0)), .slice A4 (Za p.natAbs).length c4] 24)).alloc (by simp) (.cells #[.bool (decide (s < 0)), .slice A5 (Za s.natAbs).length c5] 24))
 have p_p := ((Zr.new x5 24 (.bool (decide (p < 0))) (.slice A4 (Za p.natAbs).length c4)).alloc (.cells #[.bool (decide (s < 0)), .slice A5 (Za s.natAbs).length c5] 24))
 have p_sm := (Zr.new (x5.alloc (.cells #[.bool (decide (p < 0)), .slice A4 (Za p.natAbs).length c4] 24)) 24 (.bool (decide (s < 0))) (.slice A5 (Za s.natAbs).length c5))
 simp only [World.size_alloc] at p_sm
 obtain ⟨y6, E⟩ : ∃ W, W = ((x5.alloc (.cells #[.bool (decide (p < 0)), .slice A4 (Za p.natAbs).length c4] 24)).alloc (.cells #[.bool (decide (s < 0)), .slice A5 (Za s.natAbs).length c5] 24)) := ⟨_, rfl⟩
 rw [<- E] at ha p_p p_sm ⊢
 have V_p := Hd (NV.of R_p.out ha p_p)
 have V_sm := Hd (NV.of R_sm.out ha p_sm)
 have V_n := Hd (V_n.out.below ha)
 have V_d := Hd (V_d.out.below ha)
 have V_g := Hd (V_g.out.below ha)
 have V_q := Hd (V_q.out.below ha)
 have P_r0 := Hd (P_r0.out.below ha)
 have O_q := Hd (O_q.out.below ha)
 have O_p := Hd (O_p.out.below ha)
 have HBW := Hd (Zb HBW.out ha)
 obtain ⟨g6, hg⟩ : ∃ g, g = x5.heap.size := ⟨_, rfl⟩
 rw [<- hg] at V_p V_sm ⊢
 clear E ha hg p_p p_sm
 clear V_sm
 have hsn := HSN.out
 obtain ⟨l_p, a_p, b_p, -, -⟩ := V_p.out.pair.facts
 go_wp2_with fail
 refine (rsign p sg A4 c4 y6 V_p.out.raw HSG.out).mono ?_
 rintro e x7 ⟨rfl, hb⟩
 clear l_p a_p b_p
 have V_n := Hd (V_n.out.below hb)
 have V_d := Hd (V_d.out.below hb)
 have V_g := Hd (V_g.out.below hb)
 have V_q := Hd (V_q.out.below hb)
 have V_p := Hd (V_p.out.below hb)
 have P_r0 := Hd (P_r0.out.below hb)
 have O_q := Hd (O_q.out.below hb)
 have O_p := Hd (O_p.out.below hb)
 have HBW := Hd (Zb HBW.out hb)
 clear hb
 go_upto_region 6 with fail
 clear hsn
 obtain ⟨l_q, a_q, b_q, -, -⟩ := V_q.out.pair.facts
 obtain ⟨l_p, a_p, b_p, -, -⟩ := V_p.out.pair.facts
 obtain ⟨l_r, c_r0, c_r1, c_r2, c_r3, f_r0, f_r1, f_r2, f_r3⟩ := P_r0.out.facts
 have HQ9 := Hd (P_r0.out.store (.bool (decide (q < 0))) (.slice A2 (Za q.natAbs).length c2) (.bool (decide (p < 0))) (.slice A4 (Za p.natAbs).length c4))
 have HB9 := Hd (YR HBW.out (show w.heap.size <= w.heap.size + 1 + 1 by omega) (.bool (decide (q < 0))) (.slice A2 (Za q.natAbs).length c2) (.bool (decide (p < 0))) (.slice A4 (Za p.natAbs).length c4))
 have HF := Hd (show ZE ((((x7.setCell ⟨w.heap.size + 1 + 1, 0, none⟩ (.bool (decide (q < 0)))).setCell ⟨w.heap.size + 1 + 1, 1, none⟩ (.slice A2 (Za q.natAbs).length c2)).setCell ⟨w.heap.size + 1 + 1, 2, none⟩ (.bool (decide (p < 0)))).setCell ⟨w.heap.size + 1 + 1, 3, none⟩ (.slice A4 (Za p.natAbs).length c4)) 0 (.agg #[.bool (decide (q < 0)), .slice A2 (Za q.natAbs).length c2, .bool (decide (p < 0)), .slice A4 (Za p.natAbs).length c4]) q p from ⟨_, _, _, _, rfl, O_q.out.quad P_r0.out _ _ _ _, O_p.out.quad P_r0.out _ _ _ _⟩)
 go_wp2_with fail
 obtain ⟨_, k0, k1, k2, k3, _⟩ := HQ9.out.facts
 exact bodyPost_ret (by simp [results, Tryz.results189, go_sem, k0, k1, k2, k3]) rfl ⟨.agg #[.bool (decide (q < 0)), .slice A2 (Za q.natAbs).length c2, .bool (decide (p < 0)), .slice A4 (Za p.natAbs).length c4], rfl, by rw [HLN.out.1, HLN.out.2]; exact HF.out, HB9.out⟩

theorem rlowP (n d : Int) (A B : Option Addr) (c e0 : Nat) (w : World) (h : Zm w A c (Za n.natAbs)) (g : Zm w B e0 (Za d.natAbs)) (hn : lz n <= 30000) (hd : lz d <= 30000) (hd0 : 0 < d) :
 Calls Tryz.prog 189 #[.agg #[.bool (decide (n < 0)), .slice A (Za n.natAbs).length c], .agg #[.bool (decide (d < 0)), .slice B (Za d.natAbs).length e0]] w (Ya w (YX n d) (YP n d)) := rlow_pos n d A B c e0 w h g hn hd (by omega) (by omega)

theorem efresh_one_pos (n d : Int) (A B : Option Addr) (c e0 b : Nat) (w : World) (h_n : Zm w A c (Za n.natAbs)) (h_d : Zm w B e0 (Za d.natAbs)) (o_n : Zc w b (.agg #[.bool (decide (n < 0)), .slice A (Za n.natAbs).length c]) n) (o_d : Zc w b (.agg #[.bool (decide (d < 0)), .slice B (Za d.natAbs).length e0]) d) (hap : ∀ g, (Value.slice A (Za n.natAbs).length c).ownBlock = some g -> (Value.slice B (Za d.natAbs).length e0).ownBlock ≠ some g) (hbw : b <= w.heap.size) (hn : lz n <= 400000000) (hd : lz d <= 400000000) (hd0 : d ≠ 0) (hs0 : ¬ d < 0) (hgc : ZL n d = 1) :
   Calls Tryz.prog 169 #[.agg #[.bool (decide (n < 0)), .slice A (Za n.natAbs).length c], .agg #[.bool (decide (d < 0)), .slice B (Za d.natAbs).length e0]] w (Z3 b w (YX n d) (YP n d)) := by
 obtain ⟨g, hg⟩ : ∃ k : Int, k = ZL n d := ⟨_, rfl⟩
 obtain ⟨one, hone⟩ : ∃ k : Int, k = 1 := ⟨_, rfl⟩
 obtain ⟨q, hq⟩ : ∃ k : Int, k = n.tdiv g := ⟨_, rfl⟩
 obtain ⟨r, hr⟩ : ∃ k : Int, k = n.tmod g := ⟨_, rfl⟩
 obtain ⟨p, hp⟩ : ∃ k : Int, k = d.tdiv g := ⟨_, rfl⟩
 obtain ⟨s, hs⟩ : ∃ k : Int, k = d.tmod g := ⟨_, rfl⟩
 obtain ⟨q', hq'⟩ : ∃ k : Int, k = -q := ⟨_, rfl⟩
 obtain ⟨p', hp'⟩ : ∃ k : Int, k = -p := ⟨_, rfl⟩
 have hgp := Km (n := n) hd0
 have hgl := gcdZ_lz (n := n) hd0
 rw [<- hg] at hgp hgl hgc
 have hql : lz q <= lz n := by rw [hq]; exact JV n g
 have hpl : lz p <= lz d := by rw [hp]; exact JV d g
 have hps : p.sign = d.sign := by rw [hp, hg]; exact tdiv_sign hd0
 have hol : lz one <= 2 := by rw [hone]; decide
 obtain ⟨sg, hsg⟩ : ∃ k : Int, k = p.sign := ⟨_, rfl⟩
 have HSG := Hd hsg
 have HSN := Hd (show decide (sg < 0) = false from by
   rw [hsg, hps]
   exact decide_eq_false (by have := XK d; omega))
 have HG := Hd (show g = ((Nat.gcd n.natAbs d.natAbs : Nat) : Int) from hg)
 have H1 := Hd hone
 have HG0 := Hd (show g ≠ 0 from by omega)
 have HQ := Hd (And.intro hq hr)
 have HP := Hd (And.intro hp hs)
 have HN1 := Hd hq'
 have HN2 := Hd hp'
 have HK := Hd (show (0 : Int) = Jt g one from by rw [hone]; rw [hgc]; decide)
 have HLN := Hd (show YX n d = q /\ YP n d = p from by
   unfold YX YP
   rw [if_neg hs0, if_neg hs0, <- hg, <- hq, <- hp]
   exact ⟨rfl, rfl⟩)
 have HQN := Hd (show q = n /\ p = d from by rw [hq, hp, hgc]; exact ⟨Int.tdiv_one _, Int.tdiv_one _⟩)
 have OW_n := Hd o_n
 have OW_d := Hd o_d
 have HAP := Hd hap
 have _ := hbw
 clear o_n o_d hap
 clear hgc hg hone hq hr hp hs hq' hp' hs0 hsg hps hd0
 have b0 := ((((Below.refl w.heap.size w).alloc (Nat.le_refl _) (.cells #[.bool (decide (n < 0)), .slice A (Za n.natAbs).length c] 24)).alloc (by simp) (.cells #[.bool (decide (d < 0)), .slice B (Za d.natAbs).length e0] 24)).alloc (by simp; omega) (.cells #[.bool false, .slice none 0 0, .bool false, .slice none 0 0] 26))
 have p0 := ((Zr.new w 24 (.bool (decide (n < 0))) (.slice A (Za n.natAbs).length c)).alloc (.cells #[.bool (decide (d < 0)), .slice B (Za d.natAbs).length e0] 24)).alloc (.cells #[.bool false, .slice none 0 0, .bool false, .slice none 0 0] 26)
 have p1 := (Zr.new (w.alloc (.cells #[.bool (decide (n < 0)), .slice A (Za n.natAbs).length c] 24)) 24 (.bool (decide (d < 0))) (.slice B (Za d.natAbs).length e0)).alloc (.cells #[.bool false, .slice none 0 0, .bool false, .slice none 0 0] 26)
 have p2 := Zz.new ((w.alloc (.cells #[.bool (decide (n < 0)), .slice A (Za n.natAbs).length c] 24)).alloc (.cells #[.bool (decide (d < 0)), .slice B (Za d.natAbs).length e0] 24)) (.bool false) (.slice none 0 0) (.bool false) (.slice none 0 0)
 simp only [World.size_alloc] at p1 p2
 have V_n := Hd (NV.of h_n b0 p0)
 have V_d := Hd (NV.of h_d b0 p1)
 have P_r0 := Hd p2
 have RW_n := Hd h_n
 have RW_d := Hd h_d
 have HBW := Hd b0
 clear b0 p0 p1 p2 h_n h_d
 go_enter Tryz.func169, Tryz.ntmps169
 obtain ⟨W, E⟩ : ∃ W, W = (((w.alloc (.cells #[.bool (decide (n < 0)), .slice A (Za n.natAbs).length c] 24)).alloc (.cells #[.bool (decide (d < 0)), .slice B (Za d.natAbs).length e0] 24)).alloc (.cells #[.bool false, .slice none 0 0, .bool false, .slice none 0 0] 26)) := ⟨_, rfl⟩
 go_upto_region 1 with fail
 rw [<- E] at V_n V_d P_r0 HBW ⊢
 clear E
 have hsz := P_r0.out.blk.lt
 have O_n0 := Hd (OW_n.out.below HBW.out)
 have O_d0 := Hd (OW_d.out.below HBW.out)
 clear OW_n OW_d
 obtain ⟨l_n, a_n, b_n, -, -⟩ := V_n.out.pair.facts
 obtain ⟨l_d, a_d, b_d, -, -⟩ := V_d.out.pair.facts
 go_wp2_with fail
 refine (ecommon n d g A B c e0 W V_n.out.raw V_d.out.raw (by omega) (by omega) HG.out).mono ?_
 rintro e x1 ⟨v, rfl, hI, hb⟩
 obtain ⟨A1, c1, rfl, r1⟩ := hI.raw
 have hIg := hI.base (Nat.zero_le _)
 have hszg := hb.size
 clear l_n a_n b_n l_d a_d b_d
 have V_n := Hd (V_n.out.below hb)
 have V_d := Hd (V_d.out.below hb)
 have P_r0 := Hd (P_r0.out.below hb)
 have O_n0 := Hd (O_n0.out.below hb)
 have O_d0 := Hd (O_d0.out.below hb)
 have HBW := Hd (Zb HBW.out hb)
 have R_g := Hd r1
 clear hb r1
 have O_g := Hd hIg
 clear hI hIg
 go_upto_region 2 with fail
 have ha := ((Below.refl x1.heap.size x1).alloc (Nat.le_refl _) (.cells #[.bool (decide (g < 0)), .slice A1 (Za g.natAbs).length c1] 24))
 have p_g := (Zr.new x1 24 (.bool (decide (g < 0))) (.slice A1 (Za g.natAbs).length c1))
 obtain ⟨y2, E⟩ : ∃ W, W = (x1.alloc (.cells #[.bool (decide (g < 0)), .slice A1 (Za g.natAbs).length c1] 24)) := ⟨_, rfl⟩
 rw [<- E] at ha p_g ⊢
 have V_g := Hd (NV.of R_g.out ha p_g)
 have V_n := Hd (V_n.out.below ha)
 have V_d := Hd (V_d.out.below ha)
 have P_r0 := Hd (P_r0.out.below ha)
 have O_n0 := Hd (O_n0.out.below ha)
 have O_d0 := Hd (O_d0.out.below ha)
 have O_g := Hd (O_g.out.below ha)
 have HBW := Hd (Zb HBW.out ha)
 obtain ⟨g2, hg⟩ : ∃ g, g = x1.heap.size := ⟨_, rfl⟩
 rw [<- hg] at V_g ⊢
 have hge2 : x1.heap.size <= g2 := by omega
 clear E ha hg p_g
 go_wp2_with fail
 obtain ⟨W0, hW⟩ : ∃ W0, W0 = y2 := ⟨_, rfl⟩
 rw [<- hW] at HBW P_r0 O_n0 O_d0 O_g V_n V_d V_g  ⊢
 clear hW
 refine Zd [.val (.agg #[.bool (decide (g < 0)), .slice A1 (Za g.natAbs).length c1]) [], .any false (fun u0 V => XS V u0 one) [], .val (.int .i64 0) [1], .val (.bool false) []] W0.heap.size W0 [] (fun _ _ => False) _ Zf (Nat.le_refl _) (Below.refl _ _) (Zu.refl _ _ _) rfl ?_ ?_ ?_ ?_ ?_ ?_ ?_ ?_ rfl (by simp [ZP]) ?_ ?_ ?_ ?_
 iterate 8 kernel_rfl
 . simp only [Zy, and_true]
   exact fun u0 V V' h k => h.keptNone k
 . simp only [Z5]
 . simp (maxSteps := 4000000) [ZH, YD, Zg, ZF, Zn]
   repeat' (first | apply And.intro | (intro (u0 : Value)))
   all_goals first
   | (intro V hV hK
      obtain ⟨-, a_g, b_g, -, -⟩ := (V_g.out.below hV).pair.facts
      have r_g := Hd (V_g.out.below hV).raw
      clear hV hK
      go_simp
      first
      | exact Below.refl _ _
      | exact ⟨by first | rfl | decide | go_num, Below.refl _ _⟩
      | ((with_reducible refine (eof 1 one H1.out (by decide) (by decide) V).mono ?_); rintro _ _ ⟨_, rfl, x, y⟩; exact ⟨x.at_, y⟩))
   | (intro V hV hK hu
      obtain ⟨A', c', rfl, hr⟩ := hu.form
      have r_g := Hd (V_g.out.below hV).raw
      have r' := Hd hr
      clear hV hK hu hr
      go_simp
      (with_reducible refine (ecmp g one 0 A1 A' c1 c' V r_g.out r'.out (by omega) (by omega) HK.out).mono ?_)
      rintro e w' ⟨rfl, hb⟩
      exact ⟨rfl, hb⟩)
 . simp [YH, ZK, Zg, ZF, Zn]
   intro u1 V hV hK _ _ _ _
   have V_n := Hd (V_n.out.below hV)
   have V_d := Hd (V_d.out.below hV)
   have V_g := Hd (V_g.out.below hV)
   have P_r0 := Hd (P_r0.out.below hV)
   have O_n0 := Hd (O_n0.out.below hV)
   have O_d0 := Hd (O_d0.out.below hV)
   have O_g := Hd (O_g.out.below hV)
   have HBW := Hd (Zb HBW.out hV)
   clear hV hK
   obtain ⟨v3, hV0⟩ : ∃ Y, Y = V := ⟨_, rfl⟩
   rw [<- hV0] at HBW P_r0 O_n0 O_d0 O_g V_n V_d V_g  ⊢
   clear hV0
   obtain ⟨rfl, rfl⟩ := HQN.out
   have hsn := HSN.out
   obtain ⟨l_d, a_d, b_d, -, -⟩ := V_d.out.pair.facts
   go_wp2_with fail
   refine (esign p sg B e0 v3 V_d.out.raw HSG.out).mono ?_
   rintro e x4 ⟨rfl, hb⟩
   clear l_d a_d b_d
   have V_n := Hd (V_n.out.below hb)
   have V_d := Hd (V_d.out.below hb)
   have V_g := Hd (V_g.out.below hb)
   have P_r0 := Hd (P_r0.out.below hb)
   have O_n0 := Hd (O_n0.out.below hb)
   have O_d0 := Hd (O_d0.out.below hb)
   have O_g := Hd (O_g.out.below hb)
   have HBW := Hd (Zb HBW.out hb)
   clear hb
   go_upto_region 7 with fail
   clear hsn
   obtain ⟨l_n, a_n, b_n, -, -⟩ := V_n.out.pair.facts
   obtain ⟨l_d, a_d, b_d, -, -⟩ := V_d.out.pair.facts
   obtain ⟨l_r, c_r0, c_r1, c_r2, c_r3, f_r0, f_r1, f_r2, f_r3⟩ := P_r0.out.facts
   have HQ9 := Hd (P_r0.out.store (.bool (decide (q < 0))) (.slice A (Za q.natAbs).length c) (.bool (decide (p < 0))) (.slice B (Za p.natAbs).length e0))
   have HB9 := Hd (YR HBW.out (show w.heap.size <= w.heap.size + 1 + 1 by omega) (.bool (decide (q < 0))) (.slice A (Za q.natAbs).length c) (.bool (decide (p < 0))) (.slice B (Za p.natAbs).length e0))
   have HF := Hd (show Zl ((((x4.setCell ⟨w.heap.size + 1 + 1, 0, none⟩ (.bool (decide (q < 0)))).setCell ⟨w.heap.size + 1 + 1, 1, none⟩ (.slice A (Za q.natAbs).length c)).setCell ⟨w.heap.size + 1 + 1, 2, none⟩ (.bool (decide (p < 0)))).setCell ⟨w.heap.size + 1 + 1, 3, none⟩ (.slice B (Za p.natAbs).length e0)) b (.agg #[.bool (decide (q < 0)), .slice A (Za q.natAbs).length c, .bool (decide (p < 0)), .slice B (Za p.natAbs).length e0]) q p from ⟨_, _, _, _, rfl, O_n0.out.quad P_r0.out _ _ _ _, O_d0.out.quad P_r0.out _ _ _ _, HAP.out⟩)
   go_wp2_with fail
   obtain ⟨_, k0, k1, k2, k3, _⟩ := HQ9.out.facts
   exact bodyPost_ret (by simp [results, Tryz.results169, go_sem, k0, k1, k2, k3]) rfl ⟨.agg #[.bool (decide (q < 0)), .slice A (Za q.natAbs).length c, .bool (decide (p < 0)), .slice B (Za p.natAbs).length e0], rfl, by rw [HLN.out.1, HLN.out.2]; exact HF.out, HB9.out⟩

theorem gcd_unit (n : Int) : ZL n 1 = 1 := by unfold ZL; simp
theorem efreshZ (n d : Int) (A B : Option Addr) (c e0 b : Nat) (w : World) (o_n : Zc w b (.agg #[.bool (decide (n < 0)), .slice A (Za n.natAbs).length c]) n) (o_d : Zc w b (.agg #[.bool (decide (d < 0)), .slice B (Za d.natAbs).length e0]) d) (hap : ∀ g, (Value.slice A (Za n.natAbs).length c).ownBlock = some g -> (Value.slice B (Za d.natAbs).length e0).ownBlock ≠ some g) (hbw : b <= w.heap.size) (hn : lz n <= 400000000) (hd : lz d <= 400000000) (hd0 : d = 1) :
  Calls Tryz.prog 169 #[.agg #[.bool (decide (n < 0)), .slice A (Za n.natAbs).length c], .agg #[.bool (decide (d < 0)), .slice B (Za d.natAbs).length e0]] w (Z3 b w (YX n d) (YP n d)) :=
 efresh_one_pos n d A B c e0 b w o_n.rawAt o_d.rawAt o_n o_d hap hbw hn hd (by omega) (by omega) (by rw [hd0]; exact gcd_unit n)
end Go.Proofs.YtdonecnhdkjniaaGreatDoor
