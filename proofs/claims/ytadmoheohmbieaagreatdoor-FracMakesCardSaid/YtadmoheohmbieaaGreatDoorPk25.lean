/- Several texts in one: TurnedR, Lowest02, Turned. -/
import Derived.Test.YtadmoheohmbieaaGreatDoorPk22
import Derived.Test.YtadmoheohmbieaaGreatDoorPk23
import Derived.Test.YtadmoheohmbieaaGreatDoorPk24
/- turned of the references: a number times -1. (Written by wip/frac/genturned.py.) -/
namespace Go.Proofs.YtadmoheohmbieaaGreatDoor
open Go.RowKit

set_option maxRecDepth 100000 in
set_option maxHeartbeats 2000000 in
theorem rturned (x z : Int) (A : Option Addr) (c : Nat) (w : World) (h_x : Raw w A c (natL x.natAbs)) (hx : lz x ≤ 400000000) (hz : z = -x) :
    Calls Tryz.prog 160 #[.agg #[.bool (decide (x < 0)), .slice A (natL x.natAbs).length c]] w (RetInt w.heap.size w z) := by
  obtain ⟨n0, hn0⟩ : ∃ k : Int, k = 0 := ⟨_, rfl⟩
  have H0 := Lib.hid hn0
  have HZ := Lib.hid (show z = n0 - x from by rw [hz, hn0]; omega)
  have hl0 : lz n0 ≤ 400000000 := by rw [hn0]; decide
  clear hz hn0
  have b0 := (((Below.refl w.heap.size w).alloc (Nat.le_refl _) (.cells #[.bool (decide (x < 0)), .slice A (natL x.natAbs).length c] 24)).alloc (by simp) (.cells #[.bool false, .slice none 0 0] 24))
  have p0 := (Pair.new w 24 (.bool (decide (x < 0))) (.slice A (natL x.natAbs).length c)).alloc (.cells #[.bool false, .slice none 0 0] 24)
  have p1 := Pair.new (w.alloc (.cells #[.bool (decide (x < 0)), .slice A (natL x.natAbs).length c] 24)) 24 (.bool false) (.slice none 0 0)
  simp only [World.size_alloc] at p1
  have V_x := Lib.hid (NV.of h_x b0 p0)
  have P_r0 := Lib.hid p1
  have RW_x := Lib.hid h_x
  have HBW := Lib.hid b0
  clear b0 p0 p1 h_x
  go_enter Tryz.func160, Tryz.ntmps160
  obtain ⟨W, E⟩ : ∃ W, W = ((w.alloc (.cells #[.bool (decide (x < 0)), .slice A (natL x.natAbs).length c] 24)).alloc (.cells #[.bool false, .slice none 0 0] 24)) := ⟨_, rfl⟩
  go_upto_region 1 with fail
  rw [← E] at V_x P_r0 HBW ⊢
  clear E
  have hsz := P_r0.out.blk.lt
  go_wp2_with fail
  refine wp_region_free [.any false (fun u V => IntOwn V 0 u n0) [], .val (.agg #[.bool (decide (x < 0)), .slice A (natL x.natAbs).length c]) [], .any false (fun u V => IntOwn V w.heap.size u z) [0], .old (w.heap.size + 1) 24 #[.bool false, .slice none 0 0] 0 2 2 []] (w.heap.size + 1) W [24] (fun _ _ => False) _ mixedOrders2 (by omega) (Below.refl _ _) (KeptV.refl _ _ _) rfl (by kernel_rfl) (by kernel_rfl) (by kernel_rfl) (by kernel_rfl) (by kernel_rfl) (by kernel_rfl) (by kernel_rfl) (by kernel_rfl) rfl (by simp [oldsF]) ?_ ?_ ?_ ?_
  · simp only [StableF, and_true]
    exact ⟨fun u V V' h k => h.kept k (by decide), fun u V V' h k => h.kept k (by decide)⟩
  · simp only [OldsF, and_true]
    exact ⟨Nat.le_refl _, by omega, P_r0.out.blk, by simp⟩
  · simp (maxSteps := 4000000) [StepsF, DepF, freeAct, fill, pairs]
    repeat' (first | apply And.intro | (intro (u : Value)) | (intro (u : Nat)))
    all_goals try exact ⟨_, _, _, rfl, rfl, rfl, rfl, intInfo⟩
    all_goals first
    | (intro V hV hK
       have px := V_x.out.pair.blk.below hV (Nat.lt_succ_self _)
       obtain ⟨-, a_x, b_x, -, -⟩ := (Pair.mk px).facts
       clear hV hK px
       go_simp
       first
       | exact Below.refl _ _
       | ((with_reducible refine (rof 0 n0 H0.out (by decide) (by decide) V).mono ?_); rintro e w' ⟨v, rfl, hv, hb⟩; exact ⟨hv.base (Nat.zero_le _), hb⟩))
    | (intro V hV hK hu
       obtain ⟨A', c', rfl, hr⟩ := hu.raw
       have r2 := Lib.hid hr
       have rx := Lib.hid (RW_x.out.below (HBW.out.trans (hV.mono (by omega))))
       have hvs : w.heap.size ≤ V.heap.size := by have := hK.size; omega
       clear hV hK hu hr
       go_simp
       (with_reducible refine (rminus n0 x z A' A c' c V r2.out rx.out (by omega) (by omega) HZ.out).mono ?_)
       rintro e w' ⟨v, rfl, hv, hb⟩
       exact ⟨hv.base hvs, hb⟩)
    | exact fun _ _ _ (h : IntOwn _ _ _ _) => h.cells
  · simp [EndF, FactsF, freeAct, fill, pairs]
    intro u1 u2 V hV hK h1 h2 bq _ _ _
    obtain ⟨A2, c2, rfl, -⟩ := h2.raw
    simp [setAll, Value.cells] at bq
    have k0 := bq.cell 0
    have k1 := bq.cell 1
    simp at k0 k1
    have HO := Lib.hid h2
    have HB := Lib.hid (HBW.out.trans (hV.mono (by omega)))
    clear h1 h2 hV hK bq
    go_wp2_with fail
    exact bodyPost_ret (by simp [results, Tryz.results160, go_sem, k0, k1]) rfl ⟨_, rfl, HO.out, HB.out⟩
end Go.Proofs.YtadmoheohmbieaaGreatDoor

/- Lowest of the references of chapter 02. (Written by wip/frac/genlowest02.py.) -/
namespace Go.Proofs.YtadmoheohmbieaaGreatDoor
open Go.RowKit

theorem fracInfo : (Tryz.prog.info? 30).map (·.size) = some 4 := by kernel_rfl
/-- A fraction whose two numbers are the call's own. -/
structure FracIn (w : World) (base : Nat) (v : Value) (n d : Int) : Prop where
  form : ∃ A c B e, v = .agg #[.bool (decide (n < 0)), .slice A (natL n.natAbs).length c, .bool (decide (d < 0)), .slice B (natL d.natAbs).length e] ∧ IntOwn w base (.agg #[.bool (decide (n < 0)), .slice A (natL n.natAbs).length c]) n ∧ IntOwn w base (.agg #[.bool (decide (d < 0)), .slice B (natL d.natAbs).length e]) d
theorem FracIn.kept {B : Nat} {Ts : List TypeId} {w w' : World} {base : Nat} {v : Value} {n d : Int} (h : FracIn w base v n d) (k : KeptV B Ts w w') (hT : 89 ∉ Ts) : FracIn w' base v n d := by
  obtain ⟨A, c, B, e, h1, h2, h3⟩ := h.form
  exact ⟨A, c, B, e, h1, h2.kept k hT, h3.kept k hT⟩
theorem FracIn.at_ {w : World} {base : Nat} {v : Value} {n d : Int} (h : FracIn w base v n d) : FracAt w v n d := by
  obtain ⟨A, c, B, e, h1, h2, h3⟩ := h.form
  exact ⟨A, c, B, e, h1, h2.rawAt, h3.rawAt⟩
theorem FracIn.cells {w : World} {base : Nat} {v : Value} {n d : Int} (h : FracIn w base v n d) : CellsN v 4 := by
  obtain ⟨A, c, B, e, rfl, -⟩ := h.form
  exact ⟨rfl, by simp [Value.cells, Value.oneCell']⟩

set_option maxRecDepth 100000 in
set_option maxHeartbeats 4000000 in
theorem lowest02_neg (n d : Int) (A B : Option Addr) (c e0 : Nat) (w : World) (h_n : Raw w A c (natL n.natAbs)) (h_d : Raw w B e0 (natL d.natAbs)) (hn : lz n ≤ 30000) (hd : lz d ≤ 30000) (hd0 : d ≠ 0) (hs0 : d < 0) :
    Calls Tryz.prog 64 #[.agg #[.bool (decide (n < 0)), .slice A (natL n.natAbs).length c], .agg #[.bool (decide (d < 0)), .slice B (natL d.natAbs).length e0]] w (RetFrac w (lowN n d) (lowD n d)) := by
  obtain ⟨g, hg⟩ : ∃ k : Int, k = gcdZ n d := ⟨_, rfl⟩
  obtain ⟨q, hq⟩ : ∃ k : Int, k = n.tdiv g := ⟨_, rfl⟩
  obtain ⟨r, hr⟩ : ∃ k : Int, k = n.tmod g := ⟨_, rfl⟩
  obtain ⟨p, hp⟩ : ∃ k : Int, k = d.tdiv g := ⟨_, rfl⟩
  obtain ⟨s, hs⟩ : ∃ k : Int, k = d.tmod g := ⟨_, rfl⟩
  obtain ⟨q', hq'⟩ : ∃ k : Int, k = -q := ⟨_, rfl⟩
  obtain ⟨p', hp'⟩ : ∃ k : Int, k = -p := ⟨_, rfl⟩
  have hgp := gcdZ_pos (n := n) hd0
  have hgl := gcdZ_lz (n := n) hd0
  rw [← hg] at hgp hgl
  have hql : lz q ≤ lz n := by rw [hq]; exact tdiv_lz n g
  have hpl : lz p ≤ lz d := by rw [hp]; exact tdiv_lz d g
  have hps : p.sign = d.sign := by rw [hp, hg]; exact tdiv_sign hd0
  obtain ⟨sg, hsg⟩ : ∃ k : Int, k = p.sign := ⟨_, rfl⟩
  have HSG := Lib.hid hsg
  have HSN := Lib.hid (show decide (sg < 0) = true from by
    rw [hsg, hps]
    exact decide_eq_true (by rw [Int.sign_eq_neg_one_of_neg hs0]; decide))
  have HG := Lib.hid hg
  have HG0 := Lib.hid (show g ≠ 0 from by omega)
  have HQ := Lib.hid (And.intro hq hr)
  have HP := Lib.hid (And.intro hp hs)
  have HN1 := Lib.hid hq'
  have HN2 := Lib.hid hp'
  have HLN := Lib.hid (show lowN n d = q' ∧ lowD n d = p' from by
    unfold lowN lowD
    rw [if_pos hs0, if_pos hs0, ← hg, ← hq, ← hp, hq', hp']
    exact ⟨rfl, rfl⟩)
  clear hg hq hr hp hs hq' hp' hs0 hsg hps hd0
  have b0 := ((((Below.refl w.heap.size w).alloc (Nat.le_refl _) (.cells #[.bool (decide (n < 0)), .slice A (natL n.natAbs).length c] 24)).alloc (by simp) (.cells #[.bool (decide (d < 0)), .slice B (natL d.natAbs).length e0] 24)).alloc (by simp; omega) (.cells #[.bool false, .slice none 0 0, .bool false, .slice none 0 0] 30))
  have p0 := ((Pair.new w 24 (.bool (decide (n < 0))) (.slice A (natL n.natAbs).length c)).alloc (.cells #[.bool (decide (d < 0)), .slice B (natL d.natAbs).length e0] 24)).alloc (.cells #[.bool false, .slice none 0 0, .bool false, .slice none 0 0] 30)
  have p1 := (Pair.new (w.alloc (.cells #[.bool (decide (n < 0)), .slice A (natL n.natAbs).length c] 24)) 24 (.bool (decide (d < 0))) (.slice B (natL d.natAbs).length e0)).alloc (.cells #[.bool false, .slice none 0 0, .bool false, .slice none 0 0] 30)
  have p2 := Quad.new ((w.alloc (.cells #[.bool (decide (n < 0)), .slice A (natL n.natAbs).length c] 24)).alloc (.cells #[.bool (decide (d < 0)), .slice B (natL d.natAbs).length e0] 24)) (.bool false) (.slice none 0 0) (.bool false) (.slice none 0 0)
  simp only [World.size_alloc] at p1 p2
  have V_n := Lib.hid (NV.of h_n b0 p0)
  have V_d := Lib.hid (NV.of h_d b0 p1)
  have P_r0 := Lib.hid p2
  have RW_n := Lib.hid h_n
  have RW_d := Lib.hid h_d
  have HBW := Lib.hid b0
  clear b0 p0 p1 p2 h_n h_d
  go_enter Tryz.func64, Tryz.ntmps64
  obtain ⟨W, E⟩ : ∃ W, W = (((w.alloc (.cells #[.bool (decide (n < 0)), .slice A (natL n.natAbs).length c] 24)).alloc (.cells #[.bool (decide (d < 0)), .slice B (natL d.natAbs).length e0] 24)).alloc (.cells #[.bool false, .slice none 0 0, .bool false, .slice none 0 0] 30)) := ⟨_, rfl⟩
  go_upto_region 1 with fail
  rw [← E] at V_n V_d P_r0 HBW ⊢
  clear E
  have hsz := P_r0.out.blk.lt
  obtain ⟨l_n, a_n, b_n, -, -⟩ := V_n.out.pair.facts
  obtain ⟨l_d, a_d, b_d, -, -⟩ := V_d.out.pair.facts
  go_wp2_with fail
  refine (common02 n d A B c e0 W V_n.out.raw V_d.out.raw (by omega) (by omega)).mono ?_
  rintro e x1 ⟨v, rfl, hI, hb⟩
  rw [← HG.out] at hI
  obtain ⟨A1, c1, rfl, r1⟩ := hI.form
  clear hI
  clear l_n a_n b_n l_d a_d b_d
  have V_n := Lib.hid (V_n.out.below hb)
  have V_d := Lib.hid (V_d.out.below hb)
  have P_r0 := Lib.hid (P_r0.out.below hb)
  have HBW := Lib.hid (belowTo HBW.out hb)
  have R_g := Lib.hid r1
  clear hb r1
  go_upto_region 2 with fail
  have ha := ((Below.refl x1.heap.size x1).alloc (Nat.le_refl _) (.cells #[.bool (decide (g < 0)), .slice A1 (natL g.natAbs).length c1] 24))
  have p_g := (Pair.new x1 24 (.bool (decide (g < 0))) (.slice A1 (natL g.natAbs).length c1))
  obtain ⟨y2, E⟩ : ∃ W, W = (x1.alloc (.cells #[.bool (decide (g < 0)), .slice A1 (natL g.natAbs).length c1] 24)) := ⟨_, rfl⟩
  rw [← E] at ha p_g ⊢
  have V_g := Lib.hid (NV.of R_g.out ha p_g)
  have V_n := Lib.hid (V_n.out.below ha)
  have V_d := Lib.hid (V_d.out.below ha)
  have P_r0 := Lib.hid (P_r0.out.below ha)
  have HBW := Lib.hid (belowTo HBW.out ha)
  obtain ⟨g2, hg⟩ : ∃ g, g = x1.heap.size := ⟨_, rfl⟩
  rw [← hg] at V_g ⊢
  clear E ha hg p_g
  obtain ⟨l_n, a_n, b_n, -, -⟩ := V_n.out.pair.facts
  obtain ⟨l_g, a_g, b_g, -, -⟩ := V_g.out.pair.facts
  go_wp2_with fail
  refine (rdivide n g q r A A1 c c1 y2 V_n.out.raw V_g.out.raw (by omega) (by omega) HG0.out HQ.out.1 HQ.out.2).mono ?_
  rintro e x3 ⟨v1, v2, rfl, hI1, hI2, hb⟩
  obtain ⟨A2, c2, rfl, r2⟩ := hI1.raw
  obtain ⟨A3, c3, rfl, r3⟩ := hI2.raw
  clear l_n a_n b_n l_g a_g b_g
  have V_n := Lib.hid (V_n.out.below hb)
  have V_d := Lib.hid (V_d.out.below hb)
  have V_g := Lib.hid (V_g.out.below hb)
  have P_r0 := Lib.hid (P_r0.out.below hb)
  have HBW := Lib.hid (belowTo HBW.out hb)
  have R_q := Lib.hid r2
  have R_rm := Lib.hid r3
  have O_q := Lib.hid (hI1.base (Nat.zero_le _))
  clear hb hI1 hI2 r2 r3
  go_upto_region 3 with fail
  have ha := (((Below.refl x3.heap.size x3).alloc (Nat.le_refl _) (.cells #[.bool (decide (q < 0)), .slice A2 (natL q.natAbs).length c2] 24)).alloc (by simp) (.cells #[.bool (decide (r < 0)), .slice A3 (natL r.natAbs).length c3] 24))
  have p_q := ((Pair.new x3 24 (.bool (decide (q < 0))) (.slice A2 (natL q.natAbs).length c2)).alloc (.cells #[.bool (decide (r < 0)), .slice A3 (natL r.natAbs).length c3] 24))
  have p_rm := (Pair.new (x3.alloc (.cells #[.bool (decide (q < 0)), .slice A2 (natL q.natAbs).length c2] 24)) 24 (.bool (decide (r < 0))) (.slice A3 (natL r.natAbs).length c3))
  simp only [World.size_alloc] at p_rm
  obtain ⟨y4, E⟩ : ∃ W, W = ((x3.alloc (.cells #[.bool (decide (q < 0)), .slice A2 (natL q.natAbs).length c2] 24)).alloc (.cells #[.bool (decide (r < 0)), .slice A3 (natL r.natAbs).length c3] 24)) := ⟨_, rfl⟩
  rw [← E] at ha p_q p_rm ⊢
  have V_q := Lib.hid (NV.of R_q.out ha p_q)
  have V_rm := Lib.hid (NV.of R_rm.out ha p_rm)
  have V_n := Lib.hid (V_n.out.below ha)
  have V_d := Lib.hid (V_d.out.below ha)
  have V_g := Lib.hid (V_g.out.below ha)
  have P_r0 := Lib.hid (P_r0.out.below ha)
  have O_q := Lib.hid (O_q.out.below ha)
  have HBW := Lib.hid (belowTo HBW.out ha)
  obtain ⟨g4, hg⟩ : ∃ g, g = x3.heap.size := ⟨_, rfl⟩
  rw [← hg] at V_q V_rm ⊢
  clear E ha hg p_q p_rm
  clear V_rm
  obtain ⟨l_d, a_d, b_d, -, -⟩ := V_d.out.pair.facts
  obtain ⟨l_g, a_g, b_g, -, -⟩ := V_g.out.pair.facts
  go_wp2_with fail
  refine (rdivide d g p s B A1 e0 c1 y4 V_d.out.raw V_g.out.raw (by omega) (by omega) HG0.out HP.out.1 HP.out.2).mono ?_
  rintro e x5 ⟨v1, v2, rfl, hI1, hI2, hb⟩
  obtain ⟨A4, c4, rfl, r2⟩ := hI1.raw
  obtain ⟨A5, c5, rfl, r3⟩ := hI2.raw
  clear l_d a_d b_d l_g a_g b_g
  have V_n := Lib.hid (V_n.out.below hb)
  have V_d := Lib.hid (V_d.out.below hb)
  have V_g := Lib.hid (V_g.out.below hb)
  have V_q := Lib.hid (V_q.out.below hb)
  have P_r0 := Lib.hid (P_r0.out.below hb)
  have O_q := Lib.hid (O_q.out.below hb)
  have HBW := Lib.hid (belowTo HBW.out hb)
  have R_p := Lib.hid r2
  have R_sm := Lib.hid r3
  have O_p := Lib.hid (hI1.base (Nat.zero_le _))
  clear hb hI1 hI2 r2 r3
  go_upto_region 4 with fail
  have ha := (((Below.refl x5.heap.size x5).alloc (Nat.le_refl _) (.cells #[.bool (decide (p < 0)), .slice A4 (natL p.natAbs).length c4] 24)).alloc (by simp) (.cells #[.bool (decide (s < 0)), .slice A5 (natL s.natAbs).length c5] 24))
  have p_p := ((Pair.new x5 24 (.bool (decide (p < 0))) (.slice A4 (natL p.natAbs).length c4)).alloc (.cells #[.bool (decide (s < 0)), .slice A5 (natL s.natAbs).length c5] 24))
  have p_sm := (Pair.new (x5.alloc (.cells #[.bool (decide (p < 0)), .slice A4 (natL p.natAbs).length c4] 24)) 24 (.bool (decide (s < 0))) (.slice A5 (natL s.natAbs).length c5))
  simp only [World.size_alloc] at p_sm
  obtain ⟨y6, E⟩ : ∃ W, W = ((x5.alloc (.cells #[.bool (decide (p < 0)), .slice A4 (natL p.natAbs).length c4] 24)).alloc (.cells #[.bool (decide (s < 0)), .slice A5 (natL s.natAbs).length c5] 24)) := ⟨_, rfl⟩
  rw [← E] at ha p_p p_sm ⊢
  have V_p := Lib.hid (NV.of R_p.out ha p_p)
  have V_sm := Lib.hid (NV.of R_sm.out ha p_sm)
  have V_n := Lib.hid (V_n.out.below ha)
  have V_d := Lib.hid (V_d.out.below ha)
  have V_g := Lib.hid (V_g.out.below ha)
  have V_q := Lib.hid (V_q.out.below ha)
  have P_r0 := Lib.hid (P_r0.out.below ha)
  have O_q := Lib.hid (O_q.out.below ha)
  have O_p := Lib.hid (O_p.out.below ha)
  have HBW := Lib.hid (belowTo HBW.out ha)
  obtain ⟨g6, hg⟩ : ∃ g, g = x5.heap.size := ⟨_, rfl⟩
  rw [← hg] at V_p V_sm ⊢
  clear E ha hg p_p p_sm
  clear V_sm
  have hsn := HSN.out
  obtain ⟨l_p, a_p, b_p, -, -⟩ := V_p.out.pair.facts
  go_wp2_with fail
  refine (rsign p sg A4 c4 y6 V_p.out.raw HSG.out).mono ?_
  rintro e x7 ⟨rfl, hb⟩
  clear l_p a_p b_p
  have V_n := Lib.hid (V_n.out.below hb)
  have V_d := Lib.hid (V_d.out.below hb)
  have V_g := Lib.hid (V_g.out.below hb)
  have V_q := Lib.hid (V_q.out.below hb)
  have V_p := Lib.hid (V_p.out.below hb)
  have P_r0 := Lib.hid (P_r0.out.below hb)
  have O_q := Lib.hid (O_q.out.below hb)
  have O_p := Lib.hid (O_p.out.below hb)
  have HBW := Lib.hid (belowTo HBW.out hb)
  clear hb
  go_upto_region 5 with fail
  clear hsn
  go_wp2_with fail
  refine wp_region_free [.val (.agg #[.bool (decide (q < 0)), .slice A2 (natL q.natAbs).length c2]) [], .any false (fun u V => IntOwn V 0 u q') [], .val (.agg #[.bool (decide (p < 0)), .slice A4 (natL p.natAbs).length c4]) [], .any false (fun u V => IntOwn V 0 u p') [], .any false (fun u V => FracIn V 0 u q' p') [1, 3], .old (w.heap.size + 1 + 1) 30 #[.bool false, .slice none 0 0, .bool false, .slice none 0 0] 0 4 4 []] (w.heap.size + 1 + 1) x7 [30] (fun _ _ => False) _ mixedOrders2 (by have := P_r0.out.blk.lt; omega) (Below.refl _ _) (KeptV.refl _ _ _) rfl (by kernel_rfl) (by kernel_rfl) (by kernel_rfl) (by kernel_rfl) (by kernel_rfl) (by kernel_rfl) (by kernel_rfl) (by kernel_rfl) rfl (by simp [oldsF]) ?_ ?_ ?_ ?_
  · simp only [StableF, and_true]
    exact ⟨fun u V V' h k => h.kept k (by decide), fun u V V' h k => h.kept k (by decide), fun u V V' h k => h.kept k (by decide)⟩
  · simp only [OldsF, and_true]
    exact ⟨Nat.le_refl _, P_r0.out.blk.lt, P_r0.out.blk, by simp⟩
  · simp (maxSteps := 4000000) [StepsF, DepF, freeAct, fill, pairs]
    repeat' (first | apply And.intro | (intro (u : Value)) | (intro (u : Nat)))
    all_goals try exact ⟨_, _, _, rfl, rfl, rfl, rfl, fracInfo⟩
    all_goals first
    | (intro V hV hK
       obtain ⟨-, a_q, b_q, -, -⟩ := (Pair.mk (hK.blk V_q.out.pair.blk (by decide))).facts
       obtain ⟨-, a_p, b_p, -, -⟩ := (Pair.mk (hK.blk V_p.out.pair.blk (by decide))).facts
       have rq := Lib.hid (O_q.out.kept hK (by decide)).rawAt
       have rp := Lib.hid (O_p.out.kept hK (by decide)).rawAt
       clear hV hK
       go_simp
       first
       | exact Below.refl _ _
       | ((with_reducible refine (rturned q q' A2 c2 V rq.out (by omega) HN1.out).mono ?_); rintro e w' ⟨v, rfl, hv, hb⟩; exact ⟨hv.base (Nat.zero_le _), hb⟩)
       | ((with_reducible refine (rturned p p' A4 c4 V rp.out (by omega) HN2.out).mono ?_); rintro e w' ⟨v, rfl, hv, hb⟩; exact ⟨hv.base (Nat.zero_le _), hb⟩))
    | (intro V hV hK h1 h2
       obtain ⟨A6, c6, rfl, -⟩ := h1.raw
       obtain ⟨A7, c7, rfl, -⟩ := h2.raw
       clear hV hK
       go_simp
       exact ⟨⟨_, _, _, _, rfl, h1, h2⟩, Below.refl _ _⟩)
    | exact fun _ _ _ (h : FracIn _ _ _ _ _) => h.cells
  · simp [EndF, FactsF, freeAct, fill, pairs]
    intro u1 u2 u3 V hV hK h1 h2 h3 bq _ _ _
    have HF := Lib.hid h3.at_
    obtain ⟨A6, c6, A7, c7, rfl, -⟩ := h3.form
    simp [setAll, Value.cells] at bq
    have k0 := bq.cell 0
    have k1 := bq.cell 1
    have k2 := bq.cell 2
    have k3 := bq.cell 3
    simp at k0 k1 k2 k3
    have HB9 := Lib.hid (HBW.out.trans (hV.mono (by omega)))
    clear h1 h2 h3 hV hK bq
    go_wp2_with fail
    exact bodyPost_ret (by simp [results, Tryz.results64, go_sem, k0, k1, k2, k3]) rfl ⟨.agg #[.bool (decide (q' < 0)), .slice A6 (natL q'.natAbs).length c6, .bool (decide (p' < 0)), .slice A7 (natL p'.natAbs).length c7], rfl, by rw [HLN.out.1, HLN.out.2]; exact HF.out, HB9.out⟩

set_option maxRecDepth 100000 in
set_option maxHeartbeats 4000000 in
theorem lowest02_pos (n d : Int) (A B : Option Addr) (c e0 : Nat) (w : World) (h_n : Raw w A c (natL n.natAbs)) (h_d : Raw w B e0 (natL d.natAbs)) (hn : lz n ≤ 30000) (hd : lz d ≤ 30000) (hd0 : d ≠ 0) (hs0 : ¬ d < 0) :
    Calls Tryz.prog 64 #[.agg #[.bool (decide (n < 0)), .slice A (natL n.natAbs).length c], .agg #[.bool (decide (d < 0)), .slice B (natL d.natAbs).length e0]] w (RetFrac w (lowN n d) (lowD n d)) := by
  obtain ⟨g, hg⟩ : ∃ k : Int, k = gcdZ n d := ⟨_, rfl⟩
  obtain ⟨q, hq⟩ : ∃ k : Int, k = n.tdiv g := ⟨_, rfl⟩
  obtain ⟨r, hr⟩ : ∃ k : Int, k = n.tmod g := ⟨_, rfl⟩
  obtain ⟨p, hp⟩ : ∃ k : Int, k = d.tdiv g := ⟨_, rfl⟩
  obtain ⟨s, hs⟩ : ∃ k : Int, k = d.tmod g := ⟨_, rfl⟩
  obtain ⟨q', hq'⟩ : ∃ k : Int, k = -q := ⟨_, rfl⟩
  obtain ⟨p', hp'⟩ : ∃ k : Int, k = -p := ⟨_, rfl⟩
  have hgp := gcdZ_pos (n := n) hd0
  have hgl := gcdZ_lz (n := n) hd0
  rw [← hg] at hgp hgl
  have hql : lz q ≤ lz n := by rw [hq]; exact tdiv_lz n g
  have hpl : lz p ≤ lz d := by rw [hp]; exact tdiv_lz d g
  have hps : p.sign = d.sign := by rw [hp, hg]; exact tdiv_sign hd0
  obtain ⟨sg, hsg⟩ : ∃ k : Int, k = p.sign := ⟨_, rfl⟩
  have HSG := Lib.hid hsg
  have HSN := Lib.hid (show decide (sg < 0) = false from by
    rw [hsg, hps]
    exact decide_eq_false (by have := sign_cases d; omega))
  have HG := Lib.hid hg
  have HG0 := Lib.hid (show g ≠ 0 from by omega)
  have HQ := Lib.hid (And.intro hq hr)
  have HP := Lib.hid (And.intro hp hs)
  have HN1 := Lib.hid hq'
  have HN2 := Lib.hid hp'
  have HLN := Lib.hid (show lowN n d = q ∧ lowD n d = p from by
    unfold lowN lowD
    rw [if_neg hs0, if_neg hs0, ← hg, ← hq, ← hp]
    exact ⟨rfl, rfl⟩)
  clear hg hq hr hp hs hq' hp' hs0 hsg hps hd0
  have b0 := ((((Below.refl w.heap.size w).alloc (Nat.le_refl _) (.cells #[.bool (decide (n < 0)), .slice A (natL n.natAbs).length c] 24)).alloc (by simp) (.cells #[.bool (decide (d < 0)), .slice B (natL d.natAbs).length e0] 24)).alloc (by simp; omega) (.cells #[.bool false, .slice none 0 0, .bool false, .slice none 0 0] 30))
  have p0 := ((Pair.new w 24 (.bool (decide (n < 0))) (.slice A (natL n.natAbs).length c)).alloc (.cells #[.bool (decide (d < 0)), .slice B (natL d.natAbs).length e0] 24)).alloc (.cells #[.bool false, .slice none 0 0, .bool false, .slice none 0 0] 30)
  have p1 := (Pair.new (w.alloc (.cells #[.bool (decide (n < 0)), .slice A (natL n.natAbs).length c] 24)) 24 (.bool (decide (d < 0))) (.slice B (natL d.natAbs).length e0)).alloc (.cells #[.bool false, .slice none 0 0, .bool false, .slice none 0 0] 30)
  have p2 := Quad.new ((w.alloc (.cells #[.bool (decide (n < 0)), .slice A (natL n.natAbs).length c] 24)).alloc (.cells #[.bool (decide (d < 0)), .slice B (natL d.natAbs).length e0] 24)) (.bool false) (.slice none 0 0) (.bool false) (.slice none 0 0)
  simp only [World.size_alloc] at p1 p2
  have V_n := Lib.hid (NV.of h_n b0 p0)
  have V_d := Lib.hid (NV.of h_d b0 p1)
  have P_r0 := Lib.hid p2
  have RW_n := Lib.hid h_n
  have RW_d := Lib.hid h_d
  have HBW := Lib.hid b0
  clear b0 p0 p1 p2 h_n h_d
  go_enter Tryz.func64, Tryz.ntmps64
  obtain ⟨W, E⟩ : ∃ W, W = (((w.alloc (.cells #[.bool (decide (n < 0)), .slice A (natL n.natAbs).length c] 24)).alloc (.cells #[.bool (decide (d < 0)), .slice B (natL d.natAbs).length e0] 24)).alloc (.cells #[.bool false, .slice none 0 0, .bool false, .slice none 0 0] 30)) := ⟨_, rfl⟩
  go_upto_region 1 with fail
  rw [← E] at V_n V_d P_r0 HBW ⊢
  clear E
  have hsz := P_r0.out.blk.lt
  obtain ⟨l_n, a_n, b_n, -, -⟩ := V_n.out.pair.facts
  obtain ⟨l_d, a_d, b_d, -, -⟩ := V_d.out.pair.facts
  go_wp2_with fail
  refine (common02 n d A B c e0 W V_n.out.raw V_d.out.raw (by omega) (by omega)).mono ?_
  rintro e x1 ⟨v, rfl, hI, hb⟩
  rw [← HG.out] at hI
  obtain ⟨A1, c1, rfl, r1⟩ := hI.form
  clear hI
  clear l_n a_n b_n l_d a_d b_d
  have V_n := Lib.hid (V_n.out.below hb)
  have V_d := Lib.hid (V_d.out.below hb)
  have P_r0 := Lib.hid (P_r0.out.below hb)
  have HBW := Lib.hid (belowTo HBW.out hb)
  have R_g := Lib.hid r1
  clear hb r1
  go_upto_region 2 with fail
  have ha := ((Below.refl x1.heap.size x1).alloc (Nat.le_refl _) (.cells #[.bool (decide (g < 0)), .slice A1 (natL g.natAbs).length c1] 24))
  have p_g := (Pair.new x1 24 (.bool (decide (g < 0))) (.slice A1 (natL g.natAbs).length c1))
  obtain ⟨y2, E⟩ : ∃ W, W = (x1.alloc (.cells #[.bool (decide (g < 0)), .slice A1 (natL g.natAbs).length c1] 24)) := ⟨_, rfl⟩
  rw [← E] at ha p_g ⊢
  have V_g := Lib.hid (NV.of R_g.out ha p_g)
  have V_n := Lib.hid (V_n.out.below ha)
  have V_d := Lib.hid (V_d.out.below ha)
  have P_r0 := Lib.hid (P_r0.out.below ha)
  have HBW := Lib.hid (belowTo HBW.out ha)
  obtain ⟨g2, hg⟩ : ∃ g, g = x1.heap.size := ⟨_, rfl⟩
  rw [← hg] at V_g ⊢
  clear E ha hg p_g
  obtain ⟨l_n, a_n, b_n, -, -⟩ := V_n.out.pair.facts
  obtain ⟨l_g, a_g, b_g, -, -⟩ := V_g.out.pair.facts
  go_wp2_with fail
  refine (rdivide n g q r A A1 c c1 y2 V_n.out.raw V_g.out.raw (by omega) (by omega) HG0.out HQ.out.1 HQ.out.2).mono ?_
  rintro e x3 ⟨v1, v2, rfl, hI1, hI2, hb⟩
  obtain ⟨A2, c2, rfl, r2⟩ := hI1.raw
  obtain ⟨A3, c3, rfl, r3⟩ := hI2.raw
  clear l_n a_n b_n l_g a_g b_g
  have V_n := Lib.hid (V_n.out.below hb)
  have V_d := Lib.hid (V_d.out.below hb)
  have V_g := Lib.hid (V_g.out.below hb)
  have P_r0 := Lib.hid (P_r0.out.below hb)
  have HBW := Lib.hid (belowTo HBW.out hb)
  have R_q := Lib.hid r2
  have R_rm := Lib.hid r3
  have O_q := Lib.hid (hI1.base (Nat.zero_le _))
  clear hb hI1 hI2 r2 r3
  go_upto_region 3 with fail
  have ha := (((Below.refl x3.heap.size x3).alloc (Nat.le_refl _) (.cells #[.bool (decide (q < 0)), .slice A2 (natL q.natAbs).length c2] 24)).alloc (by simp) (.cells #[.bool (decide (r < 0)), .slice A3 (natL r.natAbs).length c3] 24))
  have p_q := ((Pair.new x3 24 (.bool (decide (q < 0))) (.slice A2 (natL q.natAbs).length c2)).alloc (.cells #[.bool (decide (r < 0)), .slice A3 (natL r.natAbs).length c3] 24))
  have p_rm := (Pair.new (x3.alloc (.cells #[.bool (decide (q < 0)), .slice A2 (natL q.natAbs).length c2] 24)) 24 (.bool (decide (r < 0))) (.slice A3 (natL r.natAbs).length c3))
  simp only [World.size_alloc] at p_rm
  obtain ⟨y4, E⟩ : ∃ W, W = ((x3.alloc (.cells #[.bool (decide (q < 0)), .slice A2 (natL q.natAbs).length c2] 24)).alloc (.cells #[.bool (decide (r < 0)), .slice A3 (natL r.natAbs).length c3] 24)) := ⟨_, rfl⟩
  rw [← E] at ha p_q p_rm ⊢
  have V_q := Lib.hid (NV.of R_q.out ha p_q)
  have V_rm := Lib.hid (NV.of R_rm.out ha p_rm)
  have V_n := Lib.hid (V_n.out.below ha)
  have V_d := Lib.hid (V_d.out.below ha)
  have V_g := Lib.hid (V_g.out.below ha)
  have P_r0 := Lib.hid (P_r0.out.below ha)
  have O_q := Lib.hid (O_q.out.below ha)
  have HBW := Lib.hid (belowTo HBW.out ha)
  obtain ⟨g4, hg⟩ : ∃ g, g = x3.heap.size := ⟨_, rfl⟩
  rw [← hg] at V_q V_rm ⊢
  clear E ha hg p_q p_rm
  clear V_rm
  obtain ⟨l_d, a_d, b_d, -, -⟩ := V_d.out.pair.facts
  obtain ⟨l_g, a_g, b_g, -, -⟩ := V_g.out.pair.facts
  go_wp2_with fail
  refine (rdivide d g p s B A1 e0 c1 y4 V_d.out.raw V_g.out.raw (by omega) (by omega) HG0.out HP.out.1 HP.out.2).mono ?_
  rintro e x5 ⟨v1, v2, rfl, hI1, hI2, hb⟩
  obtain ⟨A4, c4, rfl, r2⟩ := hI1.raw
  obtain ⟨A5, c5, rfl, r3⟩ := hI2.raw
  clear l_d a_d b_d l_g a_g b_g
  have V_n := Lib.hid (V_n.out.below hb)
  have V_d := Lib.hid (V_d.out.below hb)
  have V_g := Lib.hid (V_g.out.below hb)
  have V_q := Lib.hid (V_q.out.below hb)
  have P_r0 := Lib.hid (P_r0.out.below hb)
  have O_q := Lib.hid (O_q.out.below hb)
  have HBW := Lib.hid (belowTo HBW.out hb)
  have R_p := Lib.hid r2
  have R_sm := Lib.hid r3
  have O_p := Lib.hid (hI1.base (Nat.zero_le _))
  clear hb hI1 hI2 r2 r3
  go_upto_region 4 with fail
  have ha := (((Below.refl x5.heap.size x5).alloc (Nat.le_refl _) (.cells #[.bool (decide (p < 0)), .slice A4 (natL p.natAbs).length c4] 24)).alloc (by simp) (.cells #[.bool (decide (s < 0)), .slice A5 (natL s.natAbs).length c5] 24))
  have p_p := ((Pair.new x5 24 (.bool (decide (p < 0))) (.slice A4 (natL p.natAbs).length c4)).alloc (.cells #[.bool (decide (s < 0)), .slice A5 (natL s.natAbs).length c5] 24))
  have p_sm := (Pair.new (x5.alloc (.cells #[.bool (decide (p < 0)), .slice A4 (natL p.natAbs).length c4] 24)) 24 (.bool (decide (s < 0))) (.slice A5 (natL s.natAbs).length c5))
  simp only [World.size_alloc] at p_sm
  obtain ⟨y6, E⟩ : ∃ W, W = ((x5.alloc (.cells #[.bool (decide (p < 0)), .slice A4 (natL p.natAbs).length c4] 24)).alloc (.cells #[.bool (decide (s < 0)), .slice A5 (natL s.natAbs).length c5] 24)) := ⟨_, rfl⟩
  rw [← E] at ha p_p p_sm ⊢
  have V_p := Lib.hid (NV.of R_p.out ha p_p)
  have V_sm := Lib.hid (NV.of R_sm.out ha p_sm)
  have V_n := Lib.hid (V_n.out.below ha)
  have V_d := Lib.hid (V_d.out.below ha)
  have V_g := Lib.hid (V_g.out.below ha)
  have V_q := Lib.hid (V_q.out.below ha)
  have P_r0 := Lib.hid (P_r0.out.below ha)
  have O_q := Lib.hid (O_q.out.below ha)
  have O_p := Lib.hid (O_p.out.below ha)
  have HBW := Lib.hid (belowTo HBW.out ha)
  obtain ⟨g6, hg⟩ : ∃ g, g = x5.heap.size := ⟨_, rfl⟩
  rw [← hg] at V_p V_sm ⊢
  clear E ha hg p_p p_sm
  clear V_sm
  have hsn := HSN.out
  obtain ⟨l_p, a_p, b_p, -, -⟩ := V_p.out.pair.facts
  go_wp2_with fail
  refine (rsign p sg A4 c4 y6 V_p.out.raw HSG.out).mono ?_
  rintro e x7 ⟨rfl, hb⟩
  clear l_p a_p b_p
  have V_n := Lib.hid (V_n.out.below hb)
  have V_d := Lib.hid (V_d.out.below hb)
  have V_g := Lib.hid (V_g.out.below hb)
  have V_q := Lib.hid (V_q.out.below hb)
  have V_p := Lib.hid (V_p.out.below hb)
  have P_r0 := Lib.hid (P_r0.out.below hb)
  have O_q := Lib.hid (O_q.out.below hb)
  have O_p := Lib.hid (O_p.out.below hb)
  have HBW := Lib.hid (belowTo HBW.out hb)
  clear hb
  go_upto_region 6 with fail
  clear hsn
  obtain ⟨l_q, a_q, b_q, -, -⟩ := V_q.out.pair.facts
  obtain ⟨l_p, a_p, b_p, -, -⟩ := V_p.out.pair.facts
  obtain ⟨l_r, c_r0, c_r1, c_r2, c_r3, f_r0, f_r1, f_r2, f_r3⟩ := P_r0.out.facts
  have HQ9 := Lib.hid (P_r0.out.store (.bool (decide (q < 0))) (.slice A2 (natL q.natAbs).length c2) (.bool (decide (p < 0))) (.slice A4 (natL p.natAbs).length c4))
  have HB9 := Lib.hid (below4 HBW.out (show w.heap.size ≤ w.heap.size + 1 + 1 by omega) (.bool (decide (q < 0))) (.slice A2 (natL q.natAbs).length c2) (.bool (decide (p < 0))) (.slice A4 (natL p.natAbs).length c4))
  have HF := Lib.hid (show FracAt ((((x7.setCell ⟨w.heap.size + 1 + 1, 0, none⟩ (.bool (decide (q < 0)))).setCell ⟨w.heap.size + 1 + 1, 1, none⟩ (.slice A2 (natL q.natAbs).length c2)).setCell ⟨w.heap.size + 1 + 1, 2, none⟩ (.bool (decide (p < 0)))).setCell ⟨w.heap.size + 1 + 1, 3, none⟩ (.slice A4 (natL p.natAbs).length c4)) (.agg #[.bool (decide (q < 0)), .slice A2 (natL q.natAbs).length c2, .bool (decide (p < 0)), .slice A4 (natL p.natAbs).length c4]) q p from ⟨_, _, _, _, rfl, V_q.out.raw.quad P_r0.out _ _ _ _, V_p.out.raw.quad P_r0.out _ _ _ _⟩)
  go_wp2_with fail
  obtain ⟨_, k0, k1, k2, k3, _⟩ := HQ9.out.facts
  exact bodyPost_ret (by simp [results, Tryz.results64, go_sem, k0, k1, k2, k3]) rfl ⟨.agg #[.bool (decide (q < 0)), .slice A2 (natL q.natAbs).length c2, .bool (decide (p < 0)), .slice A4 (natL p.natAbs).length c4], rfl, by rw [HLN.out.1, HLN.out.2]; exact HF.out, HB9.out⟩

theorem lowest02 (n d : Int) (A B : Option Addr) (c e0 : Nat) (w : World) (h : Raw w A c (natL n.natAbs)) (g : Raw w B e0 (natL d.natAbs)) (hn : lz n ≤ 30000) (hd : lz d ≤ 30000) (hd0 : d ≠ 0) :
    Calls Tryz.prog 64 #[.agg #[.bool (decide (n < 0)), .slice A (natL n.natAbs).length c], .agg #[.bool (decide (d < 0)), .slice B (natL d.natAbs).length e0]] w (RetFrac w (lowN n d) (lowD n d)) := by
  by_cases hs : d < 0
  · exact lowest02_neg n d A B c e0 w h g hn hd hd0 hs
  · exact lowest02_pos n d A B c e0 w h g hn hd hd0 hs
end Go.Proofs.YtadmoheohmbieaaGreatDoor

/- turned of package ratio: a number times -1. (Written by wip/frac/genturned.py.) -/
namespace Go.Proofs.YtadmoheohmbieaaGreatDoor
open Go.RowKit

set_option maxRecDepth 100000 in
set_option maxHeartbeats 2000000 in
theorem eturned (x z : Int) (A : Option Addr) (c : Nat) (w : World) (h_x : Raw w A c (natL x.natAbs)) (hx : lz x ≤ 400000000) (hz : z = -x) :
    Calls Tryz.prog 158 #[.agg #[.bool (decide (x < 0)), .slice A (natL x.natAbs).length c]] w (RetInt w.heap.size w z) := by
  obtain ⟨n0, hn0⟩ : ∃ k : Int, k = 0 := ⟨_, rfl⟩
  have H0 := Lib.hid hn0
  have HZ := Lib.hid (show z = n0 - x from by rw [hz, hn0]; omega)
  have hl0 : lz n0 ≤ 400000000 := by rw [hn0]; decide
  clear hz hn0
  have b0 := (((Below.refl w.heap.size w).alloc (Nat.le_refl _) (.cells #[.bool (decide (x < 0)), .slice A (natL x.natAbs).length c] 24)).alloc (by simp) (.cells #[.bool false, .slice none 0 0] 24))
  have p0 := (Pair.new w 24 (.bool (decide (x < 0))) (.slice A (natL x.natAbs).length c)).alloc (.cells #[.bool false, .slice none 0 0] 24)
  have p1 := Pair.new (w.alloc (.cells #[.bool (decide (x < 0)), .slice A (natL x.natAbs).length c] 24)) 24 (.bool false) (.slice none 0 0)
  simp only [World.size_alloc] at p1
  have V_x := Lib.hid (NV.of h_x b0 p0)
  have P_r0 := Lib.hid p1
  have RW_x := Lib.hid h_x
  have HBW := Lib.hid b0
  clear b0 p0 p1 h_x
  go_enter Tryz.func158, Tryz.ntmps158
  obtain ⟨W, E⟩ : ∃ W, W = ((w.alloc (.cells #[.bool (decide (x < 0)), .slice A (natL x.natAbs).length c] 24)).alloc (.cells #[.bool false, .slice none 0 0] 24)) := ⟨_, rfl⟩
  go_upto_region 1 with fail
  rw [← E] at V_x P_r0 HBW ⊢
  clear E
  have hsz := P_r0.out.blk.lt
  go_wp2_with fail
  refine wp_region_free [.any false (fun u V => IntOwn V 0 u n0) [], .val (.agg #[.bool (decide (x < 0)), .slice A (natL x.natAbs).length c]) [], .any false (fun u V => IntOwn V w.heap.size u z) [0], .old (w.heap.size + 1) 24 #[.bool false, .slice none 0 0] 0 2 2 []] (w.heap.size + 1) W [24] (fun _ _ => False) _ mixedOrders2 (by omega) (Below.refl _ _) (KeptV.refl _ _ _) rfl (by kernel_rfl) (by kernel_rfl) (by kernel_rfl) (by kernel_rfl) (by kernel_rfl) (by kernel_rfl) (by kernel_rfl) (by kernel_rfl) rfl (by simp [oldsF]) ?_ ?_ ?_ ?_
  · simp only [StableF, and_true]
    exact ⟨fun u V V' h k => h.kept k (by decide), fun u V V' h k => h.kept k (by decide)⟩
  · simp only [OldsF, and_true]
    exact ⟨Nat.le_refl _, by omega, P_r0.out.blk, by simp⟩
  · simp (maxSteps := 4000000) [StepsF, DepF, freeAct, fill, pairs]
    repeat' (first | apply And.intro | (intro (u : Value)) | (intro (u : Nat)))
    all_goals try exact ⟨_, _, _, rfl, rfl, rfl, rfl, intInfo⟩
    all_goals first
    | (intro V hV hK
       have px := V_x.out.pair.blk.below hV (Nat.lt_succ_self _)
       obtain ⟨-, a_x, b_x, -, -⟩ := (Pair.mk px).facts
       clear hV hK px
       go_simp
       first
       | exact Below.refl _ _
       | ((with_reducible refine (eof 0 n0 H0.out (by decide) (by decide) V).mono ?_); rintro e w' ⟨v, rfl, hv, hb⟩; exact ⟨hv.base (Nat.zero_le _), hb⟩))
    | (intro V hV hK hu
       obtain ⟨A', c', rfl, hr⟩ := hu.raw
       have r2 := Lib.hid hr
       have rx := Lib.hid (RW_x.out.below (HBW.out.trans (hV.mono (by omega))))
       have hvs : w.heap.size ≤ V.heap.size := by have := hK.size; omega
       clear hV hK hu hr
       go_simp
       (with_reducible refine (eminus n0 x z A' A c' c V r2.out rx.out (by omega) (by omega) HZ.out).mono ?_)
       rintro e w' ⟨v, rfl, hv, hb⟩
       exact ⟨hv.base hvs, hb⟩)
    | exact fun _ _ _ (h : IntOwn _ _ _ _) => h.cells
  · simp [EndF, FactsF, freeAct, fill, pairs]
    intro u1 u2 V hV hK h1 h2 bq _ _ _
    obtain ⟨A2, c2, rfl, -⟩ := h2.raw
    simp [setAll, Value.cells] at bq
    have k0 := bq.cell 0
    have k1 := bq.cell 1
    simp at k0 k1
    have HO := Lib.hid h2
    have HB := Lib.hid (HBW.out.trans (hV.mono (by omega)))
    clear h1 h2 hV hK bq
    go_wp2_with fail
    exact bodyPost_ret (by simp [results, Tryz.results158, go_sem, k0, k1]) rfl ⟨_, rfl, HO.out, HB.out⟩
end Go.Proofs.YtadmoheohmbieaaGreatDoor
