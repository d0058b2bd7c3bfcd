/- Several texts in one: LowestOwn, Trees, FChecks, Builder, DecLaw. -/
import Derived.Test.YtmcnmoljliggfaaGreatDoorBt18
import Derived.Lib.Builder
import Derived.Lib.AppendStr
import Derived.Lib.Slices
import Derived.Lib.Walk
import Derived.Lib.Strings
import Derived.Laws.Externs
import Derived.Lib.ItoaNum
set_option maxRecDepth 100000
set_option maxHeartbeats 8000000
/- Lowest of package ratio over numbers of the call's own; Lowest of the references. (Written by wip/frac/genlowestown.py.) -/
namespace Go.Proofs.YtmcnmoljliggfaaGreatDoor
open Go.RowKit

def RetFracIn (w : World) (n d : Int) (e : Ending) (w' : World) : Prop := ∃ v, e = .returned v ∧ FracIn w' 0 v n d ∧ Below w.heap.size w w'
theorem IntOwn.quad {w : World} {base g : Nat} {v' a b c d : Value} {n : Int} (hi : IntOwn w base v' n) (q : Quad w g a b c d) (x y z u : Value) : IntOwn ((((w.setCell ⟨g, 0, none⟩ x).setCell ⟨g, 1, none⟩ y).setCell ⟨g, 2, none⟩ z).setCell ⟨g, 3, none⟩ u) base v' n := by
  obtain ⟨A', c', a1, a2, a3, a4⟩ := hi.form
  have hne := own_blk_ne a4 q.blk (by decide)
  refine ⟨A', c', a1, a2, a3, a4.1, ?_⟩
  rcases a4.2 with p | ⟨g', cap, cur, p1, p2, p3, p4⟩
  · exact .inl p
  · refine .inr ⟨g', cap, cur, p1, p2, ?_, p4⟩
    have hg : g' ≠ g := fun e => by
      rw [p1] at hne
      exact hne (by simp [Value.ownBlock, e])
    rw [Below.heap_setCell _ ⟨g, 3, none⟩ u g' hg, Below.heap_setCell _ ⟨g, 2, none⟩ z g' hg, Below.heap_setCell _ ⟨g, 1, none⟩ y g' hg, Below.heap_setCell _ ⟨g, 0, none⟩ x g' hg]
    exact p3

theorem elow_one_neg (n d : Int) (A B : Option Addr) (c e0 : Nat) (w : World) (h_n : Raw w A c (natL n.natAbs)) (h_d : Raw w B e0 (natL d.natAbs)) (o_n : IntOwn w 0 (.agg #[.bool (decide (n < 0)), .slice A (natL n.natAbs).length c]) n) (o_d : IntOwn w 0 (.agg #[.bool (decide (d < 0)), .slice B (natL d.natAbs).length e0]) d) (hn : lz n ≤ 400000000) (hd : lz d ≤ 400000000) (hd0 : d ≠ 0) (hs0 : d < 0) (hgc : gcdZ n d = 1) :
    Calls Tryz.prog 95 #[.agg #[.bool (decide (n < 0)), .slice A (natL n.natAbs).length c], .agg #[.bool (decide (d < 0)), .slice B (natL d.natAbs).length e0]] w (RetFracIn w (lowN n d) (lowD n d)) := by
  obtain ⟨g, hg⟩ : ∃ k : Int, k = gcdZ n d := ⟨_, rfl⟩
  obtain ⟨one, hone⟩ : ∃ k : Int, k = 1 := ⟨_, rfl⟩
  obtain ⟨q, hq⟩ : ∃ k : Int, k = n.tdiv g := ⟨_, rfl⟩
  obtain ⟨r, hr⟩ : ∃ k : Int, k = n.tmod g := ⟨_, rfl⟩
  obtain ⟨p, hp⟩ : ∃ k : Int, k = d.tdiv g := ⟨_, rfl⟩
  obtain ⟨s, hs⟩ : ∃ k : Int, k = d.tmod g := ⟨_, rfl⟩
  obtain ⟨q', hq'⟩ : ∃ k : Int, k = -q := ⟨_, rfl⟩
  obtain ⟨p', hp'⟩ : ∃ k : Int, k = -p := ⟨_, rfl⟩
  have hgp := gcdZ_pos (n := n) hd0
  have hgl := gcdZ_lz (n := n) hd0
  rw [← hg] at hgp hgl hgc
  have hql : lz q ≤ lz n := by rw [hq]; exact tdiv_lz n g
  have hpl : lz p ≤ lz d := by rw [hp]; exact tdiv_lz d g
  have hps : p.sign = d.sign := by rw [hp, hg]; exact tdiv_sign hd0
  have hol : lz one ≤ 2 := by rw [hone]; decide
  obtain ⟨sg, hsg⟩ : ∃ k : Int, k = p.sign := ⟨_, rfl⟩
  have HSG := Hd hsg
  have HSN := Hd (show decide (sg < 0) = true from by
    rw [hsg, hps]
    exact decide_eq_true (by rw [Int.sign_eq_neg_one_of_neg hs0]; decide))
  have HG := Hd (show g = ((Nat.gcd n.natAbs d.natAbs : Nat) : Int) from hg)
  have H1 := Hd hone
  have HG0 := Hd (show g ≠ 0 from by omega)
  have HQ := Hd (And.intro hq hr)
  have HP := Hd (And.intro hp hs)
  have HN1 := Hd hq'
  have HN2 := Hd hp'
  have HK := Hd (show (0 : Int) = cmpz g one from by rw [hone]; rw [hgc]; decide)
  have HLN := Hd (show lowN n d = q' ∧ lowD n d = p' from by
    unfold lowN lowD
    rw [if_pos hs0, if_pos hs0, ← hg, ← hq, ← hp, hq', hp']
    exact ⟨rfl, rfl⟩)
  have HQN := Hd (show q = n ∧ p = d from by rw [hq, hp, hgc]; exact ⟨Int.tdiv_one _, Int.tdiv_one _⟩)
  have OW_n := Hd o_n
  have OW_d := Hd o_d
  clear o_n o_d
  clear hgc hg hone hq hr hp hs hq' hp' hs0 hsg hps hd0
  have b0 := ((((Below.refl w.heap.size w).alloc (Nat.le_refl _) (.cells #[.bool (decide (n < 0)), .slice A (natL n.natAbs).length c] 25)).alloc (by simp) (.cells #[.bool (decide (d < 0)), .slice B (natL d.natAbs).length e0] 25)).alloc (by simp; omega) (.cells #[.bool false, .slice none 0 0, .bool false, .slice none 0 0] 27))
  have p0 := ((Pair.new w 25 (.bool (decide (n < 0))) (.slice A (natL n.natAbs).length c)).alloc (.cells #[.bool (decide (d < 0)), .slice B (natL d.natAbs).length e0] 25)).alloc (.cells #[.bool false, .slice none 0 0, .bool false, .slice none 0 0] 27)
  have p1 := (Pair.new (w.alloc (.cells #[.bool (decide (n < 0)), .slice A (natL n.natAbs).length c] 25)) 25 (.bool (decide (d < 0))) (.slice B (natL d.natAbs).length e0)).alloc (.cells #[.bool false, .slice none 0 0, .bool false, .slice none 0 0] 27)
  have p2 := Quad.new ((w.alloc (.cells #[.bool (decide (n < 0)), .slice A (natL n.natAbs).length c] 25)).alloc (.cells #[.bool (decide (d < 0)), .slice B (natL d.natAbs).length e0] 25)) (.bool false) (.slice none 0 0) (.bool false) (.slice none 0 0)
  simp only [World.size_alloc] at p1 p2
  have V_n := Hd (NV.of h_n b0 p0)
  have V_d := Hd (NV.of h_d b0 p1)
  have P_r0 := Hd p2
  have RW_n := Hd h_n
  have RW_d := Hd h_d
  have HBW := Hd b0
  clear b0 p0 p1 p2 h_n h_d
  go_enter Tryz.func95, Tryz.ntmps95
  obtain ⟨W, E⟩ : ∃ W, W = (((w.alloc (.cells #[.bool (decide (n < 0)), .slice A (natL n.natAbs).length c] 25)).alloc (.cells #[.bool (decide (d < 0)), .slice B (natL d.natAbs).length e0] 25)).alloc (.cells #[.bool false, .slice none 0 0, .bool false, .slice none 0 0] 27)) := ⟨_, rfl⟩
  go_upto_region 1 with fail
  rw [← E] at V_n V_d P_r0 HBW ⊢
  clear E
  have hsz := P_r0.out.blk.lt
  have O_n0 := Hd (OW_n.out.below HBW.out)
  have O_d0 := Hd (OW_d.out.below HBW.out)
  clear OW_n OW_d
  obtain ⟨l_n, a_n, b_n, -, -⟩ := V_n.out.pair.facts
  obtain ⟨l_d, a_d, b_d, -, -⟩ := V_d.out.pair.facts
  go_wp2_with fail
  refine (ecommon n d g A B c e0 W V_n.out.raw V_d.out.raw (by omega) (by omega) HG.out).mono ?_
  rintro e x1 ⟨v, rfl, hI, hb⟩
  obtain ⟨A1, c1, rfl, r1⟩ := hI.raw
  have hIg := hI.base (Nat.zero_le _)
  have hszg := hb.size
  clear l_n a_n b_n l_d a_d b_d
  have V_n := Hd (V_n.out.below hb)
  have V_d := Hd (V_d.out.below hb)
  have P_r0 := Hd (P_r0.out.below hb)
  have O_n0 := Hd (O_n0.out.below hb)
  have O_d0 := Hd (O_d0.out.below hb)
  have HBW := Hd (belowTo HBW.out hb)
  have R_g := Hd r1
  clear hb r1
  have O_g := Hd hIg
  clear hI hIg
  go_upto_region 2 with fail
  have ha := ((Below.refl x1.heap.size x1).alloc (Nat.le_refl _) (.cells #[.bool (decide (g < 0)), .slice A1 (natL g.natAbs).length c1] 25))
  have p_g := (Pair.new x1 25 (.bool (decide (g < 0))) (.slice A1 (natL g.natAbs).length c1))
  obtain ⟨y2, E⟩ : ∃ W, W = (x1.alloc (.cells #[.bool (decide (g < 0)), .slice A1 (natL g.natAbs).length c1] 25)) := ⟨_, rfl⟩
  rw [← E] at ha p_g ⊢
  have V_g := Hd (NV.of R_g.out ha p_g)
  have V_n := Hd (V_n.out.below ha)
  have V_d := Hd (V_d.out.below ha)
  have P_r0 := Hd (P_r0.out.below ha)
  have O_n0 := Hd (O_n0.out.below ha)
  have O_d0 := Hd (O_d0.out.below ha)
  have O_g := Hd (O_g.out.below ha)
  have HBW := Hd (belowTo HBW.out ha)
  obtain ⟨g2, hg⟩ : ∃ g, g = x1.heap.size := ⟨_, rfl⟩
  rw [← hg] at V_g ⊢
  have hge2 : x1.heap.size ≤ g2 := by omega
  clear E ha hg p_g
  go_wp2_with fail
  obtain ⟨W0, hW⟩ : ∃ W0, W0 = y2 := ⟨_, rfl⟩
  rw [← hW] at HBW P_r0 O_n0 O_d0 O_g V_n V_d V_g  ⊢
  clear hW
  refine wp_region_free [.val (.agg #[.bool (decide (g < 0)), .slice A1 (natL g.natAbs).length c1]) [], .any false (fun u0 V => IntAt V u0 one) [], .val (.int .i64 0) [1], .val (.bool false) []] W0.heap.size W0 [] (fun _ _ => False) _ mixedOrders2 (Nat.le_refl _) (Below.refl _ _) (KeptV.refl _ _ _) rfl (by kernel_rfl) (by kernel_rfl) (by kernel_rfl) (by kernel_rfl) (by kernel_rfl) (by kernel_rfl) (by kernel_rfl) (by kernel_rfl) rfl (by simp [oldsF]) ?_ ?_ ?_ ?_
  · simp only [StableF, and_true]
    exact fun u0 V V' h k => h.keptNone k
  · simp only [OldsF]
  · simp (maxSteps := 4000000) [StepsF, DepF, freeAct, fill, pairs]
    repeat' (first | apply And.intro | (intro (u0 : Value)))
    all_goals first
    | (intro V hV hK
       obtain ⟨-, a_g, b_g, -, -⟩ := (V_g.out.below hV).pair.facts
       have r_g := Hd (V_g.out.below hV).raw
       clear hV hK
       go_simp
       first
       | exact Below.refl _ _
       | exact ⟨by first | rfl | decide | go_num, Below.refl _ _⟩
       | ((with_reducible refine (eof 1 one H1.out (by decide) (by decide) V).mono ?_); rintro e w' ⟨v, rfl, hv, hb⟩; exact ⟨hv.at_, hb⟩))
    | (intro V hV hK hu
       obtain ⟨A', c', rfl, hr⟩ := hu.form
       have r_g := Hd (V_g.out.below hV).raw
       have r' := Hd hr
       clear hV hK hu hr
       go_simp
       (with_reducible refine (ecmp g one 0 A1 A' c1 c' V r_g.out r'.out (by omega) (by omega) HK.out).mono ?_)
       rintro e w' ⟨rfl, hb⟩
       exact ⟨rfl, hb⟩)
  · simp [EndF, FactsF, freeAct, fill, pairs]
    intro u1 V hV hK _ _ _ _
    have V_n := Hd (V_n.out.below hV)
    have V_d := Hd (V_d.out.below hV)
    have V_g := Hd (V_g.out.below hV)
    have P_r0 := Hd (P_r0.out.below hV)
    have O_n0 := Hd (O_n0.out.below hV)
    have O_d0 := Hd (O_d0.out.below hV)
    have O_g := Hd (O_g.out.below hV)
    have HBW := Hd (belowTo HBW.out hV)
    clear hV hK
    obtain ⟨v3, hV0⟩ : ∃ Y, Y = V := ⟨_, rfl⟩
    rw [← hV0] at HBW P_r0 O_n0 O_d0 O_g V_n V_d V_g  ⊢
    clear hV0
    obtain ⟨rfl, rfl⟩ := HQN.out
    have hsn := HSN.out
    obtain ⟨l_d, a_d, b_d, -, -⟩ := V_d.out.pair.facts
    go_wp2_with fail
    refine (esign p sg B e0 v3 V_d.out.raw HSG.out).mono ?_
    rintro e x4 ⟨rfl, hb⟩
    clear l_d a_d b_d
    have V_n := Hd (V_n.out.below hb)
    have V_d := Hd (V_d.out.below hb)
    have V_g := Hd (V_g.out.below hb)
    have P_r0 := Hd (P_r0.out.below hb)
    have O_n0 := Hd (O_n0.out.below hb)
    have O_d0 := Hd (O_d0.out.below hb)
    have O_g := Hd (O_g.out.below hb)
    have HBW := Hd (belowTo HBW.out hb)
    clear hb
    go_upto_region 6 with fail
    clear hsn
    go_wp2_with fail
    have hszz := P_r0.out.blk.lt
    refine wp_region_free [.val (.agg #[.bool (decide (q < 0)), .slice A (natL q.natAbs).length c]) [1004], .any false (fun u V => IntOwn V 0 u q') [], .val (.agg #[.bool (decide (p < 0)), .slice B (natL p.natAbs).length e0]) [1005], .any false (fun u V => IntOwn V 0 u p') [], .old (w.heap.size) 25 #[.bool (decide (q < 0)), .slice A (natL q.natAbs).length c] 0 2 1 [], .old (w.heap.size + 1) 25 #[.bool (decide (p < 0)), .slice B (natL p.natAbs).length e0] 0 2 3 []] w.heap.size x4 [25] (fun _ _ => False) _ mixedOrders2 (by omega) (Below.refl _ _) (KeptV.refl _ _ _) rfl (by kernel_rfl) (by kernel_rfl) (by kernel_rfl) (by kernel_rfl) (by kernel_rfl) (by kernel_rfl) (by kernel_rfl) (by kernel_rfl) rfl (by simp [oldsF]) ?_ ?_ ?_ ?_
    · simp only [StableF, and_true]
      exact ⟨fun u V V' h k => h.kept k (by decide), fun u V V' h k => h.kept k (by decide)⟩
    · simp only [OldsF, and_true]
      exact ⟨⟨by omega, by omega, V_n.out.pair.blk, by simp⟩, by omega, by omega, V_d.out.pair.blk, by simp⟩
    · simp (maxSteps := 4000000) [StepsF, DepF, freeAct, fill, pairs]
      repeat' (first | apply And.intro | (intro (u : Value)) | (intro (u : Nat)))
      all_goals try exact ⟨_, _, _, rfl, rfl, rfl, rfl, intInfo⟩
      all_goals first
      | (intro V hV hK hp
         obtain ⟨-, a_p, b_p, -, -⟩ := (Pair.mk hp).facts
         clear hV hK hp
         go_simp
         exact Below.refl _ _)
      | (intro V hV hK
         have rn := Hd ((O_n0.out.kept hK (by decide)).rawAt)
         have rd := Hd ((O_d0.out.kept hK (by decide)).rawAt)
         clear hV hK
         go_simp
         first
         | ((with_reducible refine (eturned q q' A c V rn.out (by omega) HN1.out).mono ?_); rintro e w' ⟨v, rfl, hv, hb⟩; exact ⟨hv.base (Nat.zero_le _), hb⟩)
         | ((with_reducible refine (eturned p p' B e0 V rd.out (by omega) HN2.out).mono ?_); rintro e w' ⟨v, rfl, hv, hb⟩; exact ⟨hv.base (Nat.zero_le _), hb⟩))
      | exact fun _ _ _ (h : IntOwn _ _ _ _) => h.cells
    · simp [EndF, FactsF, freeAct, fill, pairs]
      intro u1 u2 V hV hK h1 h2 p1 p2 _ _ _
      obtain ⟨A6, c6, rfl, r6⟩ := h1.raw
      obtain ⟨A7, c7, rfl, r7⟩ := h2.raw
      simp [setAll, Value.cells] at p1 p2
      have V_n := Hd (show NV V (w.heap.size) q' A6 c6 from ⟨⟨p1⟩, r6⟩)
      have V_d := Hd (show NV V (w.heap.size + 1) p' A7 c7 from ⟨⟨p2⟩, r7⟩)
      have HBW := Hd (HBW.out.trans hV)
      have P_r0 := Hd (show Quad V _ _ _ _ _ from ⟨hK.blk P_r0.out.blk (by decide)⟩)
      have O_n9 := Hd h1
      have O_d9 := Hd h2
      clear hV hK h1 h2 p1 p2 r6 r7
      obtain ⟨l_n, a_n, b_n, -, -⟩ := V_n.out.pair.facts
      obtain ⟨l_d, a_d, b_d, -, -⟩ := V_d.out.pair.facts
      obtain ⟨l_r, c_r0, c_r1, c_r2, c_r3, f_r0, f_r1, f_r2, f_r3⟩ := P_r0.out.facts
      have HQ9 := Hd (P_r0.out.store (.bool (decide (q' < 0))) (.slice A6 (natL q'.natAbs).length c6) (.bool (decide (p' < 0))) (.slice A7 (natL p'.natAbs).length c7))
      have HB9 := Hd (below4 HBW.out (show w.heap.size ≤ w.heap.size + 1 + 1 by omega) (.bool (decide (q' < 0))) (.slice A6 (natL q'.natAbs).length c6) (.bool (decide (p' < 0))) (.slice A7 (natL p'.natAbs).length c7))
      have HF := Hd (show FracIn ((((V.setCell ⟨w.heap.size + 1 + 1, 0, none⟩ (.bool (decide (q' < 0)))).setCell ⟨w.heap.size + 1 + 1, 1, none⟩ (.slice A6 (natL q'.natAbs).length c6)).setCell ⟨w.heap.size + 1 + 1, 2, none⟩ (.bool (decide (p' < 0)))).setCell ⟨w.heap.size + 1 + 1, 3, none⟩ (.slice A7 (natL p'.natAbs).length c7)) 0 (.agg #[.bool (decide (q' < 0)), .slice A6 (natL q'.natAbs).length c6, .bool (decide (p' < 0)), .slice A7 (natL p'.natAbs).length c7]) q' p' from ⟨_, _, _, _, rfl, O_n9.out.quad P_r0.out _ _ _ _, O_d9.out.quad P_r0.out _ _ _ _⟩)
      go_wp2_with fail
      obtain ⟨_, k0, k1, k2, k3, _⟩ := HQ9.out.facts
      exact bodyPost_ret (by simp [results, Tryz.results95, go_sem, k0, k1, k2, k3]) rfl ⟨.agg #[.bool (decide (q' < 0)), .slice A6 (natL q'.natAbs).length c6, .bool (decide (p' < 0)), .slice A7 (natL p'.natAbs).length c7], rfl, by rw [HLN.out.1, HLN.out.2]; exact HF.out, HB9.out⟩

theorem elow_one_pos (n d : Int) (A B : Option Addr) (c e0 : Nat) (w : World) (h_n : Raw w A c (natL n.natAbs)) (h_d : Raw w B e0 (natL d.natAbs)) (o_n : IntOwn w 0 (.agg #[.bool (decide (n < 0)), .slice A (natL n.natAbs).length c]) n) (o_d : IntOwn w 0 (.agg #[.bool (decide (d < 0)), .slice B (natL d.natAbs).length e0]) d) (hn : lz n ≤ 400000000) (hd : lz d ≤ 400000000) (hd0 : d ≠ 0) (hs0 : ¬ d < 0) (hgc : gcdZ n d = 1) :
    Calls Tryz.prog 95 #[.agg #[.bool (decide (n < 0)), .slice A (natL n.natAbs).length c], .agg #[.bool (decide (d < 0)), .slice B (natL d.natAbs).length e0]] w (RetFracIn w (lowN n d) (lowD n d)) := by
  obtain ⟨g, hg⟩ : ∃ k : Int, k = gcdZ n d := ⟨_, rfl⟩
  obtain ⟨one, hone⟩ : ∃ k : Int, k = 1 := ⟨_, rfl⟩
  obtain ⟨q, hq⟩ : ∃ k : Int, k = n.tdiv g := ⟨_, rfl⟩
  obtain ⟨r, hr⟩ : ∃ k : Int, k = n.tmod g := ⟨_, rfl⟩
  obtain ⟨p, hp⟩ : ∃ k : Int, k = d.tdiv g := ⟨_, rfl⟩
  obtain ⟨s, hs⟩ : ∃ k : Int, k = d.tmod g := ⟨_, rfl⟩
  obtain ⟨q', hq'⟩ : ∃ k : Int, k = -q := ⟨_, rfl⟩
  obtain ⟨p', hp'⟩ : ∃ k : Int, k = -p := ⟨_, rfl⟩
  have hgp := gcdZ_pos (n := n) hd0
  have hgl := gcdZ_lz (n := n) hd0
  rw [← hg] at hgp hgl hgc
  have hql : lz q ≤ lz n := by rw [hq]; exact tdiv_lz n g
  have hpl : lz p ≤ lz d := by rw [hp]; exact tdiv_lz d g
  have hps : p.sign = d.sign := by rw [hp, hg]; exact tdiv_sign hd0
  have hol : lz one ≤ 2 := by rw [hone]; decide
  obtain ⟨sg, hsg⟩ : ∃ k : Int, k = p.sign := ⟨_, rfl⟩
  have HSG := Hd hsg
  have HSN := Hd (show decide (sg < 0) = false from by
    rw [hsg, hps]
    exact decide_eq_false (by have := sign_cases d; omega))
  have HG := Hd (show g = ((Nat.gcd n.natAbs d.natAbs : Nat) : Int) from hg)
  have H1 := Hd hone
  have HG0 := Hd (show g ≠ 0 from by omega)
  have HQ := Hd (And.intro hq hr)
  have HP := Hd (And.intro hp hs)
  have HN1 := Hd hq'
  have HN2 := Hd hp'
  have HK := Hd (show (0 : Int) = cmpz g one from by rw [hone]; rw [hgc]; decide)
  have HLN := Hd (show lowN n d = q ∧ lowD n d = p from by
    unfold lowN lowD
    rw [if_neg hs0, if_neg hs0, ← hg, ← hq, ← hp]
    exact ⟨rfl, rfl⟩)
  have HQN := Hd (show q = n ∧ p = d from by rw [hq, hp, hgc]; exact ⟨Int.tdiv_one _, Int.tdiv_one _⟩)
  have OW_n := Hd o_n
  have OW_d := Hd o_d
  clear o_n o_d
  clear hgc hg hone hq hr hp hs hq' hp' hs0 hsg hps hd0
  have b0 := ((((Below.refl w.heap.size w).alloc (Nat.le_refl _) (.cells #[.bool (decide (n < 0)), .slice A (natL n.natAbs).length c] 25)).alloc (by simp) (.cells #[.bool (decide (d < 0)), .slice B (natL d.natAbs).length e0] 25)).alloc (by simp; omega) (.cells #[.bool false, .slice none 0 0, .bool false, .slice none 0 0] 27))
  have p0 := ((Pair.new w 25 (.bool (decide (n < 0))) (.slice A (natL n.natAbs).length c)).alloc (.cells #[.bool (decide (d < 0)), .slice B (natL d.natAbs).length e0] 25)).alloc (.cells #[.bool false, .slice none 0 0, .bool false, .slice none 0 0] 27)
  have p1 := (Pair.new (w.alloc (.cells #[.bool (decide (n < 0)), .slice A (natL n.natAbs).length c] 25)) 25 (.bool (decide (d < 0))) (.slice B (natL d.natAbs).length e0)).alloc (.cells #[.bool false, .slice none 0 0, .bool false, .slice none 0 0] 27)
  have p2 := Quad.new ((w.alloc (.cells #[.bool (decide (n < 0)), .slice A (natL n.natAbs).length c] 25)).alloc (.cells #[.bool (decide (d < 0)), .slice B (natL d.natAbs).length e0] 25)) (.bool false) (.slice none 0 0) (.bool false) (.slice none 0 0)
  simp only [World.size_alloc] at p1 p2
  have V_n := Hd (NV.of h_n b0 p0)
  have V_d := Hd (NV.of h_d b0 p1)
  have P_r0 := Hd p2
  have RW_n := Hd h_n
  have RW_d := Hd h_d
  have HBW := Hd b0
  clear b0 p0 p1 p2 h_n h_d
  go_enter Tryz.func95, Tryz.ntmps95
  obtain ⟨W, E⟩ : ∃ W, W = (((w.alloc (.cells #[.bool (decide (n < 0)), .slice A (natL n.natAbs).length c] 25)).alloc (.cells #[.bool (decide (d < 0)), .slice B (natL d.natAbs).length e0] 25)).alloc (.cells #[.bool false, .slice none 0 0, .bool false, .slice none 0 0] 27)) := ⟨_, rfl⟩
  go_upto_region 1 with fail
  rw [← E] at V_n V_d P_r0 HBW ⊢
  clear E
  have hsz := P_r0.out.blk.lt
  have O_n0 := Hd (OW_n.out.below HBW.out)
  have O_d0 := Hd (OW_d.out.below HBW.out)
  clear OW_n OW_d
  obtain ⟨l_n, a_n, b_n, -, -⟩ := V_n.out.pair.facts
  obtain ⟨l_d, a_d, b_d, -, -⟩ := V_d.out.pair.facts
  go_wp2_with fail
  refine (ecommon n d g A B c e0 W V_n.out.raw V_d.out.raw (by omega) (by omega) HG.out).mono ?_
  rintro e x1 ⟨v, rfl, hI, hb⟩
  obtain ⟨A1, c1, rfl, r1⟩ := hI.raw
  have hIg := hI.base (Nat.zero_le _)
  have hszg := hb.size
  clear l_n a_n b_n l_d a_d b_d
  have V_n := Hd (V_n.out.below hb)
  have V_d := Hd (V_d.out.below hb)
  have P_r0 := Hd (P_r0.out.below hb)
  have O_n0 := Hd (O_n0.out.below hb)
  have O_d0 := Hd (O_d0.out.below hb)
  have HBW := Hd (belowTo HBW.out hb)
  have R_g := Hd r1
  clear hb r1
  have O_g := Hd hIg
  clear hI hIg
  go_upto_region 2 with fail
  have ha := ((Below.refl x1.heap.size x1).alloc (Nat.le_refl _) (.cells #[.bool (decide (g < 0)), .slice A1 (natL g.natAbs).length c1] 25))
  have p_g := (Pair.new x1 25 (.bool (decide (g < 0))) (.slice A1 (natL g.natAbs).length c1))
  obtain ⟨y2, E⟩ : ∃ W, W = (x1.alloc (.cells #[.bool (decide (g < 0)), .slice A1 (natL g.natAbs).length c1] 25)) := ⟨_, rfl⟩
  rw [← E] at ha p_g ⊢
  have V_g := Hd (NV.of R_g.out ha p_g)
  have V_n := Hd (V_n.out.below ha)
  have V_d := Hd (V_d.out.below ha)
  have P_r0 := Hd (P_r0.out.below ha)
  have O_n0 := Hd (O_n0.out.below ha)
  have O_d0 := Hd (O_d0.out.below ha)
  have O_g := Hd (O_g.out.below ha)
  have HBW := Hd (belowTo HBW.out ha)
  obtain ⟨g2, hg⟩ : ∃ g, g = x1.heap.size := ⟨_, rfl⟩
  rw [← hg] at V_g ⊢
  have hge2 : x1.heap.size ≤ g2 := by omega
  clear E ha hg p_g
  go_wp2_with fail
  obtain ⟨W0, hW⟩ : ∃ W0, W0 = y2 := ⟨_, rfl⟩
  rw [← hW] at HBW P_r0 O_n0 O_d0 O_g V_n V_d V_g  ⊢
  clear hW
  refine wp_region_free [.val (.agg #[.bool (decide (g < 0)), .slice A1 (natL g.natAbs).length c1]) [], .any false (fun u0 V => IntAt V u0 one) [], .val (.int .i64 0) [1], .val (.bool false) []] W0.heap.size W0 [] (fun _ _ => False) _ mixedOrders2 (Nat.le_refl _) (Below.refl _ _) (KeptV.refl _ _ _) rfl (by kernel_rfl) (by kernel_rfl) (by kernel_rfl) (by kernel_rfl) (by kernel_rfl) (by kernel_rfl) (by kernel_rfl) (by kernel_rfl) rfl (by simp [oldsF]) ?_ ?_ ?_ ?_
  · simp only [StableF, and_true]
    exact fun u0 V V' h k => h.keptNone k
  · simp only [OldsF]
  · simp (maxSteps := 4000000) [StepsF, DepF, freeAct, fill, pairs]
    repeat' (first | apply And.intro | (intro (u0 : Value)))
    all_goals first
    | (intro V hV hK
       obtain ⟨-, a_g, b_g, -, -⟩ := (V_g.out.below hV).pair.facts
       have r_g := Hd (V_g.out.below hV).raw
       clear hV hK
       go_simp
       first
       | exact Below.refl _ _
       | exact ⟨by first | rfl | decide | go_num, Below.refl _ _⟩
       | ((with_reducible refine (eof 1 one H1.out (by decide) (by decide) V).mono ?_); rintro e w' ⟨v, rfl, hv, hb⟩; exact ⟨hv.at_, hb⟩))
    | (intro V hV hK hu
       obtain ⟨A', c', rfl, hr⟩ := hu.form
       have r_g := Hd (V_g.out.below hV).raw
       have r' := Hd hr
       clear hV hK hu hr
       go_simp
       (with_reducible refine (ecmp g one 0 A1 A' c1 c' V r_g.out r'.out (by omega) (by omega) HK.out).mono ?_)
       rintro e w' ⟨rfl, hb⟩
       exact ⟨rfl, hb⟩)
  · simp [EndF, FactsF, freeAct, fill, pairs]
    intro u1 V hV hK _ _ _ _
    have V_n := Hd (V_n.out.below hV)
    have V_d := Hd (V_d.out.below hV)
    have V_g := Hd (V_g.out.below hV)
    have P_r0 := Hd (P_r0.out.below hV)
    have O_n0 := Hd (O_n0.out.below hV)
    have O_d0 := Hd (O_d0.out.below hV)
    have O_g := Hd (O_g.out.below hV)
    have HBW := Hd (belowTo HBW.out hV)
    clear hV hK
    obtain ⟨v3, hV0⟩ : ∃ Y, Y = V := ⟨_, rfl⟩
    rw [← hV0] at HBW P_r0 O_n0 O_d0 O_g V_n V_d V_g  ⊢
    clear hV0
    obtain ⟨rfl, rfl⟩ := HQN.out
    have hsn := HSN.out
    obtain ⟨l_d, a_d, b_d, -, -⟩ := V_d.out.pair.facts
    go_wp2_with fail
    refine (esign p sg B e0 v3 V_d.out.raw HSG.out).mono ?_
    rintro e x4 ⟨rfl, hb⟩
    clear l_d a_d b_d
    have V_n := Hd (V_n.out.below hb)
    have V_d := Hd (V_d.out.below hb)
    have V_g := Hd (V_g.out.below hb)
    have P_r0 := Hd (P_r0.out.below hb)
    have O_n0 := Hd (O_n0.out.below hb)
    have O_d0 := Hd (O_d0.out.below hb)
    have O_g := Hd (O_g.out.below hb)
    have HBW := Hd (belowTo HBW.out hb)
    clear hb
    go_upto_region 7 with fail
    clear hsn
    obtain ⟨l_n, a_n, b_n, -, -⟩ := V_n.out.pair.facts
    obtain ⟨l_d, a_d, b_d, -, -⟩ := V_d.out.pair.facts
    obtain ⟨l_r, c_r0, c_r1, c_r2, c_r3, f_r0, f_r1, f_r2, f_r3⟩ := P_r0.out.facts
    have HQ9 := Hd (P_r0.out.store (.bool (decide (q < 0))) (.slice A (natL q.natAbs).length c) (.bool (decide (p < 0))) (.slice B (natL p.natAbs).length e0))
    have HB9 := Hd (below4 HBW.out (show w.heap.size ≤ w.heap.size + 1 + 1 by omega) (.bool (decide (q < 0))) (.slice A (natL q.natAbs).length c) (.bool (decide (p < 0))) (.slice B (natL p.natAbs).length e0))
    have HF := Hd (show FracIn ((((x4.setCell ⟨w.heap.size + 1 + 1, 0, none⟩ (.bool (decide (q < 0)))).setCell ⟨w.heap.size + 1 + 1, 1, none⟩ (.slice A (natL q.natAbs).length c)).setCell ⟨w.heap.size + 1 + 1, 2, none⟩ (.bool (decide (p < 0)))).setCell ⟨w.heap.size + 1 + 1, 3, none⟩ (.slice B (natL p.natAbs).length e0)) 0 (.agg #[.bool (decide (q < 0)), .slice A (natL q.natAbs).length c, .bool (decide (p < 0)), .slice B (natL p.natAbs).length e0]) q p from ⟨_, _, _, _, rfl, O_n0.out.quad P_r0.out _ _ _ _, O_d0.out.quad P_r0.out _ _ _ _⟩)
    go_wp2_with fail
    obtain ⟨_, k0, k1, k2, k3, _⟩ := HQ9.out.facts
    exact bodyPost_ret (by simp [results, Tryz.results95, go_sem, k0, k1, k2, k3]) rfl ⟨.agg #[.bool (decide (q < 0)), .slice A (natL q.natAbs).length c, .bool (decide (p < 0)), .slice B (natL p.natAbs).length e0], rfl, by rw [HLN.out.1, HLN.out.2]; exact HF.out, HB9.out⟩

theorem elow_more_neg (n d : Int) (A B : Option Addr) (c e0 : Nat) (w : World) (h_n : Raw w A c (natL n.natAbs)) (h_d : Raw w B e0 (natL d.natAbs)) (o_n : IntOwn w 0 (.agg #[.bool (decide (n < 0)), .slice A (natL n.natAbs).length c]) n) (o_d : IntOwn w 0 (.agg #[.bool (decide (d < 0)), .slice B (natL d.natAbs).length e0]) d) (hn : lz n ≤ 400000000) (hd : lz d ≤ 400000000) (hd0 : d ≠ 0) (hs0 : d < 0) (hgc : 1 < gcdZ n d) :
    Calls Tryz.prog 95 #[.agg #[.bool (decide (n < 0)), .slice A (natL n.natAbs).length c], .agg #[.bool (decide (d < 0)), .slice B (natL d.natAbs).length e0]] w (RetFracIn w (lowN n d) (lowD n d)) := by
  obtain ⟨g, hg⟩ : ∃ k : Int, k = gcdZ n d := ⟨_, rfl⟩
  obtain ⟨one, hone⟩ : ∃ k : Int, k = 1 := ⟨_, rfl⟩
  obtain ⟨q, hq⟩ : ∃ k : Int, k = n.tdiv g := ⟨_, rfl⟩
  obtain ⟨r, hr⟩ : ∃ k : Int, k = n.tmod g := ⟨_, rfl⟩
  obtain ⟨p, hp⟩ : ∃ k : Int, k = d.tdiv g := ⟨_, rfl⟩
  obtain ⟨s, hs⟩ : ∃ k : Int, k = d.tmod g := ⟨_, rfl⟩
  obtain ⟨q', hq'⟩ : ∃ k : Int, k = -q := ⟨_, rfl⟩
  obtain ⟨p', hp'⟩ : ∃ k : Int, k = -p := ⟨_, rfl⟩
  have hgp := gcdZ_pos (n := n) hd0
  have hgl := gcdZ_lz (n := n) hd0
  rw [← hg] at hgp hgl hgc
  have hql : lz q ≤ lz n := by rw [hq]; exact tdiv_lz n g
  have hpl : lz p ≤ lz d := by rw [hp]; exact tdiv_lz d g
  have hps : p.sign = d.sign := by rw [hp, hg]; exact tdiv_sign hd0
  have hol : lz one ≤ 2 := by rw [hone]; decide
  obtain ⟨sg, hsg⟩ : ∃ k : Int, k = p.sign := ⟨_, rfl⟩
  have HSG := Hd hsg
  have HSN := Hd (show decide (sg < 0) = true from by
    rw [hsg, hps]
    exact decide_eq_true (by rw [Int.sign_eq_neg_one_of_neg hs0]; decide))
  have HG := Hd (show g = ((Nat.gcd n.natAbs d.natAbs : Nat) : Int) from hg)
  have H1 := Hd hone
  have HG0 := Hd (show g ≠ 0 from by omega)
  have HQ := Hd (And.intro hq hr)
  have HP := Hd (And.intro hp hs)
  have HN1 := Hd hq'
  have HN2 := Hd hp'
  have HK := Hd (show (1 : Int) = cmpz g one from by rw [hone]; exact (cmpz_gt (by omega)).symm)
  have HLN := Hd (show lowN n d = q' ∧ lowD n d = p' from by
    unfold lowN lowD
    rw [if_pos hs0, if_pos hs0, ← hg, ← hq, ← hp, hq', hp']
    exact ⟨rfl, rfl⟩)
  have OW_n := Hd o_n
  have OW_d := Hd o_d
  clear o_n o_d
  clear hgc hg hone hq hr hp hs hq' hp' hs0 hsg hps hd0
  have b0 := ((((Below.refl w.heap.size w).alloc (Nat.le_refl _) (.cells #[.bool (decide (n < 0)), .slice A (natL n.natAbs).length c] 25)).alloc (by simp) (.cells #[.bool (decide (d < 0)), .slice B (natL d.natAbs).length e0] 25)).alloc (by simp; omega) (.cells #[.bool false, .slice none 0 0, .bool false, .slice none 0 0] 27))
  have p0 := ((Pair.new w 25 (.bool (decide (n < 0))) (.slice A (natL n.natAbs).length c)).alloc (.cells #[.bool (decide (d < 0)), .slice B (natL d.natAbs).length e0] 25)).alloc (.cells #[.bool false, .slice none 0 0, .bool false, .slice none 0 0] 27)
  have p1 := (Pair.new (w.alloc (.cells #[.bool (decide (n < 0)), .slice A (natL n.natAbs).length c] 25)) 25 (.bool (decide (d < 0))) (.slice B (natL d.natAbs).length e0)).alloc (.cells #[.bool false, .slice none 0 0, .bool false, .slice none 0 0] 27)
  have p2 := Quad.new ((w.alloc (.cells #[.bool (decide (n < 0)), .slice A (natL n.natAbs).length c] 25)).alloc (.cells #[.bool (decide (d < 0)), .slice B (natL d.natAbs).length e0] 25)) (.bool false) (.slice none 0 0) (.bool false) (.slice none 0 0)
  simp only [World.size_alloc] at p1 p2
  have V_n := Hd (NV.of h_n b0 p0)
  have V_d := Hd (NV.of h_d b0 p1)
  have P_r0 := Hd p2
  have RW_n := Hd h_n
  have RW_d := Hd h_d
  have HBW := Hd b0
  clear b0 p0 p1 p2 h_n h_d
  go_enter Tryz.func95, Tryz.ntmps95
  obtain ⟨W, E⟩ : ∃ W, W = (((w.alloc (.cells #[.bool (decide (n < 0)), .slice A (natL n.natAbs).length c] 25)).alloc (.cells #[.bool (decide (d < 0)), .slice B (natL d.natAbs).length e0] 25)).alloc (.cells #[.bool false, .slice none 0 0, .bool false, .slice none 0 0] 27)) := ⟨_, rfl⟩
  go_upto_region 1 with fail
  rw [← E] at V_n V_d P_r0 HBW ⊢
  clear E
  have hsz := P_r0.out.blk.lt
  have O_n0 := Hd (OW_n.out.below HBW.out)
  have O_d0 := Hd (OW_d.out.below HBW.out)
  clear OW_n OW_d
  obtain ⟨l_n, a_n, b_n, -, -⟩ := V_n.out.pair.facts
  obtain ⟨l_d, a_d, b_d, -, -⟩ := V_d.out.pair.facts
  go_wp2_with fail
  refine (ecommon n d g A B c e0 W V_n.out.raw V_d.out.raw (by omega) (by omega) HG.out).mono ?_
  rintro e x1 ⟨v, rfl, hI, hb⟩
  obtain ⟨A1, c1, rfl, r1⟩ := hI.raw
  have hIg := hI.base (Nat.zero_le _)
  have hszg := hb.size
  clear l_n a_n b_n l_d a_d b_d
  have V_n := Hd (V_n.out.below hb)
  have V_d := Hd (V_d.out.below hb)
  have P_r0 := Hd (P_r0.out.below hb)
  have O_n0 := Hd (O_n0.out.below hb)
  have O_d0 := Hd (O_d0.out.below hb)
  have HBW := Hd (belowTo HBW.out hb)
  have R_g := Hd r1
  clear hb r1
  have O_g := Hd hIg
  clear hI hIg
  go_upto_region 2 with fail
  have ha := ((Below.refl x1.heap.size x1).alloc (Nat.le_refl _) (.cells #[.bool (decide (g < 0)), .slice A1 (natL g.natAbs).length c1] 25))
  have p_g := (Pair.new x1 25 (.bool (decide (g < 0))) (.slice A1 (natL g.natAbs).length c1))
  obtain ⟨y2, E⟩ : ∃ W, W = (x1.alloc (.cells #[.bool (decide (g < 0)), .slice A1 (natL g.natAbs).length c1] 25)) := ⟨_, rfl⟩
  rw [← E] at ha p_g ⊢
  have V_g := Hd (NV.of R_g.out ha p_g)
  have V_n := Hd (V_n.out.below ha)
  have V_d := Hd (V_d.out.below ha)
  have P_r0 := Hd (P_r0.out.below ha)
  have O_n0 := Hd (O_n0.out.below ha)
  have O_d0 := Hd (O_d0.out.below ha)
  have O_g := Hd (O_g.out.below ha)
  have HBW := Hd (belowTo HBW.out ha)
  obtain ⟨g2, hg⟩ : ∃ g, g = x1.heap.size := ⟨_, rfl⟩
  rw [← hg] at V_g ⊢
  have hge2 : x1.heap.size ≤ g2 := by omega
  clear E ha hg p_g
  go_wp2_with fail
  obtain ⟨W0, hW⟩ : ∃ W0, W0 = y2 := ⟨_, rfl⟩
  rw [← hW] at HBW P_r0 O_n0 O_d0 O_g V_n V_d V_g  ⊢
  clear hW
  refine wp_region_free [.val (.agg #[.bool (decide (g < 0)), .slice A1 (natL g.natAbs).length c1]) [], .any false (fun u0 V => IntAt V u0 one) [], .val (.int .i64 1) [1], .val (.bool true) []] W0.heap.size W0 [] (fun _ _ => False) _ mixedOrders2 (Nat.le_refl _) (Below.refl _ _) (KeptV.refl _ _ _) rfl (by kernel_rfl) (by kernel_rfl) (by kernel_rfl) (by kernel_rfl) (by kernel_rfl) (by kernel_rfl) (by kernel_rfl) (by kernel_rfl) rfl (by simp [oldsF]) ?_ ?_ ?_ ?_
  · simp only [StableF, and_true]
    exact fun u0 V V' h k => h.keptNone k
  · simp only [OldsF]
  · simp (maxSteps := 4000000) [StepsF, DepF, freeAct, fill, pairs]
    repeat' (first | apply And.intro | (intro (u0 : Value)))
    all_goals first
    | (intro V hV hK
       obtain ⟨-, a_g, b_g, -, -⟩ := (V_g.out.below hV).pair.facts
       have r_g := Hd (V_g.out.below hV).raw
       clear hV hK
       go_simp
       first
       | exact Below.refl _ _
       | exact ⟨by first | rfl | decide | go_num, Below.refl _ _⟩
       | ((with_reducible refine (eof 1 one H1.out (by decide) (by decide) V).mono ?_); rintro e w' ⟨v, rfl, hv, hb⟩; exact ⟨hv.at_, hb⟩))
    | (intro V hV hK hu
       obtain ⟨A', c', rfl, hr⟩ := hu.form
       have r_g := Hd (V_g.out.below hV).raw
       have r' := Hd hr
       clear hV hK hu hr
       go_simp
       (with_reducible refine (ecmp g one 1 A1 A' c1 c' V r_g.out r'.out (by omega) (by omega) HK.out).mono ?_)
       rintro e w' ⟨rfl, hb⟩
       exact ⟨rfl, hb⟩)
  · simp [EndF, FactsF, freeAct, fill, pairs]
    intro u1 V hV hK _ _ _ _
    have V_n := Hd (V_n.out.below hV)
    have V_d := Hd (V_d.out.below hV)
    have V_g := Hd (V_g.out.below hV)
    have P_r0 := Hd (P_r0.out.below hV)
    have O_n0 := Hd (O_n0.out.below hV)
    have O_d0 := Hd (O_d0.out.below hV)
    have O_g := Hd (O_g.out.below hV)
    have HBW := Hd (belowTo HBW.out hV)
    clear hV hK
    obtain ⟨v3, hV0⟩ : ∃ Y, Y = V := ⟨_, rfl⟩
    rw [← hV0] at HBW P_r0 O_n0 O_d0 O_g V_n V_d V_g  ⊢
    clear hV0
    obtain ⟨l_n, a_n, b_n, -, -⟩ := V_n.out.pair.facts
    obtain ⟨l_g, a_g, b_g, -, -⟩ := V_g.out.pair.facts
    go_wp2_with fail
    refine (edivide n g q r A A1 c c1 v3 V_n.out.raw V_g.out.raw (by omega) (by omega) HG0.out HQ.out.1 HQ.out.2).mono ?_
    rintro e x4 ⟨v1, v2, rfl, hI, hb⟩
    obtain ⟨A2, c2, rfl, -⟩ := hI.one.raw
    obtain ⟨A3, c3, rfl, -⟩ := hI.two.raw
    clear l_n a_n b_n l_g a_g b_g
    have V_n := Hd (V_n.out.below hb)
    have V_d := Hd (V_d.out.below hb)
    have V_g := Hd (V_g.out.below hb)
    have P_r0 := Hd (P_r0.out.below hb)
    have O_n0 := Hd (O_n0.out.below hb)
    have O_d0 := Hd (O_d0.out.below hb)
    have O_g := Hd (O_g.out.below hb)
    have HBW := Hd (belowTo HBW.out hb)
    have O_n := Hd (hI.one.base (Nat.zero_le _))
    clear hb hI
    obtain ⟨l_s, a_s, b_s, f_s, g_s⟩ := V_n.out.pair.facts
    have M_n := V_n.out.pair.store (.bool (decide (q < 0))) (.slice A2 (natL q.natAbs).length c2)
    have M_d := V_d.out.pair.far (show w.heap.size + 1 ≠ w.heap.size by omega) (.bool (decide (q < 0))) (.slice A2 (natL q.natAbs).length c2)
    have M_g := V_g.out.pair.far (show g2 ≠ w.heap.size by omega) (.bool (decide (q < 0))) (.slice A2 (natL q.natAbs).length c2)
    have Q_O_d0 := O_d0.out.pairT V_n.out.pair (.bool (decide (q < 0))) (.slice A2 (natL q.natAbs).length c2)
    have Q_O_g := O_g.out.pairT V_n.out.pair (.bool (decide (q < 0))) (.slice A2 (natL q.natAbs).length c2)
    have Q_O_n := O_n.out.pairT V_n.out.pair (.bool (decide (q < 0))) (.slice A2 (natL q.natAbs).length c2)
    have F_P_r0 : Quad _ _ _ _ _ _ := ⟨P_r0.out.blk.far2 (show w.heap.size + 1 + 1 ≠ w.heap.size by omega) (.bool (decide (q < 0))) (.slice A2 (natL q.natAbs).length c2)⟩
    have HB9 := below2 HBW.out (show w.heap.size ≤ w.heap.size by omega) (.bool (decide (q < 0))) (.slice A2 (natL q.natAbs).length c2)
    have hgrow : x4.heap.size ≤ (((x4).setCell ⟨w.heap.size, 0, none⟩ (.bool (decide (q < 0)))).setCell ⟨w.heap.size, 1, none⟩ (.slice A2 (natL q.natAbs).length c2)).heap.size := by simp
    go_upto_region 4 with fail
    obtain ⟨y5, E⟩ : ∃ W, W = (((x4).setCell ⟨w.heap.size, 0, none⟩ (.bool (decide (q < 0)))).setCell ⟨w.heap.size, 1, none⟩ (.slice A2 (natL q.natAbs).length c2)) := ⟨_, rfl⟩
    rw [← E] at M_n M_d M_g Q_O_d0 Q_O_g Q_O_n F_P_r0 HB9 hgrow ⊢
    clear E l_s a_s b_s f_s g_s
    have HBW := Hd HB9
    have O_d0 := Hd Q_O_d0
    have O_g := Hd Q_O_g
    have O_n := Hd Q_O_n
    have V_n := Hd (show NV y5 (w.heap.size) q A2 c2 from ⟨M_n, O_n.out.rawAt⟩)
    have V_d := Hd (show NV y5 (w.heap.size + 1) d B e0 from ⟨M_d, O_d0.out.rawAt⟩)
    have V_g := Hd (show NV y5 (g2) g A1 c1 from ⟨M_g, O_g.out.rawAt⟩)
    have P_r0 := Hd F_P_r0
    clear HB9 M_n M_d M_g Q_O_d0 Q_O_g Q_O_n F_P_r0
    obtain ⟨l_d, a_d, b_d, -, -⟩ := V_d.out.pair.facts
    obtain ⟨l_g, a_g, b_g, -, -⟩ := V_g.out.pair.facts
    go_wp2_with fail
    refine (edivide d g p s B A1 e0 c1 y5 V_d.out.raw V_g.out.raw (by omega) (by omega) HG0.out HP.out.1 HP.out.2).mono ?_
    rintro e x6 ⟨v1, v2, rfl, hI, hb⟩
    obtain ⟨A4, c4, rfl, -⟩ := hI.one.raw
    obtain ⟨A5, c5, rfl, -⟩ := hI.two.raw
    clear l_d a_d b_d l_g a_g b_g
    have V_n := Hd (V_n.out.below hb)
    have V_d := Hd (V_d.out.below hb)
    have V_g := Hd (V_g.out.below hb)
    have P_r0 := Hd (P_r0.out.below hb)
    have O_d0 := Hd (O_d0.out.below hb)
    have O_g := Hd (O_g.out.below hb)
    have O_n := Hd (O_n.out.below hb)
    have HBW := Hd (belowTo HBW.out hb)
    have O_d := Hd (hI.one.base (Nat.zero_le _))
    clear hb hI
    obtain ⟨l_s, a_s, b_s, f_s, g_s⟩ := V_d.out.pair.facts
    have M_d := V_d.out.pair.store (.bool (decide (p < 0))) (.slice A4 (natL p.natAbs).length c4)
    have M_n := V_n.out.pair.far (show w.heap.size ≠ w.heap.size + 1 by omega) (.bool (decide (p < 0))) (.slice A4 (natL p.natAbs).length c4)
    have Q_O_d := O_d.out.pairT V_d.out.pair (.bool (decide (p < 0))) (.slice A4 (natL p.natAbs).length c4)
    have Q_O_n := O_n.out.pairT V_d.out.pair (.bool (decide (p < 0))) (.slice A4 (natL p.natAbs).length c4)
    have F_P_r0 : Quad _ _ _ _ _ _ := ⟨P_r0.out.blk.far2 (show w.heap.size + 1 + 1 ≠ w.heap.size + 1 by omega) (.bool (decide (p < 0))) (.slice A4 (natL p.natAbs).length c4)⟩
    have HB9 := below2 HBW.out (show w.heap.size ≤ w.heap.size + 1 by omega) (.bool (decide (p < 0))) (.slice A4 (natL p.natAbs).length c4)
    have hgrow : x6.heap.size ≤ (((x6).setCell ⟨w.heap.size + 1, 0, none⟩ (.bool (decide (p < 0)))).setCell ⟨w.heap.size + 1, 1, none⟩ (.slice A4 (natL p.natAbs).length c4)).heap.size := by simp
    go_upto_region 5 with fail
    obtain ⟨y7, E⟩ : ∃ W, W = (((x6).setCell ⟨w.heap.size + 1, 0, none⟩ (.bool (decide (p < 0)))).setCell ⟨w.heap.size + 1, 1, none⟩ (.slice A4 (natL p.natAbs).length c4)) := ⟨_, rfl⟩
    rw [← E] at M_d M_n Q_O_d Q_O_n F_P_r0 HB9 hgrow ⊢
    clear E l_s a_s b_s f_s g_s
    have HBW := Hd HB9
    have O_d := Hd Q_O_d
    have O_n := Hd Q_O_n
    have V_d := Hd (show NV y7 (w.heap.size + 1) p A4 c4 from ⟨M_d, O_d.out.rawAt⟩)
    have V_n := Hd (show NV y7 (w.heap.size) q A2 c2 from ⟨M_n, O_n.out.rawAt⟩)
    have P_r0 := Hd F_P_r0
    clear HB9 M_d M_n Q_O_d Q_O_n F_P_r0
    clear V_g
    have hsn := HSN.out
    obtain ⟨l_d, a_d, b_d, -, -⟩ := V_d.out.pair.facts
    go_wp2_with fail
    refine (esign p sg A4 c4 y7 V_d.out.raw HSG.out).mono ?_
    rintro e x8 ⟨rfl, hb⟩
    clear l_d a_d b_d
    have V_n := Hd (V_n.out.below hb)
    have V_d := Hd (V_d.out.below hb)
    have P_r0 := Hd (P_r0.out.below hb)
    have O_n := Hd (O_n.out.below hb)
    have O_d := Hd (O_d.out.below hb)
    have HBW := Hd (belowTo HBW.out hb)
    clear hb
    go_upto_region 6 with fail
    clear hsn
    go_wp2_with fail
    have hszz := P_r0.out.blk.lt
    refine wp_region_free [.val (.agg #[.bool (decide (q < 0)), .slice A2 (natL q.natAbs).length c2]) [1004], .any false (fun u V => IntOwn V 0 u q') [], .val (.agg #[.bool (decide (p < 0)), .slice A4 (natL p.natAbs).length c4]) [1005], .any false (fun u V => IntOwn V 0 u p') [], .old (w.heap.size) 25 #[.bool (decide (q < 0)), .slice A2 (natL q.natAbs).length c2] 0 2 1 [], .old (w.heap.size + 1) 25 #[.bool (decide (p < 0)), .slice A4 (natL p.natAbs).length c4] 0 2 3 []] w.heap.size x8 [25] (fun _ _ => False) _ mixedOrders2 (by omega) (Below.refl _ _) (KeptV.refl _ _ _) rfl (by kernel_rfl) (by kernel_rfl) (by kernel_rfl) (by kernel_rfl) (by kernel_rfl) (by kernel_rfl) (by kernel_rfl) (by kernel_rfl) rfl (by simp [oldsF]) ?_ ?_ ?_ ?_
    · simp only [StableF, and_true]
      exact ⟨fun u V V' h k => h.kept k (by decide), fun u V V' h k => h.kept k (by decide)⟩
    · simp only [OldsF, and_true]
      exact ⟨⟨by omega, by omega, V_n.out.pair.blk, by simp⟩, by omega, by omega, V_d.out.pair.blk, by simp⟩
    · simp (maxSteps := 4000000) [StepsF, DepF, freeAct, fill, pairs]
      repeat' (first | apply And.intro | (intro (u : Value)) | (intro (u : Nat)))
      all_goals try exact ⟨_, _, _, rfl, rfl, rfl, rfl, intInfo⟩
      all_goals first
      | (intro V hV hK hp
         obtain ⟨-, a_p, b_p, -, -⟩ := (Pair.mk hp).facts
         clear hV hK hp
         go_simp
         exact Below.refl _ _)
      | (intro V hV hK
         have rn := Hd ((O_n.out.kept hK (by decide)).rawAt)
         have rd := Hd ((O_d.out.kept hK (by decide)).rawAt)
         clear hV hK
         go_simp
         first
         | ((with_reducible refine (eturned q q' A2 c2 V rn.out (by omega) HN1.out).mono ?_); rintro e w' ⟨v, rfl, hv, hb⟩; exact ⟨hv.base (Nat.zero_le _), hb⟩)
         | ((with_reducible refine (eturned p p' A4 c4 V rd.out (by omega) HN2.out).mono ?_); rintro e w' ⟨v, rfl, hv, hb⟩; exact ⟨hv.base (Nat.zero_le _), hb⟩))
      | exact fun _ _ _ (h : IntOwn _ _ _ _) => h.cells
    · simp [EndF, FactsF, freeAct, fill, pairs]
      intro u1 u2 V hV hK h1 h2 p1 p2 _ _ _
      obtain ⟨A6, c6, rfl, r6⟩ := h1.raw
      obtain ⟨A7, c7, rfl, r7⟩ := h2.raw
      simp [setAll, Value.cells] at p1 p2
      have V_n := Hd (show NV V (w.heap.size) q' A6 c6 from ⟨⟨p1⟩, r6⟩)
      have V_d := Hd (show NV V (w.heap.size + 1) p' A7 c7 from ⟨⟨p2⟩, r7⟩)
      have HBW := Hd (HBW.out.trans hV)
      have P_r0 := Hd (show Quad V _ _ _ _ _ from ⟨hK.blk P_r0.out.blk (by decide)⟩)
      have O_n9 := Hd h1
      have O_d9 := Hd h2
      clear hV hK h1 h2 p1 p2 r6 r7
      obtain ⟨l_n, a_n, b_n, -, -⟩ := V_n.out.pair.facts
      obtain ⟨l_d, a_d, b_d, -, -⟩ := V_d.out.pair.facts
      obtain ⟨l_r, c_r0, c_r1, c_r2, c_r3, f_r0, f_r1, f_r2, f_r3⟩ := P_r0.out.facts
      have HQ9 := Hd (P_r0.out.store (.bool (decide (q' < 0))) (.slice A6 (natL q'.natAbs).length c6) (.bool (decide (p' < 0))) (.slice A7 (natL p'.natAbs).length c7))
      have HB9 := Hd (below4 HBW.out (show w.heap.size ≤ w.heap.size + 1 + 1 by omega) (.bool (decide (q' < 0))) (.slice A6 (natL q'.natAbs).length c6) (.bool (decide (p' < 0))) (.slice A7 (natL p'.natAbs).length c7))
      have HF := Hd (show FracIn ((((V.setCell ⟨w.heap.size + 1 + 1, 0, none⟩ (.bool (decide (q' < 0)))).setCell ⟨w.heap.size + 1 + 1, 1, none⟩ (.slice A6 (natL q'.natAbs).length c6)).setCell ⟨w.heap.size + 1 + 1, 2, none⟩ (.bool (decide (p' < 0)))).setCell ⟨w.heap.size + 1 + 1, 3, none⟩ (.slice A7 (natL p'.natAbs).length c7)) 0 (.agg #[.bool (decide (q' < 0)), .slice A6 (natL q'.natAbs).length c6, .bool (decide (p' < 0)), .slice A7 (natL p'.natAbs).length c7]) q' p' from ⟨_, _, _, _, rfl, O_n9.out.quad P_r0.out _ _ _ _, O_d9.out.quad P_r0.out _ _ _ _⟩)
      go_wp2_with fail
      obtain ⟨_, k0, k1, k2, k3, _⟩ := HQ9.out.facts
      exact bodyPost_ret (by simp [results, Tryz.results95, go_sem, k0, k1, k2, k3]) rfl ⟨.agg #[.bool (decide (q' < 0)), .slice A6 (natL q'.natAbs).length c6, .bool (decide (p' < 0)), .slice A7 (natL p'.natAbs).length c7], rfl, by rw [HLN.out.1, HLN.out.2]; exact HF.out, HB9.out⟩

theorem elow_more_pos (n d : Int) (A B : Option Addr) (c e0 : Nat) (w : World) (h_n : Raw w A c (natL n.natAbs)) (h_d : Raw w B e0 (natL d.natAbs)) (o_n : IntOwn w 0 (.agg #[.bool (decide (n < 0)), .slice A (natL n.natAbs).length c]) n) (o_d : IntOwn w 0 (.agg #[.bool (decide (d < 0)), .slice B (natL d.natAbs).length e0]) d) (hn : lz n ≤ 400000000) (hd : lz d ≤ 400000000) (hd0 : d ≠ 0) (hs0 : ¬ d < 0) (hgc : 1 < gcdZ n d) :
    Calls Tryz.prog 95 #[.agg #[.bool (decide (n < 0)), .slice A (natL n.natAbs).length c], .agg #[.bool (decide (d < 0)), .slice B (natL d.natAbs).length e0]] w (RetFracIn w (lowN n d) (lowD n d)) := by
  obtain ⟨g, hg⟩ : ∃ k : Int, k = gcdZ n d := ⟨_, rfl⟩
  obtain ⟨one, hone⟩ : ∃ k : Int, k = 1 := ⟨_, rfl⟩
  obtain ⟨q, hq⟩ : ∃ k : Int, k = n.tdiv g := ⟨_, rfl⟩
  obtain ⟨r, hr⟩ : ∃ k : Int, k = n.tmod g := ⟨_, rfl⟩
  obtain ⟨p, hp⟩ : ∃ k : Int, k = d.tdiv g := ⟨_, rfl⟩
  obtain ⟨s, hs⟩ : ∃ k : Int, k = d.tmod g := ⟨_, rfl⟩
  obtain ⟨q', hq'⟩ : ∃ k : Int, k = -q := ⟨_, rfl⟩
  obtain ⟨p', hp'⟩ : ∃ k : Int, k = -p := ⟨_, rfl⟩
  have hgp := gcdZ_pos (n := n) hd0
  have hgl := gcdZ_lz (n := n) hd0
  rw [← hg] at hgp hgl hgc
  have hql : lz q ≤ lz n := by rw [hq]; exact tdiv_lz n g
  have hpl : lz p ≤ lz d := by rw [hp]; exact tdiv_lz d g
  have hps : p.sign = d.sign := by rw [hp, hg]; exact tdiv_sign hd0
  have hol : lz one ≤ 2 := by rw [hone]; decide
  obtain ⟨sg, hsg⟩ : ∃ k : Int, k = p.sign := ⟨_, rfl⟩
  have HSG := Hd hsg
  have HSN := Hd (show decide (sg < 0) = false from by
    rw [hsg, hps]
    exact decide_eq_false (by have := sign_cases d; omega))
  have HG := Hd (show g = ((Nat.gcd n.natAbs d.natAbs : Nat) : Int) from hg)
  have H1 := Hd hone
  have HG0 := Hd (show g ≠ 0 from by omega)
  have HQ := Hd (And.intro hq hr)
  have HP := Hd (And.intro hp hs)
  have HN1 := Hd hq'
  have HN2 := Hd hp'
  have HK := Hd (show (1 : Int) = cmpz g one from by rw [hone]; exact (cmpz_gt (by omega)).symm)
  have HLN := Hd (show lowN n d = q ∧ lowD n d = p from by
    unfold lowN lowD
    rw [if_neg hs0, if_neg hs0, ← hg, ← hq, ← hp]
    exact ⟨rfl, rfl⟩)
  have OW_n := Hd o_n
  have OW_d := Hd o_d
  clear o_n o_d
  clear hgc hg hone hq hr hp hs hq' hp' hs0 hsg hps hd0
  have b0 := ((((Below.refl w.heap.size w).alloc (Nat.le_refl _) (.cells #[.bool (decide (n < 0)), .slice A (natL n.natAbs).length c] 25)).alloc (by simp) (.cells #[.bool (decide (d < 0)), .slice B (natL d.natAbs).length e0] 25)).alloc (by simp; omega) (.cells #[.bool false, .slice none 0 0, .bool false, .slice none 0 0] 27))
  have p0 := ((Pair.new w 25 (.bool (decide (n < 0))) (.slice A (natL n.natAbs).length c)).alloc (.cells #[.bool (decide (d < 0)), .slice B (natL d.natAbs).length e0] 25)).alloc (.cells #[.bool false, .slice none 0 0, .bool false, .slice none 0 0] 27)
  have p1 := (Pair.new (w.alloc (.cells #[.bool (decide (n < 0)), .slice A (natL n.natAbs).length c] 25)) 25 (.bool (decide (d < 0))) (.slice B (natL d.natAbs).length e0)).alloc (.cells #[.bool false, .slice none 0 0, .bool false, .slice none 0 0] 27)
  have p2 := Quad.new ((w.alloc (.cells #[.bool (decide (n < 0)), .slice A (natL n.natAbs).length c] 25)).alloc (.cells #[.bool (decide (d < 0)), .slice B (natL d.natAbs).length e0] 25)) (.bool false) (.slice none 0 0) (.bool false) (.slice none 0 0)
  simp only [World.size_alloc] at p1 p2
  have V_n := Hd (NV.of h_n b0 p0)
  have V_d := Hd (NV.of h_d b0 p1)
  have P_r0 := Hd p2
  have RW_n := Hd h_n
  have RW_d := Hd h_d
  have HBW := Hd b0
  clear b0 p0 p1 p2 h_n h_d
  go_enter Tryz.func95, Tryz.ntmps95
  obtain ⟨W, E⟩ : ∃ W, W = (((w.alloc (.cells #[.bool (decide (n < 0)), .slice A (natL n.natAbs).length c] 25)).alloc (.cells #[.bool (decide (d < 0)), .slice B (natL d.natAbs).length e0] 25)).alloc (.cells #[.bool false, .slice none 0 0, .bool false, .slice none 0 0] 27)) := ⟨_, rfl⟩
  go_upto_region 1 with fail
  rw [← E] at V_n V_d P_r0 HBW ⊢
  clear E
  have hsz := P_r0.out.blk.lt
  have O_n0 := Hd (OW_n.out.below HBW.out)
  have O_d0 := Hd (OW_d.out.below HBW.out)
  clear OW_n OW_d
  obtain ⟨l_n, a_n, b_n, -, -⟩ := V_n.out.pair.facts
  obtain ⟨l_d, a_d, b_d, -, -⟩ := V_d.out.pair.facts
  go_wp2_with fail
  refine (ecommon n d g A B c e0 W V_n.out.raw V_d.out.raw (by omega) (by omega) HG.out).mono ?_
  rintro e x1 ⟨v, rfl, hI, hb⟩
  obtain ⟨A1, c1, rfl, r1⟩ := hI.raw
  have hIg := hI.base (Nat.zero_le _)
  have hszg := hb.size
  clear l_n a_n b_n l_d a_d b_d
  have V_n := Hd (V_n.out.below hb)
  have V_d := Hd (V_d.out.below hb)
  have P_r0 := Hd (P_r0.out.below hb)
  have O_n0 := Hd (O_n0.out.below hb)
  have O_d0 := Hd (O_d0.out.below hb)
  have HBW := Hd (belowTo HBW.out hb)
  have R_g := Hd r1
  clear hb r1
  have O_g := Hd hIg
  clear hI hIg
  go_upto_region 2 with fail
  have ha := ((Below.refl x1.heap.size x1).alloc (Nat.le_refl _) (.cells #[.bool (decide (g < 0)), .slice A1 (natL g.natAbs).length c1] 25))
  have p_g := (Pair.new x1 25 (.bool (decide (g < 0))) (.slice A1 (natL g.natAbs).length c1))
  obtain ⟨y2, E⟩ : ∃ W, W = (x1.alloc (.cells #[.bool (decide (g < 0)), .slice A1 (natL g.natAbs).length c1] 25)) := ⟨_, rfl⟩
  rw [← E] at ha p_g ⊢
  have V_g := Hd (NV.of R_g.out ha p_g)
  have V_n := Hd (V_n.out.below ha)
  have V_d := Hd (V_d.out.below ha)
  have P_r0 := Hd (P_r0.out.below ha)
  have O_n0 := Hd (O_n0.out.below ha)
  have O_d0 := Hd (O_d0.out.below ha)
  have O_g := Hd (O_g.out.below ha)
  have HBW := Hd (belowTo HBW.out ha)
  obtain ⟨g2, hg⟩ : ∃ g, g = x1.heap.size := ⟨_, rfl⟩
  rw [← hg] at V_g ⊢
  have hge2 : x1.heap.size ≤ g2 := by omega
  clear E ha hg p_g
  go_wp2_with fail
  obtain ⟨W0, hW⟩ : ∃ W0, W0 = y2 := ⟨_, rfl⟩
  rw [← hW] at HBW P_r0 O_n0 O_d0 O_g V_n V_d V_g  ⊢
  clear hW
  refine wp_region_free [.val (.agg #[.bool (decide (g < 0)), .slice A1 (natL g.natAbs).length c1]) [], .any false (fun u0 V => IntAt V u0 one) [], .val (.int .i64 1) [1], .val (.bool true) []] W0.heap.size W0 [] (fun _ _ => False) _ mixedOrders2 (Nat.le_refl _) (Below.refl _ _) (KeptV.refl _ _ _) rfl (by kernel_rfl) (by kernel_rfl) (by kernel_rfl) (by kernel_rfl) (by kernel_rfl) (by kernel_rfl) (by kernel_rfl) (by kernel_rfl) rfl (by simp [oldsF]) ?_ ?_ ?_ ?_
  · simp only [StableF, and_true]
    exact fun u0 V V' h k => h.keptNone k
  · simp only [OldsF]
  · simp (maxSteps := 4000000) [StepsF, DepF, freeAct, fill, pairs]
    repeat' (first | apply And.intro | (intro (u0 : Value)))
    all_goals first
    | (intro V hV hK
       obtain ⟨-, a_g, b_g, -, -⟩ := (V_g.out.below hV).pair.facts
       have r_g := Hd (V_g.out.below hV).raw
       clear hV hK
       go_simp
       first
       | exact Below.refl _ _
       | exact ⟨by first | rfl | decide | go_num, Below.refl _ _⟩
       | ((with_reducible refine (eof 1 one H1.out (by decide) (by decide) V).mono ?_); rintro e w' ⟨v, rfl, hv, hb⟩; exact ⟨hv.at_, hb⟩))
    | (intro V hV hK hu
       obtain ⟨A', c', rfl, hr⟩ := hu.form
       have r_g := Hd (V_g.out.below hV).raw
       have r' := Hd hr
       clear hV hK hu hr
       go_simp
       (with_reducible refine (ecmp g one 1 A1 A' c1 c' V r_g.out r'.out (by omega) (by omega) HK.out).mono ?_)
       rintro e w' ⟨rfl, hb⟩
       exact ⟨rfl, hb⟩)
  · simp [EndF, FactsF, freeAct, fill, pairs]
    intro u1 V hV hK _ _ _ _
    have V_n := Hd (V_n.out.below hV)
    have V_d := Hd (V_d.out.below hV)
    have V_g := Hd (V_g.out.below hV)
    have P_r0 := Hd (P_r0.out.below hV)
    have O_n0 := Hd (O_n0.out.below hV)
    have O_d0 := Hd (O_d0.out.below hV)
    have O_g := Hd (O_g.out.below hV)
    have HBW := Hd (belowTo HBW.out hV)
    clear hV hK
    obtain ⟨v3, hV0⟩ : ∃ Y, Y = V := ⟨_, rfl⟩
    rw [← hV0] at HBW P_r0 O_n0 O_d0 O_g V_n V_d V_g  ⊢
    clear hV0
    obtain ⟨l_n, a_n, b_n, -, -⟩ := V_n.out.pair.facts
    obtain ⟨l_g, a_g, b_g, -, -⟩ := V_g.out.pair.facts
    go_wp2_with fail
    refine (edivide n g q r A A1 c c1 v3 V_n.out.raw V_g.out.raw (by omega) (by omega) HG0.out HQ.out.1 HQ.out.2).mono ?_
    rintro e x4 ⟨v1, v2, rfl, hI, hb⟩
    obtain ⟨A2, c2, rfl, -⟩ := hI.one.raw
    obtain ⟨A3, c3, rfl, -⟩ := hI.two.raw
    clear l_n a_n b_n l_g a_g b_g
    have V_n := Hd (V_n.out.below hb)
    have V_d := Hd (V_d.out.below hb)
    have V_g := Hd (V_g.out.below hb)
    have P_r0 := Hd (P_r0.out.below hb)
    have O_n0 := Hd (O_n0.out.below hb)
    have O_d0 := Hd (O_d0.out.below hb)
    have O_g := Hd (O_g.out.below hb)
    have HBW := Hd (belowTo HBW.out hb)
    have O_n := Hd (hI.one.base (Nat.zero_le _))
    clear hb hI
    obtain ⟨l_s, a_s, b_s, f_s, g_s⟩ := V_n.out.pair.facts
    have M_n := V_n.out.pair.store (.bool (decide (q < 0))) (.slice A2 (natL q.natAbs).length c2)
    have M_d := V_d.out.pair.far (show w.heap.size + 1 ≠ w.heap.size by omega) (.bool (decide (q < 0))) (.slice A2 (natL q.natAbs).length c2)
    have M_g := V_g.out.pair.far (show g2 ≠ w.heap.size by omega) (.bool (decide (q < 0))) (.slice A2 (natL q.natAbs).length c2)
    have Q_O_d0 := O_d0.out.pairT V_n.out.pair (.bool (decide (q < 0))) (.slice A2 (natL q.natAbs).length c2)
    have Q_O_g := O_g.out.pairT V_n.out.pair (.bool (decide (q < 0))) (.slice A2 (natL q.natAbs).length c2)
    have Q_O_n := O_n.out.pairT V_n.out.pair (.bool (decide (q < 0))) (.slice A2 (natL q.natAbs).length c2)
    have F_P_r0 : Quad _ _ _ _ _ _ := ⟨P_r0.out.blk.far2 (show w.heap.size + 1 + 1 ≠ w.heap.size by omega) (.bool (decide (q < 0))) (.slice A2 (natL q.natAbs).length c2)⟩
    have HB9 := below2 HBW.out (show w.heap.size ≤ w.heap.size by omega) (.bool (decide (q < 0))) (.slice A2 (natL q.natAbs).length c2)
    have hgrow : x4.heap.size ≤ (((x4).setCell ⟨w.heap.size, 0, none⟩ (.bool (decide (q < 0)))).setCell ⟨w.heap.size, 1, none⟩ (.slice A2 (natL q.natAbs).length c2)).heap.size := by simp
    go_upto_region 4 with fail
    obtain ⟨y5, E⟩ : ∃ W, W = (((x4).setCell ⟨w.heap.size, 0, none⟩ (.bool (decide (q < 0)))).setCell ⟨w.heap.size, 1, none⟩ (.slice A2 (natL q.natAbs).length c2)) := ⟨_, rfl⟩
    rw [← E] at M_n M_d M_g Q_O_d0 Q_O_g Q_O_n F_P_r0 HB9 hgrow ⊢
    clear E l_s a_s b_s f_s g_s
    have HBW := Hd HB9
    have O_d0 := Hd Q_O_d0
    have O_g := Hd Q_O_g
    have O_n := Hd Q_O_n
    have V_n := Hd (show NV y5 (w.heap.size) q A2 c2 from ⟨M_n, O_n.out.rawAt⟩)
    have V_d := Hd (show NV y5 (w.heap.size + 1) d B e0 from ⟨M_d, O_d0.out.rawAt⟩)
    have V_g := Hd (show NV y5 (g2) g A1 c1 from ⟨M_g, O_g.out.rawAt⟩)
    have P_r0 := Hd F_P_r0
    clear HB9 M_n M_d M_g Q_O_d0 Q_O_g Q_O_n F_P_r0
    obtain ⟨l_d, a_d, b_d, -, -⟩ := V_d.out.pair.facts
    obtain ⟨l_g, a_g, b_g, -, -⟩ := V_g.out.pair.facts
    go_wp2_with fail
    refine (edivide d g p s B A1 e0 c1 y5 V_d.out.raw V_g.out.raw (by omega) (by omega) HG0.out HP.out.1 HP.out.2).mono ?_
    rintro e x6 ⟨v1, v2, rfl, hI, hb⟩
    obtain ⟨A4, c4, rfl, -⟩ := hI.one.raw
    obtain ⟨A5, c5, rfl, -⟩ := hI.two.raw
    clear l_d a_d b_d l_g a_g b_g
    have V_n := Hd (V_n.out.below hb)
    have V_d := Hd (V_d.out.below hb)
    have V_g := Hd (V_g.out.below hb)
    have P_r0 := Hd (P_r0.out.below hb)
    have O_d0 := Hd (O_d0.out.below hb)
    have O_g := Hd (O_g.out.below hb)
    have O_n := Hd (O_n.out.below hb)
    have HBW := Hd (belowTo HBW.out hb)
    have O_d := Hd (hI.one.base (Nat.zero_le _))
    clear hb hI
    obtain ⟨l_s, a_s, b_s, f_s, g_s⟩ := V_d.out.pair.facts
    have M_d := V_d.out.pair.store (.bool (decide (p < 0))) (.slice A4 (natL p.natAbs).length c4)
    have M_n := V_n.out.pair.far (show w.heap.size ≠ w.heap.size + 1 by omega) (.bool (decide (p < 0))) (.slice A4 (natL p.natAbs).length c4)
    have Q_O_d := O_d.out.pairT V_d.out.pair (.bool (decide (p < 0))) (.slice A4 (natL p.natAbs).length c4)
    have Q_O_n := O_n.out.pairT V_d.out.pair (.bool (decide (p < 0))) (.slice A4 (natL p.natAbs).length c4)
    have F_P_r0 : Quad _ _ _ _ _ _ := ⟨P_r0.out.blk.far2 (show w.heap.size + 1 + 1 ≠ w.heap.size + 1 by omega) (.bool (decide (p < 0))) (.slice A4 (natL p.natAbs).length c4)⟩
    have HB9 := below2 HBW.out (show w.heap.size ≤ w.heap.size + 1 by omega) (.bool (decide (p < 0))) (.slice A4 (natL p.natAbs).length c4)
    have hgrow : x6.heap.size ≤ (((x6).setCell ⟨w.heap.size + 1, 0, none⟩ (.bool (decide (p < 0)))).setCell ⟨w.heap.size + 1, 1, none⟩ (.slice A4 (natL p.natAbs).length c4)).heap.size := by simp
    go_upto_region 5 with fail
    obtain ⟨y7, E⟩ : ∃ W, W = (((x6).setCell ⟨w.heap.size + 1, 0, none⟩ (.bool (decide (p < 0)))).setCell ⟨w.heap.size + 1, 1, none⟩ (.slice A4 (natL p.natAbs).length c4)) := ⟨_, rfl⟩
    rw [← E] at M_d M_n Q_O_d Q_O_n F_P_r0 HB9 hgrow ⊢
    clear E l_s a_s b_s f_s g_s
    have HBW := Hd HB9
    have O_d := Hd Q_O_d
    have O_n := Hd Q_O_n
    have V_d := Hd (show NV y7 (w.heap.size + 1) p A4 c4 from ⟨M_d, O_d.out.rawAt⟩)
    have V_n := Hd (show NV y7 (w.heap.size) q A2 c2 from ⟨M_n, O_n.out.rawAt⟩)
    have P_r0 := Hd F_P_r0
    clear HB9 M_d M_n Q_O_d Q_O_n F_P_r0
    clear V_g
    have hsn := HSN.out
    obtain ⟨l_d, a_d, b_d, -, -⟩ := V_d.out.pair.facts
    go_wp2_with fail
    refine (esign p sg A4 c4 y7 V_d.out.raw HSG.out).mono ?_
    rintro e x8 ⟨rfl, hb⟩
    clear l_d a_d b_d
    have V_n := Hd (V_n.out.below hb)
    have V_d := Hd (V_d.out.below hb)
    have P_r0 := Hd (P_r0.out.below hb)
    have O_n := Hd (O_n.out.below hb)
    have O_d := Hd (O_d.out.below hb)
    have HBW := Hd (belowTo HBW.out hb)
    clear hb
    go_upto_region 7 with fail
    clear hsn
    obtain ⟨l_n, a_n, b_n, -, -⟩ := V_n.out.pair.facts
    obtain ⟨l_d, a_d, b_d, -, -⟩ := V_d.out.pair.facts
    obtain ⟨l_r, c_r0, c_r1, c_r2, c_r3, f_r0, f_r1, f_r2, f_r3⟩ := P_r0.out.facts
    have HQ9 := Hd (P_r0.out.store (.bool (decide (q < 0))) (.slice A2 (natL q.natAbs).length c2) (.bool (decide (p < 0))) (.slice A4 (natL p.natAbs).length c4))
    have HB9 := Hd (below4 HBW.out (show w.heap.size ≤ w.heap.size + 1 + 1 by omega) (.bool (decide (q < 0))) (.slice A2 (natL q.natAbs).length c2) (.bool (decide (p < 0))) (.slice A4 (natL p.natAbs).length c4))
    have HF := Hd (show FracIn ((((x8.setCell ⟨w.heap.size + 1 + 1, 0, none⟩ (.bool (decide (q < 0)))).setCell ⟨w.heap.size + 1 + 1, 1, none⟩ (.slice A2 (natL q.natAbs).length c2)).setCell ⟨w.heap.size + 1 + 1, 2, none⟩ (.bool (decide (p < 0)))).setCell ⟨w.heap.size + 1 + 1, 3, none⟩ (.slice A4 (natL p.natAbs).length c4)) 0 (.agg #[.bool (decide (q < 0)), .slice A2 (natL q.natAbs).length c2, .bool (decide (p < 0)), .slice A4 (natL p.natAbs).length c4]) q p from ⟨_, _, _, _, rfl, O_n.out.quad P_r0.out _ _ _ _, O_d.out.quad P_r0.out _ _ _ _⟩)
    go_wp2_with fail
    obtain ⟨_, k0, k1, k2, k3, _⟩ := HQ9.out.facts
    exact bodyPost_ret (by simp [results, Tryz.results95, go_sem, k0, k1, k2, k3]) rfl ⟨.agg #[.bool (decide (q < 0)), .slice A2 (natL q.natAbs).length c2, .bool (decide (p < 0)), .slice A4 (natL p.natAbs).length c4], rfl, by rw [HLN.out.1, HLN.out.2]; exact HF.out, HB9.out⟩

theorem elow (n d : Int) (A B : Option Addr) (c e0 : Nat) (w : World) (h : Raw w A c (natL n.natAbs)) (g : Raw w B e0 (natL d.natAbs)) (o_n : IntOwn w 0 (.agg #[.bool (decide (n < 0)), .slice A (natL n.natAbs).length c]) n) (o_d : IntOwn w 0 (.agg #[.bool (decide (d < 0)), .slice B (natL d.natAbs).length e0]) d) (hn : lz n ≤ 400000000) (hd : lz d ≤ 400000000) (hd0 : d ≠ 0) :
    Calls Tryz.prog 95 #[.agg #[.bool (decide (n < 0)), .slice A (natL n.natAbs).length c], .agg #[.bool (decide (d < 0)), .slice B (natL d.natAbs).length e0]] w (RetFracIn w (lowN n d) (lowD n d)) := by
  have hp := gcdZ_pos (n := n) hd0
  rcases (by omega : gcdZ n d = 1 ∨ 1 < gcdZ n d) with h1 | h1 <;> by_cases hs : d < 0
  · exact elow_one_neg n d A B c e0 w h g o_n o_d hn hd hd0 hs h1
  · exact elow_one_pos n d A B c e0 w h g o_n o_d hn hd hd0 hs h1
  · exact elow_more_neg n d A B c e0 w h g o_n o_d hn hd hd0 hs h1
  · exact elow_more_pos n d A B c e0 w h g o_n o_d hn hd hd0 hs h1

/- Plus, Minus, Times, Over, Cmp of package ratio. (Written by wip/frac/gentrees.py.) -/
def addN (n d m f : Int) : Int := lowN (n * f + m * d) (d * f)
def addD (n d m f : Int) : Int := lowD (n * f + m * d) (d * f)
def subN (n d m f : Int) : Int := lowN (n * f - m * d) (d * f)
def subD (n d m f : Int) : Int := lowD (n * f - m * d) (d * f)
def mulN (n d m f : Int) : Int := lowN (n * m) (d * f)
def mulD (n d m f : Int) : Int := lowD (n * m) (d * f)
def quoN (n d m f : Int) : Int := lowN (n * f) (d * m)
def quoD (n d m f : Int) : Int := lowD (n * f) (d * m)

theorem ratio_Cmp (n d m f k : Int) (A B A2 B2 : Option Addr) (c e0 c2 e2 : Nat) (w : World) (h_x : Raw w A c (natL n.natAbs)) (k_x : Raw w B e0 (natL d.natAbs)) (h_y : Raw w A2 c2 (natL m.natAbs)) (k_y : Raw w B2 e2 (natL f.natAbs)) (hn : lz n ≤ 10000) (hd : lz d ≤ 10000) (hm : lz m ≤ 10000) (hf : lz f ≤ 10000) (hk : k = cmpz (n * f) (m * d)) :
    Calls Tryz.prog 41 #[.agg #[.bool (decide (n < 0)), .slice A (natL n.natAbs).length c, .bool (decide (d < 0)), .slice B (natL d.natAbs).length e0], .agg #[.bool (decide (m < 0)), .slice A2 (natL m.natAbs).length c2, .bool (decide (f < 0)), .slice B2 (natL f.natAbs).length e2]] w fun e w' => e = .returned (.int .i64 k) ∧ Below w.heap.size w w' := by
  obtain ⟨p, hp⟩ : ∃ k : Int, k = n * f := ⟨_, rfl⟩
  obtain ⟨q, hq⟩ : ∃ k : Int, k = m * d := ⟨_, rfl⟩
  have hlp := lz_mul n f
  have hlq := lz_mul m d
  rw [← hp] at hlp hk
  rw [← hq] at hlq hk
  have HP := Hd hp
  have HQ := Hd hq
  have HK := Hd hk
  clear hp hq hk
  have b0 := (((Below.refl w.heap.size w).alloc (Nat.le_refl _) (.cells #[.bool (decide (n < 0)), .slice A (natL n.natAbs).length c, .bool (decide (d < 0)), .slice B (natL d.natAbs).length e0] 27)).alloc (by simp) (.cells #[.bool (decide (m < 0)), .slice A2 (natL m.natAbs).length c2, .bool (decide (f < 0)), .slice B2 (natL f.natAbs).length e2] 27))
  have p0 := (Quad.new w (.bool (decide (n < 0))) (.slice A (natL n.natAbs).length c) (.bool (decide (d < 0))) (.slice B (natL d.natAbs).length e0)).alloc (.cells #[.bool (decide (m < 0)), .slice A2 (natL m.natAbs).length c2, .bool (decide (f < 0)), .slice B2 (natL f.natAbs).length e2] 27)
  have p1 := Quad.new (w.alloc (.cells #[.bool (decide (n < 0)), .slice A (natL n.natAbs).length c, .bool (decide (d < 0)), .slice B (natL d.natAbs).length e0] 27)) (.bool (decide (m < 0))) (.slice A2 (natL m.natAbs).length c2) (.bool (decide (f < 0))) (.slice B2 (natL f.natAbs).length e2)
  simp only [World.size_alloc] at p1
  have V_x := Hd (FV.mk p0 (h_x.below b0) (k_x.below b0))
  have KW_x := Hd k_x
  have V_y := Hd (FV.mk p1 (h_y.below b0) (k_y.below b0))
  have KW_y := Hd k_y
  have RW_x := Hd h_x
  have RW_y := Hd h_y
  have HBW := Hd b0
  clear b0 p0 p1 h_x k_x h_y k_y
  go_enter Tryz.func41, Tryz.ntmps41
  obtain ⟨W, E⟩ : ∃ W, W = ((w.alloc (.cells #[.bool (decide (n < 0)), .slice A (natL n.natAbs).length c, .bool (decide (d < 0)), .slice B (natL d.natAbs).length e0] 27)).alloc (.cells #[.bool (decide (m < 0)), .slice A2 (natL m.natAbs).length c2, .bool (decide (f < 0)), .slice B2 (natL f.natAbs).length e2] 27)) := ⟨_, rfl⟩
  go_upto_region 1 with fail
  rw [← E] at V_x V_y HBW ⊢
  clear E
  have hsz := V_y.out.quad.blk.lt
  go_wp2_with fail
  refine wp_region_free [.val (.pointer (some ⟨w.heap.size, 0, none⟩)) [], .val (.agg #[.bool (decide (n < 0)), .slice A (natL n.natAbs).length c]) [], .val (.pointer (some ⟨w.heap.size + 1, 2, none⟩)) [], .val (.agg #[.bool (decide (f < 0)), .slice B2 (natL f.natAbs).length e2]) [], .any false (fun u V => IntOwn V 0 u p) [], .val (.pointer (some ⟨w.heap.size + 1, 0, none⟩)) [], .val (.agg #[.bool (decide (m < 0)), .slice A2 (natL m.natAbs).length c2]) [], .val (.pointer (some ⟨w.heap.size, 2, none⟩)) [], .val (.agg #[.bool (decide (d < 0)), .slice B (natL d.natAbs).length e0]) [], .any false (fun u V => IntOwn V 0 u q) [], .val (.int .i64 k) [4, 9], .val (.int .i64 k) []] W.heap.size W [] blkInt _ mixedOrders2 (Nat.le_refl _) (Below.refl _ _) (KeptV.refl _ _ _) rfl (by kernel_rfl) (by kernel_rfl) (by kernel_rfl) (by kernel_rfl) (by kernel_rfl) (by kernel_rfl) (by kernel_rfl) (by kernel_rfl) rfl (by simp [oldsF]) ?_ ?_ ?_ ?_
  · simp only [StableF, and_true]
    exact ⟨fun u V V' h k => h.kept k (by decide), fun u V V' h k => h.kept k (by decide)⟩
  · simp only [OldsF]
  · simp (maxSteps := 4000000) [StepsF, DepF, freeAct, fill, pairs]
    repeat' (first | apply And.intro | (intro (u : Value)) | (intro (u : Nat)))
    all_goals first
    | (intro V hV hK
       have qx : Quad V (w.heap.size) _ _ _ _ := ⟨V_x.out.quad.blk.below hV (by omega)⟩
       obtain ⟨-, a_x, b_x, c_x, d_x, -, -, -, -⟩ := qx.facts
       have qy : Quad V (w.heap.size + 1) _ _ _ _ := ⟨V_y.out.quad.blk.below hV (by omega)⟩
       obtain ⟨-, a_y, b_y, c_y, d_y, -, -, -, -⟩ := qy.facts
       have rn_x := Hd (RW_x.out.below (HBW.out.trans (hV.mono (by omega))))
       have rd_x := Hd (KW_x.out.below (HBW.out.trans (hV.mono (by omega))))
       have rn_y := Hd (RW_y.out.below (HBW.out.trans (hV.mono (by omega))))
       have rd_y := Hd (KW_y.out.below (HBW.out.trans (hV.mono (by omega))))
       clear hV hK qx qy
       go_simp
       first
       | exact Below.refl _ _
       | ((with_reducible refine (etimes n f p A B2 c e2 V rn_x.out rd_y.out (by omega) (by omega) HP.out).mono ?_); rintro e w' ⟨v, rfl, hv, hb⟩; exact ⟨hv.base (Nat.zero_le _), hb⟩)
       | ((with_reducible refine (etimes m d q A2 B c2 e0 V rn_y.out rd_x.out (by omega) (by omega) HQ.out).mono ?_); rintro e w' ⟨v, rfl, hv, hb⟩; exact ⟨hv.base (Nat.zero_le _), hb⟩)
)
    | (intro V hV hK h1 h2
       obtain ⟨A6, c6, rfl, r6⟩ := h1.raw
       obtain ⟨A7, c7, rfl, r7⟩ := h2.raw
       clear hV hK h1 h2
       go_simp
       refine (ecmp p q k A6 A7 c6 c7 V r6 r7 (by omega) (by omega) HK.out).mono ?_
       rintro e w' ⟨rfl, hb⟩
       exact ⟨rfl, hb⟩)
  · simp [EndF, FactsF, freeAct, fill, pairs]
    intro u1 u2 V hV hK _ _ _ _ _
    have HB9 := Hd (HBW.out.trans (hV.mono (by omega)))
    clear hV hK
    go_wp2_with fail
    go_ret
    exact ⟨rfl, HB9.out⟩
/- Checks of package ratio: may all fractions of a list be? -/

structure FLoc where
  n1 : Bool
  A : Option Addr
  n : Nat
  c : Nat
  n2 : Bool
  B : Option Addr
  m : Nat
  e : Nat
def FLoc.val (q : FLoc) : Value := .agg #[.bool q.n1, .slice q.A q.n q.c, .bool q.n2, .slice q.B q.m q.e]
def FLoc.cells (q : FLoc) : List Value := [.bool q.n1, .slice q.A q.n q.c, .bool q.n2, .slice q.B q.m q.e]
def cellsF (l : List FLoc) : List Value := l.flatMap FLoc.cells
theorem cellsF_get : ∀ (l : List FLoc) (k : Nat) (hk : k < l.length), (cellsF l)[k * 4]? = some (.bool l[k].n1) ∧ (cellsF l)[k * 4 + 1]? = some (.slice l[k].A l[k].n l[k].c) ∧ (cellsF l)[k * 4 + 2]? = some (.bool l[k].n2) ∧ (cellsF l)[k * 4 + 3]? = some (.slice l[k].B l[k].m l[k].e)
  | [], k, hk => by simp at hk
  | q :: l, 0, _ => by simp [cellsF, FLoc.cells]
  | q :: l, k + 1, hk => by
    have ih := cellsF_get l k (by simpa using hk)
    simp only [cellsF, List.flatMap_cons, FLoc.cells, show (k + 1) * 4 = k * 4 + 4 by omega]
    simpa [cellsF, FLoc.cells] using ih

theorem ratio_Checks (l : List FLoc) (ks : FLoc → Bool) (A : Option Addr) (c : Nat) (hl : l.length ≤ 9223372036854775807) (w : World) (h : Reads w w.heap.size 4 A l.length (cellsF l))
    (H : ∀ q ∈ l, ∀ V, Below w.heap.size w V → Calls Tryz.prog 68 #[q.val] V fun e w' => e = .returned (.int .i64 (if ks q then 0 else 1)) ∧ Below V.heap.size V w') :
    Calls Tryz.prog 40 #[.slice A l.length c] w fun e w' => e = .returned (.bool (l.all ks)) ∧ Below w.heap.size w w' := by
  have HR := Hd h
  have HS := Hd H
  clear h H
  have H0 := Hd (by intro j hj; omega : ∀ j (_ : j < 0), (h : j < l.length) → ks l[j] = true)
  go_enter Tryz.func40, Tryz.ntmps40
  go_wp2_with fail
  go_loopw [7] (fun s wr => ∃ i : Nat, s = .int .i64 i ∧ i ≤ l.length ∧ Hid (∀ j (_ : j < i), (h : j < l.length) → ks l[j] = true) ∧ Below w.heap.size w wr) (fun s _ => l.length - (intOf s).toNat)
  case atStart => exact ⟨0, rfl, Nat.zero_le _, H0, Below.refl _ _⟩
  case round =>
    obtain ⟨i, rfl, hi, HN, hb⟩ := hrel
    clear H0
    by_cases hlt : i < l.length
    · have a0 : (0 : Int) ≤ (i : Int) := by omega
      have a1 : (i : Int) < (l.length : Int) := by omega
      obtain ⟨e0, e1, e2, e3⟩ := cellsF_get l i hlt
      obtain ⟨ad, rfl, hbl, c0, c1, c2, c3⟩ := (HR.out.below hb).row4 hlt e0 e1 e2 e3
      have C := HS.out _ (List.getElem_mem hlt)
      unfold FLoc.val at C
      have HB := Hd hb
      clear e0 e1 e2 e3 hbl hb
      by_cases hlong : ks l[i] = true
      · rw [if_pos hlong] at C
        have C := Hd C
        have HL := Hd hlong
        clear hlong
        go_wp2_with (first | (go_at_call 68; with_reducible refine (C.out _ (HB.out.alloc HB.out.size _)).mono ?_; rintro e w' ⟨rfl, hb'⟩; have B1 := belowTo (HB.out.alloc HB.out.size _) hb'))
        go_roundw
        case rel =>
          refine ⟨i + 1, by go_num, hlt, Hd fun j hj h => ?_, B1⟩
          rcases (by omega : j < i ∨ j = i) with hj | rfl
          · exact HN.out j hj h
          · exact HL.out
        case measure => simp [intOf]; omega
      · rw [if_neg hlong] at C
        have C := Hd C
        have HL := Hd hlong
        clear hlong
        go_wp2_with (first | (go_at_call 68; with_reducible refine (C.out _ (HB.out.alloc HB.out.size _)).mono ?_; rintro e w' ⟨rfl, hb'⟩; have B1 := belowTo (HB.out.alloc HB.out.size _) hb'))
        go_ret
        have e : l.all ks = false := List.all_eq_false.2 ⟨l[i], List.getElem_mem hlt, HL.out⟩
        exact ⟨by rw [e]; rfl, B1⟩
    · have HB := Hd hb
      clear hb
      go_wp2_with fail
      go_ret
      have e : l.all ks = true := List.all_eq_true.2 fun x hx => by
        obtain ⟨j, hj, rfl⟩ := List.getElem_of_mem hx
        exact HN.out j (by omega) hj
      exact ⟨by rw [e]; rfl, HB.out⟩

theorem chkE_bool (n1 n2 : Bool) (xs ys : List Nat) : chkE n1 n2 xs ys = if (chkE n1 n2 xs ys == 0) = true then 0 else 1 := by
  unfold chkE
  split <;> (try split) <;> simp_all
theorem checks_new (n1 n2 : Bool) (A B : Option Addr) (c e0 : Nat) (xs ys : List Nat) (V : World) (g' : Nat) (h : Raw V A c xs) (g : Raw V B e0 ys) (hg : V.heap.size = g') :
    Calls Tryz.prog 40 #[.slice (some ⟨g', 0, none⟩) 1 1] (V.alloc (.cells #[.bool n1, .slice A xs.length c, .bool n2, .slice B ys.length e0] 27)) fun e w' => e = .returned (.bool (chkE n1 n2 xs ys == 0)) ∧ Below (V.alloc (.cells #[.bool n1, .slice A xs.length c, .bool n2, .slice B ys.length e0] 27)).heap.size (V.alloc (.cells #[.bool n1, .slice A xs.length c, .bool n2, .slice B ys.length e0] 27)) w' := by
  have := ratio_Checks [⟨n1, A, xs.length, c, n2, B, ys.length, e0⟩] (fun _ => chkE n1 n2 xs ys == 0) (some ⟨g', 0, none⟩) 1 (by simp) (V.alloc (.cells #[.bool n1, .slice A xs.length c, .bool n2, .slice B ys.length e0] 27))
    (by subst hg; exact (Reads.new1 V 27 4 [.bool n1, .slice A xs.length c, .bool n2, .slice B ys.length e0] rfl).more (by simp))
    (by
      intro q hq W hW
      obtain rfl : q = ⟨n1, A, xs.length, c, n2, B, ys.length, e0⟩ := by simpa using hq
      rw [← chkE_bool]
      exact ratio_Check n1 n2 A B c e0 xs ys W ((h.alloc _).below hW) ((g.alloc _).below hW))
  simpa using this
/- strings.Builder of a call's own: copyCheck, WriteByte, WriteString at this dump (whose copyCheck has no panic's text: so the shelf's do not lie here). -/

theorem builderSize : (Tryz.prog.info? 141).map (·.size) = some 2 := by kernel_rfl
theorem builderLies : liesAt Tryz.prog Tryz.prog.depth 141 (2 / Tryz.prog.cellsOf 141) 0 141 1 = true := by kernel_rfl
theorem byteInfo : (Tryz.prog.info? 5).map (fun i => (i.zero, i.size, i.bytes)) = some (some (.int .u8 0), 1, 1) := by kernel_rfl
abbrev Bld (B b : Nat) (bs : List Value) (w : World) : Prop := Lib.IsBuilder 141 5 B b bs w

theorem check_used (b : Nat) (w : World) (h0 : w.cell? ⟨b, 0, none⟩ = some (.pointer (some ⟨b, 0, none⟩))) :
    Calls Tryz.prog 124 #[.pointer (some ⟨b, 0, none⟩)] w fun e w' => e = .returned (.tuple #[]) ∧ w' = w := by
  obtain ⟨j, hj, -⟩ := Option.map_eq_some_iff.1 builderSize
  go_enter Tryz.func124, Tryz.ntmps124
  go_wp2
  rw [Lib.run_neq_ptr_same w _ Tryz.underlying138 hj]
  go_wp2
  go_end0
  exact ⟨rfl, rfl⟩

theorem check_fresh (b : Nat) (w : World) (h0 : w.cell? ⟨b, 0, none⟩ = some (.pointer none)) (hsh : w.shape? b = some (141, 2)) (hfz : w.frozen? ⟨b, 0, none⟩ = false) :
    Calls Tryz.prog 124 #[.pointer (some ⟨b, 0, none⟩)] w fun e w' => e = .returned (.tuple #[]) ∧ w' = w.setCell ⟨b, 0, none⟩ (.pointer (some ⟨b, 0, none⟩)) := by
  obtain ⟨j, hj, hjs⟩ := Option.map_eq_some_iff.1 builderSize
  go_enter Tryz.func124, Tryz.ntmps124
  go_wp2
  rw [Lib.run_to_unsafe w ⟨b, 0, none⟩ Tryz.underlying138 Tryz.underlying156 hj (by rw [hjs]; decide) hsh (Nat.zero_lt_succ 1)]
  simp only [Result.andThen]
  rw [Oper.upon_value]
  go_wp2
  rw [run_callFunc_extern Tryz.func129 (by kernel_rfl) (by kernel_rfl) (by kernel_rfl) (e := Extern.AbiNoEscape.same) (by kernel_rfl)]
  rw [Lib.run_noEscape]
  simp only [Result.andThen]
  rw [Oper.upon_value]
  go_wp2
  rw [Lib.run_from_unsafe w ⟨b, 0, none⟩ Tryz.underlying156 Tryz.underlying138 hj hsh builderLies]
  simp only [Result.andThen]
  rw [Oper.upon_value]
  go_wp2
  go_end0
  exact ⟨rfl, rfl⟩

theorem builder_check (B b : Nat) (bs : List Value) (w : World) (h : Bld B b bs w) :
    Calls Tryz.prog 124 #[.pointer (some ⟨b, 0, none⟩)] w fun e w' => e = .returned (.tuple #[]) ∧ Lib.BuilderAt 141 5 B b (.pointer (some ⟨b, 0, none⟩)) bs w' ∧ Below B w w' ∧ w'.heap.size = w.heap.size ∧ w.grownBy w' (some b) := by
  rcases h with h | h
  · refine (check_fresh b w h.cell0 h.shape h.frozen0).mono ?_
    rintro e w' ⟨rfl, rfl⟩
    exact ⟨rfl, h.used _, (Below.refl B w).setCell (p := ⟨b, 0, none⟩) h.1 _, by simp [World.setCell], ⟨rfl, rfl, rfl, by simp [World.setCell], fun k _ hk => Below.heap_setCell _ _ _ _ (fun e => hk (by simp [e]))⟩⟩
  · refine (check_used b w h.cell0).mono ?_
    rintro e w' ⟨rfl, rfl⟩
    exact ⟨rfl, h, Below.refl B _, rfl, World.grownBy.refl _ _⟩

theorem write_byte (B b : Nat) (bs : List Value) (u : Int) (w : World) (h : Bld B b bs w) (hlen : bs.length + 1 ≤ 140737488355328) (hBw : B ≤ w.heap.size) :
    Calls Tryz.prog 117 #[.pointer (some ⟨b, 0, none⟩), .int .u8 u] w fun e w' => e = .returned .nilIface ∧ Bld B b (bs ++ [.int .u8 u]) w' ∧ Below B w w' := by
  obtain ⟨i0, hi, hz0, hz1, hz2⟩ := info_parts byteInfo
  have C := Hd (builder_check B b bs w h)
  clear h
  go_enter Tryz.func117, Tryz.ntmps117
  go_wp2_with fail
  refine C.out.mono ?_
  rintro e w1 ⟨rfl, ⟨hB, v, hbk, hown, hne⟩, hb1, hs1, -⟩
  have c0 : w1.cell? ⟨b, 0, none⟩ = some (.pointer (some ⟨b, 0, none⟩)) := by rw [Lib.cell_of_heap hbk]; rfl
  have c1 : w1.cell? ⟨b, 1, none⟩ = some v := by rw [Lib.cell_of_heap hbk]; rfl
  have hlt : b < w1.heap.size := by
    rcases Nat.lt_or_ge b w1.heap.size with h' | h'
    · exact h'
    · simp [Array.getElem?_eq_none h'] at hbk
  have HB1 := Hd hb1
  have hBw1 : B ≤ w1.heap.size := by omega
  have hwl : w.heap.size ≤ w1.heap.size := by omega
  clear C hb1 hs1
  go_wp2_with (
      at_builtin
      refine wpList_append_own _ rfl _ _ 139 rfl B 5 i0 (.int .u8 0) 1 1 Tryz.underlying139 hi hz0 hz1 hz2 rfl (by decide) _ _ _ rfl (hown.alloc _) ⟨w1.heap.size, 0, none⟩ 1 1 [.int .u8 u] rfl rfl (by
      intro j x hj
      match j, hj with
      | 0, hj => simp at hj; subst hj; simp [Addr.add]) (by intro x hx; simp at hx; subst hx; rfl) (by unfold maxLen; omega) (by omega) (by simp; omega) ?_
      intro v' w2 hown' hgrow hat'
      have hb2 : w2.heap[b]? = some (.cells #[.pointer (some ⟨b, 0, none⟩), v] 141 (0, 0)) := by
        rw [hgrow.block b (by simp; omega) (fun e => hne e.symm), Lib.alloc_old w1 _ b hlt]
        exact hbk
      have d0 : w2.cell? ⟨b, 0, none⟩ = some (.pointer (some ⟨b, 0, none⟩)) := by rw [Lib.cell_of_heap hb2]; rfl
      have d1 : w2.cell? ⟨b, 1, none⟩ = some v := by rw [Lib.cell_of_heap hb2]; rfl
      have f1 : w2.frozen? ⟨b, 1, none⟩ = false := Lib.frozen_of_heap hb2 1
      obtain ⟨g, cap, rfl⟩ : ∃ g cap, v' = .slice (some ⟨g, 0, none⟩) (bs.length + 1) cap := by
        rcases hown'.2 with ⟨_, h0⟩ | ⟨g, cap, cur, hv, _⟩
        · omega
        · exact ⟨g, cap, hv⟩)
  go_ret
  refine ⟨rfl, .inr ?_, ?_⟩
  · exact Lib.BuilderAt.put (T := 141) (e := 5) hB hb2 (bs' := bs ++ [.int .u8 u]) (by simpa using hown') (by decide)
  · exact ((HB1.out.alloc (by omega) _).grown hgrow (by simp; omega) (fun k hk => (hown.lt k hk).1)).setCell (p := ⟨b, 1, none⟩) hB _

theorem write_string (B b : Nat) (bs : List Value) (s : ByteArray) (w : World) (h : Bld B b bs w) (hlen : bs.length + s.size ≤ 140737488355328) (hBw : B ≤ w.heap.size) :
    Calls Tryz.prog 118 #[.pointer (some ⟨b, 0, none⟩), .string s] w fun e w' => e = .returned (.tuple #[.int .i64 s.size, .nilIface]) ∧ Bld B b (bs ++ Lib.strCells s) w' ∧ Below B w w' := by
  obtain ⟨i0, hi, hz0, hz1, hz2⟩ := info_parts byteInfo
  have C := Hd (builder_check B b bs w h)
  clear h
  go_enter Tryz.func118, Tryz.ntmps118
  go_wp2_with fail
  refine C.out.mono ?_
  rintro e w1 ⟨rfl, ⟨hB, v, hbk, hown, hne⟩, hb1, hs1, -⟩
  have c0 : w1.cell? ⟨b, 0, none⟩ = some (.pointer (some ⟨b, 0, none⟩)) := by rw [Lib.cell_of_heap hbk]; rfl
  have c1 : w1.cell? ⟨b, 1, none⟩ = some v := by rw [Lib.cell_of_heap hbk]; rfl
  have hlt : b < w1.heap.size := by
    rcases Nat.lt_or_ge b w1.heap.size with h' | h'
    · exact h'
    · simp [Array.getElem?_eq_none h'] at hbk
  have HB1 := Hd hb1
  have hBw1 : B ≤ w1.heap.size := by omega
  have hwl : w.heap.size ≤ w1.heap.size := by omega
  clear C hb1 hs1
  go_wp2_with (
      at_builtin
      refine Lib.wpList_append_own_string _ rfl _ _ 139 9 rfl B 5 i0 Tryz.underlying139 Tryz.underlying9 hi hz0 hz1 hz2 _ _ _ rfl hown s rfl (by unfold maxLen; omega) (by omega) (by omega) ?_
      intro v' w2 hown' hgrow hat'
      have hb2 : w2.heap[b]? = some (.cells #[.pointer (some ⟨b, 0, none⟩), v] 141 (0, 0)) := by
        rw [hgrow.block b hlt (fun e => hne e.symm)]
        exact hbk
      have d0 : w2.cell? ⟨b, 0, none⟩ = some (.pointer (some ⟨b, 0, none⟩)) := by rw [Lib.cell_of_heap hb2]; rfl
      have d1 : w2.cell? ⟨b, 1, none⟩ = some v := by rw [Lib.cell_of_heap hb2]; rfl
      have f1 : w2.frozen? ⟨b, 1, none⟩ = false := Lib.frozen_of_heap hb2 1
      obtain ⟨ao, n', cap, rfl⟩ : ∃ ao n' cap, v' = .slice ao n' cap := by
        rcases hown'.2 with ⟨hv, _⟩ | ⟨g, cap, cur, hv, _⟩
        · exact ⟨_, _, _, hv⟩
        · exact ⟨_, _, _, hv⟩)
  go_ret2
  refine ⟨rfl, .inr ?_, ?_⟩
  · exact Lib.BuilderAt.put (T := 141) (e := 5) hB hb2 (bs' := bs ++ Lib.strCells s) (by simpa [Lib.strCells_length] using hown') (by decide)
  · exact (HB1.out.grown hgrow (by omega) (fun k hk => (hown.lt k hk).1)).setCell (p := ⟨b, 1, none⟩) hB _
/- Decimal digits by nines: plain Lean. -/

def padN : Nat → Nat → List UInt8
  | 0, _ => []
  | k + 1, c => padN k (c / 10) ++ [UInt8.ofNat (48 + c % 10)]
theorem padN_length : ∀ (k c : Nat), (padN k c).length = k
  | 0, _ => rfl
  | k + 1, c => by simp [padN, padN_length k]
theorem dec_last {v : Nat} (h : 10 ≤ v) : Lib.decDigits v = Lib.decDigits (v / 10) ++ [UInt8.ofNat (48 + v % 10)] := by
  rw [Lib.decDigits, dif_neg (by omega)]
theorem dec_split : ∀ (k v : Nat), 10 ^ k ≤ v → Lib.decDigits v = Lib.decDigits (v / 10 ^ k) ++ padN k v
  | 0, v, _ => by simp [padN]
  | k + 1, v, h => by
    have e : 10 ^ (k + 1) = 10 * 10 ^ k := by rw [Nat.pow_succ, Nat.mul_comm]
    have hp : 0 < 10 ^ k := Nat.pow_pos (by omega)
    have h10 : 10 ≤ v := by
      have : 10 * 1 ≤ 10 * 10 ^ k := Nat.mul_le_mul_left _ hp
      omega
    have hk : 10 ^ k ≤ v / 10 := by
      rw [Nat.le_div_iff_mul_le (by omega), Nat.mul_comm]; omega
    rw [dec_last h10, dec_split k (v / 10) hk, padN, e, Nat.div_div_eq_div_mul, List.append_assoc]
theorem padN_dec : ∀ (k c : Nat), 0 < k → c < 10 ^ k → padN k c = List.replicate (k - (Lib.decDigits c).length) 48 ++ Lib.decDigits c
  | 0, _, h, _ => absurd h (by omega)
  | k + 1, c, _, hc => by
    rw [padN]
    rcases Nat.lt_or_ge c 10 with h | h
    · have e0 : c / 10 = 0 := by omega
      have em : c % 10 = c := by omega
      rw [e0, em, Lib.decDigits_one h]
      have z : ∀ j, padN j 0 = List.replicate j 48 := by
        intro j
        induction j with
        | zero => rfl
        | succ j ih => rw [padN, Nat.zero_div, ih, List.replicate_succ']; rfl
      rw [z]; simp
    · have hk : 0 < k := by
        rcases Nat.eq_zero_or_pos k with h0 | h0
        · subst h0; simp at hc; omega
        · exact h0
      have hc2 : c / 10 < 10 ^ k := by
        rw [Nat.div_lt_iff_lt_mul (by omega), Nat.mul_comm, ← Nat.pow_succ']; exact hc
      rw [padN_dec k (c / 10) hk hc2, dec_last h, List.append_assoc]
      simp
theorem padN_mod (k : Nat) : ∀ (c : Nat), padN k (c % 10 ^ k) = padN k c := by
  induction k with
  | zero => intro c; rfl
  | succ k ih =>
    intro c
    rw [padN, padN]
    have e : 10 ^ (k + 1) = 10 * 10 ^ k := by rw [Nat.pow_succ, Nat.mul_comm]
    have e1 : c % 10 ^ (k + 1) / 10 = c / 10 % 10 ^ k := by rw [e, Nat.mod_mul_right_div_self]
    have e2 : c % 10 ^ (k + 1) % 10 = c % 10 := by rw [e, Nat.mod_mul_right_mod]
    rw [e1, e2, ih]
theorem pad9 (c : Nat) (h : c < 1000000000) : padN 9 c = List.replicate (9 - (Lib.decDigits c).length) 48 ++ Lib.decDigits c := padN_dec 9 c (by omega) (by simpa using h)
theorem dec_nine {v : Nat} (h : 1000000000 ≤ v) : Lib.decDigits v = Lib.decDigits (v / 1000000000) ++ padN 9 (v % 1000000000) := by
  have e : (10 : Nat) ^ 9 = 1000000000 := by decide
  have := dec_split 9 v (by rw [e]; exact h)
  rw [← padN_mod, e] at this
  exact this
def chunks (v : Nat) : List Nat := if h : v = 0 then [] else (v % 1000000000) :: chunks (v / 1000000000)
decreasing_by omega
theorem chunks_nil : chunks 0 = [] := by rw [chunks, dif_pos rfl]
theorem chunks_cons {v : Nat} (h : v ≠ 0) : chunks v = (v % 1000000000) :: chunks (v / 1000000000) := by rw [chunks, dif_neg h]
theorem chunks_lt : ∀ (v : Nat), ∀ c ∈ chunks v, c < 1000000000 := by
  intro v
  induction v using Nat.strongRecOn with
  | ind v ih =>
    intro c hc
    by_cases h : v = 0
    · subst h; rw [chunks_nil] at hc; simp at hc
    · rw [chunks_cons h] at hc
      rcases List.mem_cons.1 hc with rfl | hc
      · omega
      · exact ih _ (by omega) c hc
def chunkText : List Nat → List UInt8
  | [] => []
  | [c] => Lib.decDigits c
  | c :: d :: r => chunkText (d :: r) ++ padN 9 c
theorem chunk_text : ∀ (v : Nat), v ≠ 0 → chunkText (chunks v) = Lib.decDigits v := by
  intro v
  induction v using Nat.strongRecOn with
  | ind v ih =>
    intro h
    rw [chunks_cons h]
    by_cases h2 : v / 1000000000 = 0
    · rw [h2, chunks_nil]
      show Lib.decDigits (v % 1000000000) = _
      rw [Nat.mod_eq_of_lt (by omega)]
    · rw [dec_nine (by omega), ← ih _ (by omega) h2, chunks_cons h2]
      rfl
theorem dec_short : ∀ (k c : Nat), 0 < k → c < 10 ^ k → (Lib.decDigits c).length ≤ k
  | 0, _, h, _ => absurd h (by omega)
  | k + 1, c, _, hc => by
    rcases Nat.lt_or_ge c 10 with h | h
    · rw [Lib.decDigits_one h]; simp
    · have hk : 0 < k := by
        rcases Nat.eq_zero_or_pos k with h0 | h0
        · subst h0; simp at hc; omega
        · exact h0
      have hc2 : c / 10 < 10 ^ k := by
        rw [Nat.div_lt_iff_lt_mul (by omega), Nat.mul_comm, ← Nat.pow_succ']; exact hc
      have := dec_short k (c / 10) hk hc2
      rw [dec_last h]; simp; omega
theorem dec_nine_len {c : Nat} (h : c < 1000000000) : (Lib.decDigits c).length ≤ 9 := dec_short 9 c (by omega) (by simpa using h)
theorem chunkText_length : ∀ (cs : List Nat), (∀ c ∈ cs, c < 1000000000) → (chunkText cs).length ≤ 9 * cs.length
  | [], _ => by simp [chunkText]
  | [c], h => by have := dec_nine_len (h c (by simp)); simp [chunkText]; omega
  | c :: d :: r, h => by
    have := chunkText_length (d :: r) (fun x hx => h x (List.mem_cons_of_mem _ hx))
    simp [chunkText, padN_length] at *
    omega
theorem chunk_top {cs : List Nat} {m : Nat} (h : m + 1 = cs.length) : chunkText (cs.drop m) = Lib.decDigits (cs[m]'(by omega)) := by
  have e : cs.drop m = [cs[m]'(by omega)] := by
    rw [List.drop_eq_getElem_cons (by omega), List.drop_eq_nil_of_le (by omega)]
  rw [e]; rfl
theorem chunk_next {cs : List Nat} {m : Nat} (h : m + 1 < cs.length) : chunkText (cs.drop m) = chunkText (cs.drop (m + 1)) ++ padN 9 (cs[m]'(by omega)) := by
  have e : cs.drop m = cs[m]'(by omega) :: cs[m + 1]'h :: cs.drop (m + 1 + 1) := by
    rw [List.drop_eq_getElem_cons (by omega), List.drop_eq_getElem_cons h]
  have e2 : cs.drop (m + 1) = cs[m + 1]'h :: cs.drop (m + 1 + 1) := List.drop_eq_getElem_cons h
  rw [e, e2]; rfl
end Go.Proofs.YtmcnmoljliggfaaGreatDoor
