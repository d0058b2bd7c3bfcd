/- Several texts in one: Lowestq1, FMakeq1, FOfq1, FLawq1. -/
import Derived.Test.YtkncbenhfcpgkaaGreatDoorPu27
import Derived.Test.YtkncbenhfcpgkaaGreatDoorPuHd
import Derived.Test.YtkncbenhfcpgkaaGreatDoorPu25
import Derived.Test.YtkncbenhfcpgkaaGreatDoorPu18
import Derived.Test.YtkncbenhfcpgkaaGreatDoorPu36
import Derived.Test.YtkncbenhfcpgkaaGreatDoorPu19
import Derived.Test.YtkncbenhfcpgkaaGreatDoorPu14
import Derived.Test.YtkncbenhfcpgkaaGreatDoorPu23
import Derived.Test.YtkncbenhfcpgkaaGreatDoorPu08
import Derived.Test.YtkncbenhfcpgkaaGreatDoorPu34
import Derived.Test.YtkncbenhfcpgkaaGreatDoorPu07
import Derived.Test.YtkncbenhfcpgkaaGreatDoorPu22
import Derived.Test.YtkncbenhfcpgkaaGreatDoorPu05
import Derived.Test.YtkncbenhfcpgkaaGreatDoorPu04
import Derived.Test.YtkncbenhfcpgkaaGreatDoorPu01
import Derived.Test.YtkncbenhfcpgkaaGreatDoorPu03
import Derived.Test.YtkncbenhfcpgkaaGreatDoorPu33
import Derived.Test.YtkncbenhfcpgkaaGreatDoorPu02
import Derived.Test.YtkncbenhfcpgkaaGreatDoorPu06
import Derived.Test.YtkncbenhfcpgkaaGreatDoorPu11
import Derived.Test.YtkncbenhfcpgkaaGreatDoorPu13
import Derived.Test.YtkncbenhfcpgkaaGreatDoorPu12
import Derived.Test.YtkncbenhfcpgkaaGreatDoorPu16
import Derived.Test.YtkncbenhfcpgkaaGreatDoorPu24
import Derived.Test.YtkncbenhfcpgkaaGreatDoorPu17
import Derived.Test.YtkncbenhfcpgkaaGreatDoorPu35
import Derived.Test.YtkncbenhfcpgkaaGreatDoorPu15
import Derived.Test.YtkncbenhfcpgkaaGreatDoorPu09
import Derived.Test.YtkncbenhfcpgkaaGreatDoorPu28
import Derived.Test.YtkncbenhfcpgkaaGreatDoorPu20
import Derived.Test.YtkncbenhfcpgkaaGreatDoorPu26
import Derived.Test.YtkncbenhfcpgkaaGreatDoorPu29
import Derived.Test.YtkncbenhfcpgkaaGreatDoorPu30
import Derived.Test.YtkncbenhfcpgkaaGreatDoorPu10
set_option maxRecDepth 100000
set_option maxHeartbeats 8000000
/- Lowest of package ratio: in lowest terms. (Written by wip/frac/genlowest.py.) -/
namespace Go.Proofs.YtkncbenhfcpgkaaGreatDoor
open Go.RowKit

theorem elowest_one_neg (n d : Int) (A B : Option Addr) (c e0 : Nat) (w : World) (h_n : Raw w A c (natL n.natAbs)) (h_d : Raw w B e0 (natL d.natAbs)) (hn : lz n ≤ 400000000) (hd : lz d ≤ 400000000) (hd0 : d ≠ 0) (hs0 : d < 0) (hgc : gcdZ n d = 1) :
    Calls Tryz.prog 196 #[.agg #[.bool (decide (n < 0)), .slice A (natL n.natAbs).length c], .agg #[.bool (decide (d < 0)), .slice B (natL d.natAbs).length e0]] w (RetFrac w (lowN n d) (lowD n d)) := by
  obtain ⟨g, hg⟩ : ∃ k : Int, k = gcdZ n d := ⟨_, rfl⟩
  obtain ⟨one, hone⟩ : ∃ k : Int, k = 1 := ⟨_, rfl⟩
  obtain ⟨q, hq⟩ : ∃ k : Int, k = n.tdiv g := ⟨_, rfl⟩
  obtain ⟨r, hr⟩ : ∃ k : Int, k = n.tmod g := ⟨_, rfl⟩
  obtain ⟨p, hp⟩ : ∃ k : Int, k = d.tdiv g := ⟨_, rfl⟩
  obtain ⟨s, hs⟩ : ∃ k : Int, k = d.tmod g := ⟨_, rfl⟩
  obtain ⟨q', hq'⟩ : ∃ k : Int, k = -q := ⟨_, rfl⟩
  obtain ⟨p', hp'⟩ : ∃ k : Int, k = -p := ⟨_, rfl⟩
  have hgp := gcdZ_pos (n := n) hd0
  have hgl := gcdZ_lz (n := n) hd0
  rw [← hg] at hgp hgl hgc
  have hql : lz q ≤ lz n := by rw [hq]; exact tdiv_lz n g
  have hpl : lz p ≤ lz d := by rw [hp]; exact tdiv_lz d g
  have hps : p.sign = d.sign := by rw [hp, hg]; exact tdiv_sign hd0
  have hol : lz one ≤ 2 := by rw [hone]; decide
  obtain ⟨sg, hsg⟩ : ∃ k : Int, k = p.sign := ⟨_, rfl⟩
  have HSG := Hd hsg
  have HSN := Hd (show decide (sg < 0) = true from by
    rw [hsg, hps]
    exact decide_eq_true (by rw [Int.sign_eq_neg_one_of_neg hs0]; decide))
  have HG := Hd (show g = ((Nat.gcd n.natAbs d.natAbs : Nat) : Int) from hg)
  have H1 := Hd hone
  have HG0 := Hd (show g ≠ 0 from by omega)
  have HQ := Hd (And.intro hq hr)
  have HP := Hd (And.intro hp hs)
  have HN1 := Hd hq'
  have HN2 := Hd hp'
  have HK := Hd (show (0 : Int) = cmpz g one from by rw [hone]; rw [hgc]; decide)
  have HLN := Hd (show lowN n d = q' ∧ lowD n d = p' from by
    unfold lowN lowD
    rw [if_pos hs0, if_pos hs0, ← hg, ← hq, ← hp, hq', hp']
    exact ⟨rfl, rfl⟩)
  have HQN := Hd (show q = n ∧ p = d from by rw [hq, hp, hgc]; exact ⟨Int.tdiv_one _, Int.tdiv_one _⟩)
  clear hgc hg hone hq hr hp hs hq' hp' hs0 hsg hps hd0
  have b0 := ((((Below.refl w.heap.size w).alloc (Nat.le_refl _) (.cells #[.bool (decide (n < 0)), .slice A (natL n.natAbs).length c] 24)).alloc (by simp) (.cells #[.bool (decide (d < 0)), .slice B (natL d.natAbs).length e0] 24)).alloc (by simp; omega) (.cells #[.bool false, .slice none 0 0, .bool false, .slice none 0 0] 56))
  have p0 := ((Pair.new w 24 (.bool (decide (n < 0))) (.slice A (natL n.natAbs).length c)).alloc (.cells #[.bool (decide (d < 0)), .slice B (natL d.natAbs).length e0] 24)).alloc (.cells #[.bool false, .slice none 0 0, .bool false, .slice none 0 0] 56)
  have p1 := (Pair.new (w.alloc (.cells #[.bool (decide (n < 0)), .slice A (natL n.natAbs).length c] 24)) 24 (.bool (decide (d < 0))) (.slice B (natL d.natAbs).length e0)).alloc (.cells #[.bool false, .slice none 0 0, .bool false, .slice none 0 0] 56)
  have p2 := Quad.new ((w.alloc (.cells #[.bool (decide (n < 0)), .slice A (natL n.natAbs).length c] 24)).alloc (.cells #[.bool (decide (d < 0)), .slice B (natL d.natAbs).length e0] 24)) (.bool false) (.slice none 0 0) (.bool false) (.slice none 0 0)
  simp only [World.size_alloc] at p1 p2
  have V_n := Hd (NV.of h_n b0 p0)
  have V_d := Hd (NV.of h_d b0 p1)
  have P_r0 := Hd p2
  have RW_n := Hd h_n
  have RW_d := Hd h_d
  have HBW := Hd b0
  clear b0 p0 p1 p2 h_n h_d
  go_enter Tryz.func196, Tryz.ntmps196
  obtain ⟨W, E⟩ : ∃ W, W = (((w.alloc (.cells #[.bool (decide (n < 0)), .slice A (natL n.natAbs).length c] 24)).alloc (.cells #[.bool (decide (d < 0)), .slice B (natL d.natAbs).length e0] 24)).alloc (.cells #[.bool false, .slice none 0 0, .bool false, .slice none 0 0] 56)) := ⟨_, rfl⟩
  go_upto_region 1 with fail
  rw [← E] at V_n V_d P_r0 HBW ⊢
  clear E
  have hsz := P_r0.out.blk.lt
  obtain ⟨l_n, a_n, b_n, -, -⟩ := V_n.out.pair.facts
  obtain ⟨l_d, a_d, b_d, -, -⟩ := V_d.out.pair.facts
  go_wp2_with fail
  refine (ecommon n d g A B c e0 W V_n.out.raw V_d.out.raw (by omega) (by omega) HG.out).mono ?_
  rintro e x1 ⟨v, rfl, hI, hb⟩
  obtain ⟨A1, c1, rfl, r1⟩ := hI.raw
  have hIg := hI.base (Nat.zero_le _)
  have hszg := hb.size
  clear l_n a_n b_n l_d a_d b_d
  have V_n := Hd (V_n.out.below hb)
  have V_d := Hd (V_d.out.below hb)
  have P_r0 := Hd (P_r0.out.below hb)
  have HBW := Hd (belowTo HBW.out hb)
  have R_g := Hd r1
  clear hb r1
  have O_g := Hd hIg
  clear hI hIg
  go_upto_region 2 with fail
  have ha := ((Below.refl x1.heap.size x1).alloc (Nat.le_refl _) (.cells #[.bool (decide (g < 0)), .slice A1 (natL g.natAbs).length c1] 24))
  have p_g := (Pair.new x1 24 (.bool (decide (g < 0))) (.slice A1 (natL g.natAbs).length c1))
  obtain ⟨y2, E⟩ : ∃ W, W = (x1.alloc (.cells #[.bool (decide (g < 0)), .slice A1 (natL g.natAbs).length c1] 24)) := ⟨_, rfl⟩
  rw [← E] at ha p_g ⊢
  have V_g := Hd (NV.of R_g.out ha p_g)
  have V_n := Hd (V_n.out.below ha)
  have V_d := Hd (V_d.out.below ha)
  have P_r0 := Hd (P_r0.out.below ha)
  have O_g := Hd (O_g.out.below ha)
  have HBW := Hd (belowTo HBW.out ha)
  obtain ⟨g2, hg⟩ : ∃ g, g = x1.heap.size := ⟨_, rfl⟩
  rw [← hg] at V_g ⊢
  have hge2 : x1.heap.size ≤ g2 := by omega
  clear E ha hg p_g
  go_wp2_with fail
  obtain ⟨W0, hW⟩ : ∃ W0, W0 = y2 := ⟨_, rfl⟩
  rw [← hW] at HBW P_r0 O_g V_n V_d V_g  ⊢
  clear hW
  refine wp_region_free [.val (.agg #[.bool (decide (g < 0)), .slice A1 (natL g.natAbs).length c1]) [], .any false (fun u0 V => IntAt V u0 one) [], .val (.int .i64 0) [1], .val (.bool false) []] W0.heap.size W0 [] (fun _ _ => False) _ mixedOrders2 (Nat.le_refl _) (Below.refl _ _) (KeptV.refl _ _ _) rfl (by kernel_rfl) (by kernel_rfl) (by kernel_rfl) (by kernel_rfl) (by kernel_rfl) (by kernel_rfl) (by kernel_rfl) (by kernel_rfl) rfl (by simp [oldsF]) ?_ ?_ ?_ ?_
  · simp only [StableF, and_true]
    exact fun u0 V V' h k => h.keptNone k
  · simp only [OldsF]
  · simp (maxSteps := 4000000) [StepsF, DepF, freeAct, fill, pairs]
    repeat' (first | apply And.intro | (intro (u0 : Value)))
    all_goals first
    | (intro V hV hK
       obtain ⟨-, a_g, b_g, -, -⟩ := (V_g.out.below hV).pair.facts
       have r_g := Hd (V_g.out.below hV).raw
       clear hV hK
       go_simp
       first
       | exact Below.refl _ _
       | exact ⟨by first | rfl | decide | go_num, Below.refl _ _⟩
       | ((with_reducible refine (eof 1 one H1.out (by decide) (by decide) V).mono ?_); rintro e w' ⟨v, rfl, hv, hb⟩; exact ⟨hv.at_, hb⟩))
    | (intro V hV hK hu
       obtain ⟨A', c', rfl, hr⟩ := hu.form
       have r_g := Hd (V_g.out.below hV).raw
       have r' := Hd hr
       clear hV hK hu hr
       go_simp
       (with_reducible refine (ecmp g one 0 A1 A' c1 c' V r_g.out r'.out (by omega) (by omega) HK.out).mono ?_)
       rintro e w' ⟨rfl, hb⟩
       exact ⟨rfl, hb⟩)
  · simp [EndF, FactsF, freeAct, fill, pairs]
    intro u1 V hV hK _ _ _ _
    have V_n := Hd (V_n.out.below hV)
    have V_d := Hd (V_d.out.below hV)
    have V_g := Hd (V_g.out.below hV)
    have P_r0 := Hd (P_r0.out.below hV)
    have O_g := Hd (O_g.out.below hV)
    have HBW := Hd (belowTo HBW.out hV)
    clear hV hK
    obtain ⟨v3, hV0⟩ : ∃ Y, Y = V := ⟨_, rfl⟩
    rw [← hV0] at HBW P_r0 O_g V_n V_d V_g  ⊢
    clear hV0
    obtain ⟨rfl, rfl⟩ := HQN.out
    have hsn := HSN.out
    obtain ⟨l_d, a_d, b_d, -, -⟩ := V_d.out.pair.facts
    go_wp2_with fail
    refine (esign p sg B e0 v3 V_d.out.raw HSG.out).mono ?_
    rintro e x4 ⟨rfl, hb⟩
    clear l_d a_d b_d
    have V_n := Hd (V_n.out.below hb)
    have V_d := Hd (V_d.out.below hb)
    have V_g := Hd (V_g.out.below hb)
    have P_r0 := Hd (P_r0.out.below hb)
    have O_g := Hd (O_g.out.below hb)
    have HBW := Hd (belowTo HBW.out hb)
    clear hb
    go_upto_region 6 with fail
    clear hsn
    go_wp2_with fail
    have hszz := P_r0.out.blk.lt
    refine wp_region_free [.val (.agg #[.bool (decide (q < 0)), .slice A (natL q.natAbs).length c]) [1004], .any false (fun u V => IntOwn V 0 u q') [], .val (.agg #[.bool (decide (p < 0)), .slice B (natL p.natAbs).length e0]) [1005], .any false (fun u V => IntOwn V 0 u p') [], .old (w.heap.size) 24 #[.bool (decide (q < 0)), .slice A (natL q.natAbs).length c] 0 2 1 [], .old (w.heap.size + 1) 24 #[.bool (decide (p < 0)), .slice B (natL p.natAbs).length e0] 0 2 3 []] w.heap.size x4 [24] (fun _ _ => False) _ mixedOrders2 (by omega) (Below.refl _ _) (KeptV.refl _ _ _) rfl (by kernel_rfl) (by kernel_rfl) (by kernel_rfl) (by kernel_rfl) (by kernel_rfl) (by kernel_rfl) (by kernel_rfl) (by kernel_rfl) rfl (by simp [oldsF]) ?_ ?_ ?_ ?_
    · simp only [StableF, and_true]
      exact ⟨fun u V V' h k => h.kept k (by decide), fun u V V' h k => h.kept k (by decide)⟩
    · simp only [OldsF, and_true]
      exact ⟨⟨by omega, by omega, V_n.out.pair.blk, by simp⟩, by omega, by omega, V_d.out.pair.blk, by simp⟩
    · simp (maxSteps := 4000000) [StepsF, DepF, freeAct, fill, pairs]
      repeat' (first | apply And.intro | (intro (u : Value)) | (intro (u : Nat)))
      all_goals try exact ⟨_, _, _, rfl, rfl, rfl, rfl, intInfo⟩
      all_goals first
      | (intro V hV hK hp
         obtain ⟨-, a_p, b_p, -, -⟩ := (Pair.mk hp).facts
         clear hV hK hp
         go_simp
         exact Below.refl _ _)
      | (intro V hV hK
         have rn := Hd (RW_n.out.below (HBW.out.trans (hV.mono (Nat.le_refl _))))
         have rd := Hd (RW_d.out.below (HBW.out.trans (hV.mono (Nat.le_refl _))))
         clear hV hK
         go_simp
         first
         | ((with_reducible refine (eturned q q' A c V rn.out (by omega) HN1.out).mono ?_); rintro e w' ⟨v, rfl, hv, hb⟩; exact ⟨hv.base (Nat.zero_le _), hb⟩)
         | ((with_reducible refine (eturned p p' B e0 V rd.out (by omega) HN2.out).mono ?_); rintro e w' ⟨v, rfl, hv, hb⟩; exact ⟨hv.base (Nat.zero_le _), hb⟩))
      | exact fun _ _ _ (h : IntOwn _ _ _ _) => h.cells
    · simp [EndF, FactsF, freeAct, fill, pairs]
      intro u1 u2 V hV hK h1 h2 p1 p2 _ _ _
      obtain ⟨A6, c6, rfl, r6⟩ := h1.raw
      obtain ⟨A7, c7, rfl, r7⟩ := h2.raw
      simp [setAll, Value.cells] at p1 p2
      have V_n := Hd (show NV V (w.heap.size) q' A6 c6 from ⟨⟨p1⟩, r6⟩)
      have V_d := Hd (show NV V (w.heap.size + 1) p' A7 c7 from ⟨⟨p2⟩, r7⟩)
      have HBW := Hd (HBW.out.trans hV)
      have P_r0 := Hd (show Quad V _ _ _ _ _ from ⟨hK.blk P_r0.out.blk (by decide)⟩)
      clear hV hK h1 h2 p1 p2 r6 r7
      obtain ⟨l_n, a_n, b_n, -, -⟩ := V_n.out.pair.facts
      obtain ⟨l_d, a_d, b_d, -, -⟩ := V_d.out.pair.facts
      obtain ⟨l_r, c_r0, c_r1, c_r2, c_r3, f_r0, f_r1, f_r2, f_r3⟩ := P_r0.out.facts
      have HQ9 := Hd (P_r0.out.store (.bool (decide (q' < 0))) (.slice A6 (natL q'.natAbs).length c6) (.bool (decide (p' < 0))) (.slice A7 (natL p'.natAbs).length c7))
      have HB9 := Hd (below4 HBW.out (show w.heap.size ≤ w.heap.size + 1 + 1 by omega) (.bool (decide (q' < 0))) (.slice A6 (natL q'.natAbs).length c6) (.bool (decide (p' < 0))) (.slice A7 (natL p'.natAbs).length c7))
      have HF := Hd (show FracAt ((((V.setCell ⟨w.heap.size + 1 + 1, 0, none⟩ (.bool (decide (q' < 0)))).setCell ⟨w.heap.size + 1 + 1, 1, none⟩ (.slice A6 (natL q'.natAbs).length c6)).setCell ⟨w.heap.size + 1 + 1, 2, none⟩ (.bool (decide (p' < 0)))).setCell ⟨w.heap.size + 1 + 1, 3, none⟩ (.slice A7 (natL p'.natAbs).length c7)) (.agg #[.bool (decide (q' < 0)), .slice A6 (natL q'.natAbs).length c6, .bool (decide (p' < 0)), .slice A7 (natL p'.natAbs).length c7]) q' p' from ⟨_, _, _, _, rfl, V_n.out.raw.quad P_r0.out _ _ _ _, V_d.out.raw.quad P_r0.out _ _ _ _⟩)
      go_wp2_with fail
      obtain ⟨_, k0, k1, k2, k3, _⟩ := HQ9.out.facts
      exact bodyPost_ret (by simp [results, Tryz.results196, go_sem, k0, k1, k2, k3]) rfl ⟨.agg #[.bool (decide (q' < 0)), .slice A6 (natL q'.natAbs).length c6, .bool (decide (p' < 0)), .slice A7 (natL p'.natAbs).length c7], rfl, by rw [HLN.out.1, HLN.out.2]; exact HF.out, HB9.out⟩

theorem elowest_one_pos (n d : Int) (A B : Option Addr) (c e0 : Nat) (w : World) (h_n : Raw w A c (natL n.natAbs)) (h_d : Raw w B e0 (natL d.natAbs)) (hn : lz n ≤ 400000000) (hd : lz d ≤ 400000000) (hd0 : d ≠ 0) (hs0 : ¬ d < 0) (hgc : gcdZ n d = 1) :
    Calls Tryz.prog 196 #[.agg #[.bool (decide (n < 0)), .slice A (natL n.natAbs).length c], .agg #[.bool (decide (d < 0)), .slice B (natL d.natAbs).length e0]] w (RetFrac w (lowN n d) (lowD n d)) := by
  obtain ⟨g, hg⟩ : ∃ k : Int, k = gcdZ n d := ⟨_, rfl⟩
  obtain ⟨one, hone⟩ : ∃ k : Int, k = 1 := ⟨_, rfl⟩
  obtain ⟨q, hq⟩ : ∃ k : Int, k = n.tdiv g := ⟨_, rfl⟩
  obtain ⟨r, hr⟩ : ∃ k : Int, k = n.tmod g := ⟨_, rfl⟩
  obtain ⟨p, hp⟩ : ∃ k : Int, k = d.tdiv g := ⟨_, rfl⟩
  obtain ⟨s, hs⟩ : ∃ k : Int, k = d.tmod g := ⟨_, rfl⟩
  obtain ⟨q', hq'⟩ : ∃ k : Int, k = -q := ⟨_, rfl⟩
  obtain ⟨p', hp'⟩ : ∃ k : Int, k = -p := ⟨_, rfl⟩
  have hgp := gcdZ_pos (n := n) hd0
  have hgl := gcdZ_lz (n := n) hd0
  rw [← hg] at hgp hgl hgc
  have hql : lz q ≤ lz n := by rw [hq]; exact tdiv_lz n g
  have hpl : lz p ≤ lz d := by rw [hp]; exact tdiv_lz d g
  have hps : p.sign = d.sign := by rw [hp, hg]; exact tdiv_sign hd0
  have hol : lz one ≤ 2 := by rw [hone]; decide
  obtain ⟨sg, hsg⟩ : ∃ k : Int, k = p.sign := ⟨_, rfl⟩
  have HSG := Hd hsg
  have HSN := Hd (show decide (sg < 0) = false from by
    rw [hsg, hps]
    exact decide_eq_false (by have := sign_cases d; omega))
  have HG := Hd (show g = ((Nat.gcd n.natAbs d.natAbs : Nat) : Int) from hg)
  have H1 := Hd hone
  have HG0 := Hd (show g ≠ 0 from by omega)
  have HQ := Hd (And.intro hq hr)
  have HP := Hd (And.intro hp hs)
  have HN1 := Hd hq'
  have HN2 := Hd hp'
  have HK := Hd (show (0 : Int) = cmpz g one from by rw [hone]; rw [hgc]; decide)
  have HLN := Hd (show lowN n d = q ∧ lowD n d = p from by
    unfold lowN lowD
    rw [if_neg hs0, if_neg hs0, ← hg, ← hq, ← hp]
    exact ⟨rfl, rfl⟩)
  have HQN := Hd (show q = n ∧ p = d from by rw [hq, hp, hgc]; exact ⟨Int.tdiv_one _, Int.tdiv_one _⟩)
  clear hgc hg hone hq hr hp hs hq' hp' hs0 hsg hps hd0
  have b0 := ((((Below.refl w.heap.size w).alloc (Nat.le_refl _) (.cells #[.bool (decide (n < 0)), .slice A (natL n.natAbs).length c] 24)).alloc (by simp) (.cells #[.bool (decide (d < 0)), .slice B (natL d.natAbs).length e0] 24)).alloc (by simp; omega) (.cells #[.bool false, .slice none 0 0, .bool false, .slice none 0 0] 56))
  have p0 := ((Pair.new w 24 (.bool (decide (n < 0))) (.slice A (natL n.natAbs).length c)).alloc (.cells #[.bool (decide (d < 0)), .slice B (natL d.natAbs).length e0] 24)).alloc (.cells #[.bool false, .slice none 0 0, .bool false, .slice none 0 0] 56)
  have p1 := (Pair.new (w.alloc (.cells #[.bool (decide (n < 0)), .slice A (natL n.natAbs).length c] 24)) 24 (.bool (decide (d < 0))) (.slice B (natL d.natAbs).length e0)).alloc (.cells #[.bool false, .slice none 0 0, .bool false, .slice none 0 0] 56)
  have p2 := Quad.new ((w.alloc (.cells #[.bool (decide (n < 0)), .slice A (natL n.natAbs).length c] 24)).alloc (.cells #[.bool (decide (d < 0)), .slice B (natL d.natAbs).length e0] 24)) (.bool false) (.slice none 0 0) (.bool false) (.slice none 0 0)
  simp only [World.size_alloc] at p1 p2
  have V_n := Hd (NV.of h_n b0 p0)
  have V_d := Hd (NV.of h_d b0 p1)
  have P_r0 := Hd p2
  have RW_n := Hd h_n
  have RW_d := Hd h_d
  have HBW := Hd b0
  clear b0 p0 p1 p2 h_n h_d
  go_enter Tryz.func196, Tryz.ntmps196
  obtain ⟨W, E⟩ : ∃ W, W = (((w.alloc (.cells #[.bool (decide (n < 0)), .slice A (natL n.natAbs).length c] 24)).alloc (.cells #[.bool (decide (d < 0)), .slice B (natL d.natAbs).length e0] 24)).alloc (.cells #[.bool false, .slice none 0 0, .bool false, .slice none 0 0] 56)) := ⟨_, rfl⟩
  go_upto_region 1 with fail
  rw [← E] at V_n V_d P_r0 HBW ⊢
  clear E
  have hsz := P_r0.out.blk.lt
  obtain ⟨l_n, a_n, b_n, -, -⟩ := V_n.out.pair.facts
  obtain ⟨l_d, a_d, b_d, -, -⟩ := V_d.out.pair.facts
  go_wp2_with fail
  refine (ecommon n d g A B c e0 W V_n.out.raw V_d.out.raw (by omega) (by omega) HG.out).mono ?_
  rintro e x1 ⟨v, rfl, hI, hb⟩
  obtain ⟨A1, c1, rfl, r1⟩ := hI.raw
  have hIg := hI.base (Nat.zero_le _)
  have hszg := hb.size
  clear l_n a_n b_n l_d a_d b_d
  have V_n := Hd (V_n.out.below hb)
  have V_d := Hd (V_d.out.below hb)
  have P_r0 := Hd (P_r0.out.below hb)
  have HBW := Hd (belowTo HBW.out hb)
  have R_g := Hd r1
  clear hb r1
  have O_g := Hd hIg
  clear hI hIg
  go_upto_region 2 with fail
  have ha := ((Below.refl x1.heap.size x1).alloc (Nat.le_refl _) (.cells #[.bool (decide (g < 0)), .slice A1 (natL g.natAbs).length c1] 24))
  have p_g := (Pair.new x1 24 (.bool (decide (g < 0))) (.slice A1 (natL g.natAbs).length c1))
  obtain ⟨y2, E⟩ : ∃ W, W = (x1.alloc (.cells #[.bool (decide (g < 0)), .slice A1 (natL g.natAbs).length c1] 24)) := ⟨_, rfl⟩
  rw [← E] at ha p_g ⊢
  have V_g := Hd (NV.of R_g.out ha p_g)
  have V_n := Hd (V_n.out.below ha)
  have V_d := Hd (V_d.out.below ha)
  have P_r0 := Hd (P_r0.out.below ha)
  have O_g := Hd (O_g.out.below ha)
  have HBW := Hd (belowTo HBW.out ha)
  obtain ⟨g2, hg⟩ : ∃ g, g = x1.heap.size := ⟨_, rfl⟩
  rw [← hg] at V_g ⊢
  have hge2 : x1.heap.size ≤ g2 := by omega
  clear E ha hg p_g
  go_wp2_with fail
  obtain ⟨W0, hW⟩ : ∃ W0, W0 = y2 := ⟨_, rfl⟩
  rw [← hW] at HBW P_r0 O_g V_n V_d V_g  ⊢
  clear hW
  refine wp_region_free [.val (.agg #[.bool (decide (g < 0)), .slice A1 (natL g.natAbs).length c1]) [], .any false (fun u0 V => IntAt V u0 one) [], .val (.int .i64 0) [1], .val (.bool false) []] W0.heap.size W0 [] (fun _ _ => False) _ mixedOrders2 (Nat.le_refl _) (Below.refl _ _) (KeptV.refl _ _ _) rfl (by kernel_rfl) (by kernel_rfl) (by kernel_rfl) (by kernel_rfl) (by kernel_rfl) (by kernel_rfl) (by kernel_rfl) (by kernel_rfl) rfl (by simp [oldsF]) ?_ ?_ ?_ ?_
  · simp only [StableF, and_true]
    exact fun u0 V V' h k => h.keptNone k
  · simp only [OldsF]
  · simp (maxSteps := 4000000) [StepsF, DepF, freeAct, fill, pairs]
    repeat' (first | apply And.intro | (intro (u0 : Value)))
    all_goals first
    | (intro V hV hK
       obtain ⟨-, a_g, b_g, -, -⟩ := (V_g.out.below hV).pair.facts
       have r_g := Hd (V_g.out.below hV).raw
       clear hV hK
       go_simp
       first
       | exact Below.refl _ _
       | exact ⟨by first | rfl | decide | go_num, Below.refl _ _⟩
       | ((with_reducible refine (eof 1 one H1.out (by decide) (by decide) V).mono ?_); rintro e w' ⟨v, rfl, hv, hb⟩; exact ⟨hv.at_, hb⟩))
    | (intro V hV hK hu
       obtain ⟨A', c', rfl, hr⟩ := hu.form
       have r_g := Hd (V_g.out.below hV).raw
       have r' := Hd hr
       clear hV hK hu hr
       go_simp
       (with_reducible refine (ecmp g one 0 A1 A' c1 c' V r_g.out r'.out (by omega) (by omega) HK.out).mono ?_)
       rintro e w' ⟨rfl, hb⟩
       exact ⟨rfl, hb⟩)
  · simp [EndF, FactsF, freeAct, fill, pairs]
    intro u1 V hV hK _ _ _ _
    have V_n := Hd (V_n.out.below hV)
    have V_d := Hd (V_d.out.below hV)
    have V_g := Hd (V_g.out.below hV)
    have P_r0 := Hd (P_r0.out.below hV)
    have O_g := Hd (O_g.out.below hV)
    have HBW := Hd (belowTo HBW.out hV)
    clear hV hK
    obtain ⟨v3, hV0⟩ : ∃ Y, Y = V := ⟨_, rfl⟩
    rw [← hV0] at HBW P_r0 O_g V_n V_d V_g  ⊢
    clear hV0
    obtain ⟨rfl, rfl⟩ := HQN.out
    have hsn := HSN.out
    obtain ⟨l_d, a_d, b_d, -, -⟩ := V_d.out.pair.facts
    go_wp2_with fail
    refine (esign p sg B e0 v3 V_d.out.raw HSG.out).mono ?_
    rintro e x4 ⟨rfl, hb⟩
    clear l_d a_d b_d
    have V_n := Hd (V_n.out.below hb)
    have V_d := Hd (V_d.out.below hb)
    have V_g := Hd (V_g.out.below hb)
    have P_r0 := Hd (P_r0.out.below hb)
    have O_g := Hd (O_g.out.below hb)
    have HBW := Hd (belowTo HBW.out hb)
    clear hb
    go_upto_region 7 with fail
    clear hsn
    obtain ⟨l_n, a_n, b_n, -, -⟩ := V_n.out.pair.facts
    obtain ⟨l_d, a_d, b_d, -, -⟩ := V_d.out.pair.facts
    obtain ⟨l_r, c_r0, c_r1, c_r2, c_r3, f_r0, f_r1, f_r2, f_r3⟩ := P_r0.out.facts
    have HQ9 := Hd (P_r0.out.store (.bool (decide (q < 0))) (.slice A (natL q.natAbs).length c) (.bool (decide (p < 0))) (.slice B (natL p.natAbs).length e0))
    have HB9 := Hd (below4 HBW.out (show w.heap.size ≤ w.heap.size + 1 + 1 by omega) (.bool (decide (q < 0))) (.slice A (natL q.natAbs).length c) (.bool (decide (p < 0))) (.slice B (natL p.natAbs).length e0))
    have HF := Hd (show FracAt ((((x4.setCell ⟨w.heap.size + 1 + 1, 0, none⟩ (.bool (decide (q < 0)))).setCell ⟨w.heap.size + 1 + 1, 1, none⟩ (.slice A (natL q.natAbs).length c)).setCell ⟨w.heap.size + 1 + 1, 2, none⟩ (.bool (decide (p < 0)))).setCell ⟨w.heap.size + 1 + 1, 3, none⟩ (.slice B (natL p.natAbs).length e0)) (.agg #[.bool (decide (q < 0)), .slice A (natL q.natAbs).length c, .bool (decide (p < 0)), .slice B (natL p.natAbs).length e0]) q p from ⟨_, _, _, _, rfl, V_n.out.raw.quad P_r0.out _ _ _ _, V_d.out.raw.quad P_r0.out _ _ _ _⟩)
    go_wp2_with fail
    obtain ⟨_, k0, k1, k2, k3, _⟩ := HQ9.out.facts
    exact bodyPost_ret (by simp [results, Tryz.results196, go_sem, k0, k1, k2, k3]) rfl ⟨.agg #[.bool (decide (q < 0)), .slice A (natL q.natAbs).length c, .bool (decide (p < 0)), .slice B (natL p.natAbs).length e0], rfl, by rw [HLN.out.1, HLN.out.2]; exact HF.out, HB9.out⟩

theorem elowest_more_neg (n d : Int) (A B : Option Addr) (c e0 : Nat) (w : World) (h_n : Raw w A c (natL n.natAbs)) (h_d : Raw w B e0 (natL d.natAbs)) (hn : lz n ≤ 400000000) (hd : lz d ≤ 400000000) (hd0 : d ≠ 0) (hs0 : d < 0) (hgc : 1 < gcdZ n d) :
    Calls Tryz.prog 196 #[.agg #[.bool (decide (n < 0)), .slice A (natL n.natAbs).length c], .agg #[.bool (decide (d < 0)), .slice B (natL d.natAbs).length e0]] w (RetFrac w (lowN n d) (lowD n d)) := by
  obtain ⟨g, hg⟩ : ∃ k : Int, k = gcdZ n d := ⟨_, rfl⟩
  obtain ⟨one, hone⟩ : ∃ k : Int, k = 1 := ⟨_, rfl⟩
  obtain ⟨q, hq⟩ : ∃ k : Int, k = n.tdiv g := ⟨_, rfl⟩
  obtain ⟨r, hr⟩ : ∃ k : Int, k = n.tmod g := ⟨_, rfl⟩
  obtain ⟨p, hp⟩ : ∃ k : Int, k = d.tdiv g := ⟨_, rfl⟩
  obtain ⟨s, hs⟩ : ∃ k : Int, k = d.tmod g := ⟨_, rfl⟩
  obtain ⟨q', hq'⟩ : ∃ k : Int, k = -q := ⟨_, rfl⟩
  obtain ⟨p', hp'⟩ : ∃ k : Int, k = -p := ⟨_, rfl⟩
  have hgp := gcdZ_pos (n := n) hd0
  have hgl := gcdZ_lz (n := n) hd0
  rw [← hg] at hgp hgl hgc
  have hql : lz q ≤ lz n := by rw [hq]; exact tdiv_lz n g
  have hpl : lz p ≤ lz d := by rw [hp]; exact tdiv_lz d g
  have hps : p.sign = d.sign := by rw [hp, hg]; exact tdiv_sign hd0
  have hol : lz one ≤ 2 := by rw [hone]; decide
  obtain ⟨sg, hsg⟩ : ∃ k : Int, k = p.sign := ⟨_, rfl⟩
  have HSG := Hd hsg
  have HSN := Hd (show decide (sg < 0) = true from by
    rw [hsg, hps]
    exact decide_eq_true (by rw [Int.sign_eq_neg_one_of_neg hs0]; decide))
  have HG := Hd (show g = ((Nat.gcd n.natAbs d.natAbs : Nat) : Int) from hg)
  have H1 := Hd hone
  have HG0 := Hd (show g ≠ 0 from by omega)
  have HQ := Hd (And.intro hq hr)
  have HP := Hd (And.intro hp hs)
  have HN1 := Hd hq'
  have HN2 := Hd hp'
  have HK := Hd (show (1 : Int) = cmpz g one from by rw [hone]; exact (cmpz_gt (by omega)).symm)
  have HLN := Hd (show lowN n d = q' ∧ lowD n d = p' from by
    unfold lowN lowD
    rw [if_pos hs0, if_pos hs0, ← hg, ← hq, ← hp, hq', hp']
    exact ⟨rfl, rfl⟩)
  clear hgc hg hone hq hr hp hs hq' hp' hs0 hsg hps hd0
  have b0 := ((((Below.refl w.heap.size w).alloc (Nat.le_refl _) (.cells #[.bool (decide (n < 0)), .slice A (natL n.natAbs).length c] 24)).alloc (by simp) (.cells #[.bool (decide (d < 0)), .slice B (natL d.natAbs).length e0] 24)).alloc (by simp; omega) (.cells #[.bool false, .slice none 0 0, .bool false, .slice none 0 0] 56))
  have p0 := ((Pair.new w 24 (.bool (decide (n < 0))) (.slice A (natL n.natAbs).length c)).alloc (.cells #[.bool (decide (d < 0)), .slice B (natL d.natAbs).length e0] 24)).alloc (.cells #[.bool false, .slice none 0 0, .bool false, .slice none 0 0] 56)
  have p1 := (Pair.new (w.alloc (.cells #[.bool (decide (n < 0)), .slice A (natL n.natAbs).length c] 24)) 24 (.bool (decide (d < 0))) (.slice B (natL d.natAbs).length e0)).alloc (.cells #[.bool false, .slice none 0 0, .bool false, .slice none 0 0] 56)
  have p2 := Quad.new ((w.alloc (.cells #[.bool (decide (n < 0)), .slice A (natL n.natAbs).length c] 24)).alloc (.cells #[.bool (decide (d < 0)), .slice B (natL d.natAbs).length e0] 24)) (.bool false) (.slice none 0 0) (.bool false) (.slice none 0 0)
  simp only [World.size_alloc] at p1 p2
  have V_n := Hd (NV.of h_n b0 p0)
  have V_d := Hd (NV.of h_d b0 p1)
  have P_r0 := Hd p2
  have RW_n := Hd h_n
  have RW_d := Hd h_d
  have HBW := Hd b0
  clear b0 p0 p1 p2 h_n h_d
  go_enter Tryz.func196, Tryz.ntmps196
  obtain ⟨W, E⟩ : ∃ W, W = (((w.alloc (.cells #[.bool (decide (n < 0)), .slice A (natL n.natAbs).length c] 24)).alloc (.cells #[.bool (decide (d < 0)), .slice B (natL d.natAbs).length e0] 24)).alloc (.cells #[.bool false, .slice none 0 0, .bool false, .slice none 0 0] 56)) := ⟨_, rfl⟩
  go_upto_region 1 with fail
  rw [← E] at V_n V_d P_r0 HBW ⊢
  clear E
  have hsz := P_r0.out.blk.lt
  obtain ⟨l_n, a_n, b_n, -, -⟩ := V_n.out.pair.facts
  obtain ⟨l_d, a_d, b_d, -, -⟩ := V_d.out.pair.facts
  go_wp2_with fail
  refine (ecommon n d g A B c e0 W V_n.out.raw V_d.out.raw (by omega) (by omega) HG.out).mono ?_
  rintro e x1 ⟨v, rfl, hI, hb⟩
  obtain ⟨A1, c1, rfl, r1⟩ := hI.raw
  have hIg := hI.base (Nat.zero_le _)
  have hszg := hb.size
  clear l_n a_n b_n l_d a_d b_d
  have V_n := Hd (V_n.out.below hb)
  have V_d := Hd (V_d.out.below hb)
  have P_r0 := Hd (P_r0.out.below hb)
  have HBW := Hd (belowTo HBW.out hb)
  have R_g := Hd r1
  clear hb r1
  have O_g := Hd hIg
  clear hI hIg
  go_upto_region 2 with fail
  have ha := ((Below.refl x1.heap.size x1).alloc (Nat.le_refl _) (.cells #[.bool (decide (g < 0)), .slice A1 (natL g.natAbs).length c1] 24))
  have p_g := (Pair.new x1 24 (.bool (decide (g < 0))) (.slice A1 (natL g.natAbs).length c1))
  obtain ⟨y2, E⟩ : ∃ W, W = (x1.alloc (.cells #[.bool (decide (g < 0)), .slice A1 (natL g.natAbs).length c1] 24)) := ⟨_, rfl⟩
  rw [← E] at ha p_g ⊢
  have V_g := Hd (NV.of R_g.out ha p_g)
  have V_n := Hd (V_n.out.below ha)
  have V_d := Hd (V_d.out.below ha)
  have P_r0 := Hd (P_r0.out.below ha)
  have O_g := Hd (O_g.out.below ha)
  have HBW := Hd (belowTo HBW.out ha)
  obtain ⟨g2, hg⟩ : ∃ g, g = x1.heap.size := ⟨_, rfl⟩
  rw [← hg] at V_g ⊢
  have hge2 : x1.heap.size ≤ g2 := by omega
  clear E ha hg p_g
  go_wp2_with fail
  obtain ⟨W0, hW⟩ : ∃ W0, W0 = y2 := ⟨_, rfl⟩
  rw [← hW] at HBW P_r0 O_g V_n V_d V_g  ⊢
  clear hW
  refine wp_region_free [.val (.agg #[.bool (decide (g < 0)), .slice A1 (natL g.natAbs).length c1]) [], .any false (fun u0 V => IntAt V u0 one) [], .val (.int .i64 1) [1], .val (.bool true) []] W0.heap.size W0 [] (fun _ _ => False) _ mixedOrders2 (Nat.le_refl _) (Below.refl _ _) (KeptV.refl _ _ _) rfl (by kernel_rfl) (by kernel_rfl) (by kernel_rfl) (by kernel_rfl) (by kernel_rfl) (by kernel_rfl) (by kernel_rfl) (by kernel_rfl) rfl (by simp [oldsF]) ?_ ?_ ?_ ?_
  · simp only [StableF, and_true]
    exact fun u0 V V' h k => h.keptNone k
  · simp only [OldsF]
  · simp (maxSteps := 4000000) [StepsF, DepF, freeAct, fill, pairs]
    repeat' (first | apply And.intro | (intro (u0 : Value)))
    all_goals first
    | (intro V hV hK
       obtain ⟨-, a_g, b_g, -, -⟩ := (V_g.out.below hV).pair.facts
       have r_g := Hd (V_g.out.below hV).raw
       clear hV hK
       go_simp
       first
       | exact Below.refl _ _
       | exact ⟨by first | rfl | decide | go_num, Below.refl _ _⟩
       | ((with_reducible refine (eof 1 one H1.out (by decide) (by decide) V).mono ?_); rintro e w' ⟨v, rfl, hv, hb⟩; exact ⟨hv.at_, hb⟩))
    | (intro V hV hK hu
       obtain ⟨A', c', rfl, hr⟩ := hu.form
       have r_g := Hd (V_g.out.below hV).raw
       have r' := Hd hr
       clear hV hK hu hr
       go_simp
       (with_reducible refine (ecmp g one 1 A1 A' c1 c' V r_g.out r'.out (by omega) (by omega) HK.out).mono ?_)
       rintro e w' ⟨rfl, hb⟩
       exact ⟨rfl, hb⟩)
  · simp [EndF, FactsF, freeAct, fill, pairs]
    intro u1 V hV hK _ _ _ _
    have V_n := Hd (V_n.out.below hV)
    have V_d := Hd (V_d.out.below hV)
    have V_g := Hd (V_g.out.below hV)
    have P_r0 := Hd (P_r0.out.below hV)
    have O_g := Hd (O_g.out.below hV)
    have HBW := Hd (belowTo HBW.out hV)
    clear hV hK
    obtain ⟨v3, hV0⟩ : ∃ Y, Y = V := ⟨_, rfl⟩
    rw [← hV0] at HBW P_r0 O_g V_n V_d V_g  ⊢
    clear hV0
    obtain ⟨l_n, a_n, b_n, -, -⟩ := V_n.out.pair.facts
    obtain ⟨l_g, a_g, b_g, -, -⟩ := V_g.out.pair.facts
    go_wp2_with fail
    refine (edivide n g q r A A1 c c1 v3 V_n.out.raw V_g.out.raw (by omega) (by omega) HG0.out HQ.out.1 HQ.out.2).mono ?_
    rintro e x4 ⟨v1, v2, rfl, hI, hb⟩
    obtain ⟨A2, c2, rfl, -⟩ := hI.one.raw
    obtain ⟨A3, c3, rfl, -⟩ := hI.two.raw
    clear l_n a_n b_n l_g a_g b_g
    have V_n := Hd (V_n.out.below hb)
    have V_d := Hd (V_d.out.below hb)
    have V_g := Hd (V_g.out.below hb)
    have P_r0 := Hd (P_r0.out.below hb)
    have O_g := Hd (O_g.out.below hb)
    have HBW := Hd (belowTo HBW.out hb)
    have O_n := Hd (hI.one.base (Nat.zero_le _))
    clear hb hI
    obtain ⟨l_s, a_s, b_s, f_s, g_s⟩ := V_n.out.pair.facts
    have M_n := V_n.out.pair.store (.bool (decide (q < 0))) (.slice A2 (natL q.natAbs).length c2)
    have M_d := V_d.out.pair.far (show w.heap.size + 1 ≠ w.heap.size by omega) (.bool (decide (q < 0))) (.slice A2 (natL q.natAbs).length c2)
    have M_g := V_g.out.pair.far (show g2 ≠ w.heap.size by omega) (.bool (decide (q < 0))) (.slice A2 (natL q.natAbs).length c2)
    have Q_O_g := O_g.out.pairT V_n.out.pair (.bool (decide (q < 0))) (.slice A2 (natL q.natAbs).length c2)
    have Q_O_n := O_n.out.pairT V_n.out.pair (.bool (decide (q < 0))) (.slice A2 (natL q.natAbs).length c2)
    have F_P_r0 : Quad _ _ _ _ _ _ := ⟨P_r0.out.blk.far2 (show w.heap.size + 1 + 1 ≠ w.heap.size by omega) (.bool (decide (q < 0))) (.slice A2 (natL q.natAbs).length c2)⟩
    have HB9 := below2 HBW.out (show w.heap.size ≤ w.heap.size by omega) (.bool (decide (q < 0))) (.slice A2 (natL q.natAbs).length c2)
    have hgrow : x4.heap.size ≤ (((x4).setCell ⟨w.heap.size, 0, none⟩ (.bool (decide (q < 0)))).setCell ⟨w.heap.size, 1, none⟩ (.slice A2 (natL q.natAbs).length c2)).heap.size := by simp
    go_upto_region 4 with fail
    obtain ⟨y5, E⟩ : ∃ W, W = (((x4).setCell ⟨w.heap.size, 0, none⟩ (.bool (decide (q < 0)))).setCell ⟨w.heap.size, 1, none⟩ (.slice A2 (natL q.natAbs).length c2)) := ⟨_, rfl⟩
    rw [← E] at M_n M_d M_g Q_O_g Q_O_n F_P_r0 HB9 hgrow ⊢
    clear E l_s a_s b_s f_s g_s
    have HBW := Hd HB9
    have O_g := Hd Q_O_g
    have O_n := Hd Q_O_n
    have V_n := Hd (show NV y5 (w.heap.size) q A2 c2 from ⟨M_n, O_n.out.rawAt⟩)
    have V_d := Hd (show NV y5 (w.heap.size + 1) d B e0 from ⟨M_d, RW_d.out.below HBW.out⟩)
    have V_g := Hd (show NV y5 (g2) g A1 c1 from ⟨M_g, O_g.out.rawAt⟩)
    have P_r0 := Hd F_P_r0
    clear HB9 M_n M_d M_g Q_O_g Q_O_n F_P_r0
    obtain ⟨l_d, a_d, b_d, -, -⟩ := V_d.out.pair.facts
    obtain ⟨l_g, a_g, b_g, -, -⟩ := V_g.out.pair.facts
    go_wp2_with fail
    refine (edivide d g p s B A1 e0 c1 y5 V_d.out.raw V_g.out.raw (by omega) (by omega) HG0.out HP.out.1 HP.out.2).mono ?_
    rintro e x6 ⟨v1, v2, rfl, hI, hb⟩
    obtain ⟨A4, c4, rfl, -⟩ := hI.one.raw
    obtain ⟨A5, c5, rfl, -⟩ := hI.two.raw
    clear l_d a_d b_d l_g a_g b_g
    have V_n := Hd (V_n.out.below hb)
    have V_d := Hd (V_d.out.below hb)
    have V_g := Hd (V_g.out.below hb)
    have P_r0 := Hd (P_r0.out.below hb)
    have O_g := Hd (O_g.out.below hb)
    have O_n := Hd (O_n.out.below hb)
    have HBW := Hd (belowTo HBW.out hb)
    have O_d := Hd (hI.one.base (Nat.zero_le _))
    clear hb hI
    obtain ⟨l_s, a_s, b_s, f_s, g_s⟩ := V_d.out.pair.facts
    have M_d := V_d.out.pair.store (.bool (decide (p < 0))) (.slice A4 (natL p.natAbs).length c4)
    have M_n := V_n.out.pair.far (show w.heap.size ≠ w.heap.size + 1 by omega) (.bool (decide (p < 0))) (.slice A4 (natL p.natAbs).length c4)
    have Q_O_d := O_d.out.pairT V_d.out.pair (.bool (decide (p < 0))) (.slice A4 (natL p.natAbs).length c4)
    have Q_O_n := O_n.out.pairT V_d.out.pair (.bool (decide (p < 0))) (.slice A4 (natL p.natAbs).length c4)
    have F_P_r0 : Quad _ _ _ _ _ _ := ⟨P_r0.out.blk.far2 (show w.heap.size + 1 + 1 ≠ w.heap.size + 1 by omega) (.bool (decide (p < 0))) (.slice A4 (natL p.natAbs).length c4)⟩
    have HB9 := below2 HBW.out (show w.heap.size ≤ w.heap.size + 1 by omega) (.bool (decide (p < 0))) (.slice A4 (natL p.natAbs).length c4)
    have hgrow : x6.heap.size ≤ (((x6).setCell ⟨w.heap.size + 1, 0, none⟩ (.bool (decide (p < 0)))).setCell ⟨w.heap.size + 1, 1, none⟩ (.slice A4 (natL p.natAbs).length c4)).heap.size := by simp
    go_upto_region 5 with fail
    obtain ⟨y7, E⟩ : ∃ W, W = (((x6).setCell ⟨w.heap.size + 1, 0, none⟩ (.bool (decide (p < 0)))).setCell ⟨w.heap.size + 1, 1, none⟩ (.slice A4 (natL p.natAbs).length c4)) := ⟨_, rfl⟩
    rw [← E] at M_d M_n Q_O_d Q_O_n F_P_r0 HB9 hgrow ⊢
    clear E l_s a_s b_s f_s g_s
    have HBW := Hd HB9
    have O_d := Hd Q_O_d
    have O_n := Hd Q_O_n
    have V_d := Hd (show NV y7 (w.heap.size + 1) p A4 c4 from ⟨M_d, O_d.out.rawAt⟩)
    have V_n := Hd (show NV y7 (w.heap.size) q A2 c2 from ⟨M_n, O_n.out.rawAt⟩)
    have P_r0 := Hd F_P_r0
    clear HB9 M_d M_n Q_O_d Q_O_n F_P_r0
    clear V_g
    have hsn := HSN.out
    obtain ⟨l_d, a_d, b_d, -, -⟩ := V_d.out.pair.facts
    go_wp2_with fail
    refine (esign p sg A4 c4 y7 V_d.out.raw HSG.out).mono ?_
    rintro e x8 ⟨rfl, hb⟩
    clear l_d a_d b_d
    have V_n := Hd (V_n.out.below hb)
    have V_d := Hd (V_d.out.below hb)
    have P_r0 := Hd (P_r0.out.below hb)
    have O_n := Hd (O_n.out.below hb)
    have O_d := Hd (O_d.out.below hb)
    have HBW := Hd (belowTo HBW.out hb)
    clear hb
    go_upto_region 6 with fail
    clear hsn
    go_wp2_with fail
    have hszz := P_r0.out.blk.lt
    refine wp_region_free [.val (.agg #[.bool (decide (q < 0)), .slice A2 (natL q.natAbs).length c2]) [1004], .any false (fun u V => IntOwn V 0 u q') [], .val (.agg #[.bool (decide (p < 0)), .slice A4 (natL p.natAbs).length c4]) [1005], .any false (fun u V => IntOwn V 0 u p') [], .old (w.heap.size) 24 #[.bool (decide (q < 0)), .slice A2 (natL q.natAbs).length c2] 0 2 1 [], .old (w.heap.size + 1) 24 #[.bool (decide (p < 0)), .slice A4 (natL p.natAbs).length c4] 0 2 3 []] w.heap.size x8 [24] (fun _ _ => False) _ mixedOrders2 (by omega) (Below.refl _ _) (KeptV.refl _ _ _) rfl (by kernel_rfl) (by kernel_rfl) (by kernel_rfl) (by kernel_rfl) (by kernel_rfl) (by kernel_rfl) (by kernel_rfl) (by kernel_rfl) rfl (by simp [oldsF]) ?_ ?_ ?_ ?_
    · simp only [StableF, and_true]
      exact ⟨fun u V V' h k => h.kept k (by decide), fun u V V' h k => h.kept k (by decide)⟩
    · simp only [OldsF, and_true]
      exact ⟨⟨by omega, by omega, V_n.out.pair.blk, by simp⟩, by omega, by omega, V_d.out.pair.blk, by simp⟩
    · simp (maxSteps := 4000000) [StepsF, DepF, freeAct, fill, pairs]
      repeat' (first | apply And.intro | (intro (u : Value)) | (intro (u : Nat)))
      all_goals try exact ⟨_, _, _, rfl, rfl, rfl, rfl, intInfo⟩
      all_goals first
      | (intro V hV hK hp
         obtain ⟨-, a_p, b_p, -, -⟩ := (Pair.mk hp).facts
         clear hV hK hp
         go_simp
         exact Below.refl _ _)
      | (intro V hV hK
         have rn := Hd ((O_n.out.kept hK (by decide)).rawAt)
         have rd := Hd ((O_d.out.kept hK (by decide)).rawAt)
         clear hV hK
         go_simp
         first
         | ((with_reducible refine (eturned q q' A2 c2 V rn.out (by omega) HN1.out).mono ?_); rintro e w' ⟨v, rfl, hv, hb⟩; exact ⟨hv.base (Nat.zero_le _), hb⟩)
         | ((with_reducible refine (eturned p p' A4 c4 V rd.out (by omega) HN2.out).mono ?_); rintro e w' ⟨v, rfl, hv, hb⟩; exact ⟨hv.base (Nat.zero_le _), hb⟩))
      | exact fun _ _ _ (h : IntOwn _ _ _ _) => h.cells
    · simp [EndF, FactsF, freeAct, fill, pairs]
      intro u1 u2 V hV hK h1 h2 p1 p2 _ _ _
      obtain ⟨A6, c6, rfl, r6⟩ := h1.raw
      obtain ⟨A7, c7, rfl, r7⟩ := h2.raw
      simp [setAll, Value.cells] at p1 p2
      have V_n := Hd (show NV V (w.heap.size) q' A6 c6 from ⟨⟨p1⟩, r6⟩)
      have V_d := Hd (show NV V (w.heap.size + 1) p' A7 c7 from ⟨⟨p2⟩, r7⟩)
      have HBW := Hd (HBW.out.trans hV)
      have P_r0 := Hd (show Quad V _ _ _ _ _ from ⟨hK.blk P_r0.out.blk (by decide)⟩)
      clear hV hK h1 h2 p1 p2 r6 r7
      obtain ⟨l_n, a_n, b_n, -, -⟩ := V_n.out.pair.facts
      obtain ⟨l_d, a_d, b_d, -, -⟩ := V_d.out.pair.facts
      obtain ⟨l_r, c_r0, c_r1, c_r2, c_r3, f_r0, f_r1, f_r2, f_r3⟩ := P_r0.out.facts
      have HQ9 := Hd (P_r0.out.store (.bool (decide (q' < 0))) (.slice A6 (natL q'.natAbs).length c6) (.bool (decide (p' < 0))) (.slice A7 (natL p'.natAbs).length c7))
      have HB9 := Hd (below4 HBW.out (show w.heap.size ≤ w.heap.size + 1 + 1 by omega) (.bool (decide (q' < 0))) (.slice A6 (natL q'.natAbs).length c6) (.bool (decide (p' < 0))) (.slice A7 (natL p'.natAbs).length c7))
      have HF := Hd (show FracAt ((((V.setCell ⟨w.heap.size + 1 + 1, 0, none⟩ (.bool (decide (q' < 0)))).setCell ⟨w.heap.size + 1 + 1, 1, none⟩ (.slice A6 (natL q'.natAbs).length c6)).setCell ⟨w.heap.size + 1 + 1, 2, none⟩ (.bool (decide (p' < 0)))).setCell ⟨w.heap.size + 1 + 1, 3, none⟩ (.slice A7 (natL p'.natAbs).length c7)) (.agg #[.bool (decide (q' < 0)), .slice A6 (natL q'.natAbs).length c6, .bool (decide (p' < 0)), .slice A7 (natL p'.natAbs).length c7]) q' p' from ⟨_, _, _, _, rfl, V_n.out.raw.quad P_r0.out _ _ _ _, V_d.out.raw.quad P_r0.out _ _ _ _⟩)
      go_wp2_with fail
      obtain ⟨_, k0, k1, k2, k3, _⟩ := HQ9.out.facts
      exact bodyPost_ret (by simp [results, Tryz.results196, go_sem, k0, k1, k2, k3]) rfl ⟨.agg #[.bool (decide (q' < 0)), .slice A6 (natL q'.natAbs).length c6, .bool (decide (p' < 0)), .slice A7 (natL p'.natAbs).length c7], rfl, by rw [HLN.out.1, HLN.out.2]; exact HF.out, HB9.out⟩

theorem elowest_more_pos (n d : Int) (A B : Option Addr) (c e0 : Nat) (w : World) (h_n : Raw w A c (natL n.natAbs)) (h_d : Raw w B e0 (natL d.natAbs)) (hn : lz n ≤ 400000000) (hd : lz d ≤ 400000000) (hd0 : d ≠ 0) (hs0 : ¬ d < 0) (hgc : 1 < gcdZ n d) :
    Calls Tryz.prog 196 #[.agg #[.bool (decide (n < 0)), .slice A (natL n.natAbs).length c], .agg #[.bool (decide (d < 0)), .slice B (natL d.natAbs).length e0]] w (RetFrac w (lowN n d) (lowD n d)) := by
  obtain ⟨g, hg⟩ : ∃ k : Int, k = gcdZ n d := ⟨_, rfl⟩
  obtain ⟨one, hone⟩ : ∃ k : Int, k = 1 := ⟨_, rfl⟩
  obtain ⟨q, hq⟩ : ∃ k : Int, k = n.tdiv g := ⟨_, rfl⟩
  obtain ⟨r, hr⟩ : ∃ k : Int, k = n.tmod g := ⟨_, rfl⟩
  obtain ⟨p, hp⟩ : ∃ k : Int, k = d.tdiv g := ⟨_, rfl⟩
  obtain ⟨s, hs⟩ : ∃ k : Int, k = d.tmod g := ⟨_, rfl⟩
  obtain ⟨q', hq'⟩ : ∃ k : Int, k = -q := ⟨_, rfl⟩
  obtain ⟨p', hp'⟩ : ∃ k : Int, k = -p := ⟨_, rfl⟩
  have hgp := gcdZ_pos (n := n) hd0
  have hgl := gcdZ_lz (n := n) hd0
  rw [← hg] at hgp hgl hgc
  have hql : lz q ≤ lz n := by rw [hq]; exact tdiv_lz n g
  have hpl : lz p ≤ lz d := by rw [hp]; exact tdiv_lz d g
  have hps : p.sign = d.sign := by rw [hp, hg]; exact tdiv_sign hd0
  have hol : lz one ≤ 2 := by rw [hone]; decide
  obtain ⟨sg, hsg⟩ : ∃ k : Int, k = p.sign := ⟨_, rfl⟩
  have HSG := Hd hsg
  have HSN := Hd (show decide (sg < 0) = false from by
    rw [hsg, hps]
    exact decide_eq_false (by have := sign_cases d; omega))
  have HG := Hd (show g = ((Nat.gcd n.natAbs d.natAbs : Nat) : Int) from hg)
  have H1 := Hd hone
  have HG0 := Hd (show g ≠ 0 from by omega)
  have HQ := Hd (And.intro hq hr)
  have HP := Hd (And.intro hp hs)
  have HN1 := Hd hq'
  have HN2 := Hd hp'
  have HK := Hd (show (1 : Int) = cmpz g one from by rw [hone]; exact (cmpz_gt (by omega)).symm)
  have HLN := Hd (show lowN n d = q ∧ lowD n d = p from by
    unfold lowN lowD
    rw [if_neg hs0, if_neg hs0, ← hg, ← hq, ← hp]
    exact ⟨rfl, rfl⟩)
  clear hgc hg hone hq hr hp hs hq' hp' hs0 hsg hps hd0
  have b0 := ((((Below.refl w.heap.size w).alloc (Nat.le_refl _) (.cells #[.bool (decide (n < 0)), .slice A (natL n.natAbs).length c] 24)).alloc (by simp) (.cells #[.bool (decide (d < 0)), .slice B (natL d.natAbs).length e0] 24)).alloc (by simp; omega) (.cells #[.bool false, .slice none 0 0, .bool false, .slice none 0 0] 56))
  have p0 := ((Pair.new w 24 (.bool (decide (n < 0))) (.slice A (natL n.natAbs).length c)).alloc (.cells #[.bool (decide (d < 0)), .slice B (natL d.natAbs).length e0] 24)).alloc (.cells #[.bool false, .slice none 0 0, .bool false, .slice none 0 0] 56)
  have p1 := (Pair.new (w.alloc (.cells #[.bool (decide (n < 0)), .slice A (natL n.natAbs).length c] 24)) 24 (.bool (decide (d < 0))) (.slice B (natL d.natAbs).length e0)).alloc (.cells #[.bool false, .slice none 0 0, .bool false, .slice none 0 0] 56)
  have p2 := Quad.new ((w.alloc (.cells #[.bool (decide (n < 0)), .slice A (natL n.natAbs).length c] 24)).alloc (.cells #[.bool (decide (d < 0)), .slice B (natL d.natAbs).length e0] 24)) (.bool false) (.slice none 0 0) (.bool false) (.slice none 0 0)
  simp only [World.size_alloc] at p1 p2
  have V_n := Hd (NV.of h_n b0 p0)
  have V_d := Hd (NV.of h_d b0 p1)
  have P_r0 := Hd p2
  have RW_n := Hd h_n
  have RW_d := Hd h_d
  have HBW := Hd b0
  clear b0 p0 p1 p2 h_n h_d
  go_enter Tryz.func196, Tryz.ntmps196
  obtain ⟨W, E⟩ : ∃ W, W = (((w.alloc (.cells #[.bool (decide (n < 0)), .slice A (natL n.natAbs).length c] 24)).alloc (.cells #[.bool (decide (d < 0)), .slice B (natL d.natAbs).length e0] 24)).alloc (.cells #[.bool false, .slice none 0 0, .bool false, .slice none 0 0] 56)) := ⟨_, rfl⟩
  go_upto_region 1 with fail
  rw [← E] at V_n V_d P_r0 HBW ⊢
  clear E
  have hsz := P_r0.out.blk.lt
  obtain ⟨l_n, a_n, b_n, -, -⟩ := V_n.out.pair.facts
  obtain ⟨l_d, a_d, b_d, -, -⟩ := V_d.out.pair.facts
  go_wp2_with fail
  refine (ecommon n d g A B c e0 W V_n.out.raw V_d.out.raw (by omega) (by omega) HG.out).mono ?_
  rintro e x1 ⟨v, rfl, hI, hb⟩
  obtain ⟨A1, c1, rfl, r1⟩ := hI.raw
  have hIg := hI.base (Nat.zero_le _)
  have hszg := hb.size
  clear l_n a_n b_n l_d a_d b_d
  have V_n := Hd (V_n.out.below hb)
  have V_d := Hd (V_d.out.below hb)
  have P_r0 := Hd (P_r0.out.below hb)
  have HBW := Hd (belowTo HBW.out hb)
  have R_g := Hd r1
  clear hb r1
  have O_g := Hd hIg
  clear hI hIg
  go_upto_region 2 with fail
  have ha := ((Below.refl x1.heap.size x1).alloc (Nat.le_refl _) (.cells #[.bool (decide (g < 0)), .slice A1 (natL g.natAbs).length c1] 24))
  have p_g := (Pair.new x1 24 (.bool (decide (g < 0))) (.slice A1 (natL g.natAbs).length c1))
  obtain ⟨y2, E⟩ : ∃ W, W = (x1.alloc (.cells #[.bool (decide (g < 0)), .slice A1 (natL g.natAbs).length c1] 24)) := ⟨_, rfl⟩
  rw [← E] at ha p_g ⊢
  have V_g := Hd (NV.of R_g.out ha p_g)
  have V_n := Hd (V_n.out.below ha)
  have V_d := Hd (V_d.out.below ha)
  have P_r0 := Hd (P_r0.out.below ha)
  have O_g := Hd (O_g.out.below ha)
  have HBW := Hd (belowTo HBW.out ha)
  obtain ⟨g2, hg⟩ : ∃ g, g = x1.heap.size := ⟨_, rfl⟩
  rw [← hg] at V_g ⊢
  have hge2 : x1.heap.size ≤ g2 := by omega
  clear E ha hg p_g
  go_wp2_with fail
  obtain ⟨W0, hW⟩ : ∃ W0, W0 = y2 := ⟨_, rfl⟩
  rw [← hW] at HBW P_r0 O_g V_n V_d V_g  ⊢
  clear hW
  refine wp_region_free [.val (.agg #[.bool (decide (g < 0)), .slice A1 (natL g.natAbs).length c1]) [], .any false (fun u0 V => IntAt V u0 one) [], .val (.int .i64 1) [1], .val (.bool true) []] W0.heap.size W0 [] (fun _ _ => False) _ mixedOrders2 (Nat.le_refl _) (Below.refl _ _) (KeptV.refl _ _ _) rfl (by kernel_rfl) (by kernel_rfl) (by kernel_rfl) (by kernel_rfl) (by kernel_rfl) (by kernel_rfl) (by kernel_rfl) (by kernel_rfl) rfl (by simp [oldsF]) ?_ ?_ ?_ ?_
  · simp only [StableF, and_true]
    exact fun u0 V V' h k => h.keptNone k
  · simp only [OldsF]
  · simp (maxSteps := 4000000) [StepsF, DepF, freeAct, fill, pairs]
    repeat' (first | apply And.intro | (intro (u0 : Value)))
    all_goals first
    | (intro V hV hK
       obtain ⟨-, a_g, b_g, -, -⟩ := (V_g.out.below hV).pair.facts
       have r_g := Hd (V_g.out.below hV).raw
       clear hV hK
       go_simp
       first
       | exact Below.refl _ _
       | exact ⟨by first | rfl | decide | go_num, Below.refl _ _⟩
       | ((with_reducible refine (eof 1 one H1.out (by decide) (by decide) V).mono ?_); rintro e w' ⟨v, rfl, hv, hb⟩; exact ⟨hv.at_, hb⟩))
    | (intro V hV hK hu
       obtain ⟨A', c', rfl, hr⟩ := hu.form
       have r_g := Hd (V_g.out.below hV).raw
       have r' := Hd hr
       clear hV hK hu hr
       go_simp
       (with_reducible refine (ecmp g one 1 A1 A' c1 c' V r_g.out r'.out (by omega) (by omega) HK.out).mono ?_)
       rintro e w' ⟨rfl, hb⟩
       exact ⟨rfl, hb⟩)
  · simp [EndF, FactsF, freeAct, fill, pairs]
    intro u1 V hV hK _ _ _ _
    have V_n := Hd (V_n.out.below hV)
    have V_d := Hd (V_d.out.below hV)
    have V_g := Hd (V_g.out.below hV)
    have P_r0 := Hd (P_r0.out.below hV)
    have O_g := Hd (O_g.out.below hV)
    have HBW := Hd (belowTo HBW.out hV)
    clear hV hK
    obtain ⟨v3, hV0⟩ : ∃ Y, Y = V := ⟨_, rfl⟩
    rw [← hV0] at HBW P_r0 O_g V_n V_d V_g  ⊢
    clear hV0
    obtain ⟨l_n, a_n, b_n, -, -⟩ := V_n.out.pair.facts
    obtain ⟨l_g, a_g, b_g, -, -⟩ := V_g.out.pair.facts
    go_wp2_with fail
    refine (edivide n g q r A A1 c c1 v3 V_n.out.raw V_g.out.raw (by omega) (by omega) HG0.out HQ.out.1 HQ.out.2).mono ?_
    rintro e x4 ⟨v1, v2, rfl, hI, hb⟩
    obtain ⟨A2, c2, rfl, -⟩ := hI.one.raw
    obtain ⟨A3, c3, rfl, -⟩ := hI.two.raw
    clear l_n a_n b_n l_g a_g b_g
    have V_n := Hd (V_n.out.below hb)
    have V_d := Hd (V_d.out.below hb)
    have V_g := Hd (V_g.out.below hb)
    have P_r0 := Hd (P_r0.out.below hb)
    have O_g := Hd (O_g.out.below hb)
    have HBW := Hd (belowTo HBW.out hb)
    have O_n := Hd (hI.one.base (Nat.zero_le _))
    clear hb hI
    obtain ⟨l_s, a_s, b_s, f_s, g_s⟩ := V_n.out.pair.facts
    have M_n := V_n.out.pair.store (.bool (decide (q < 0))) (.slice A2 (natL q.natAbs).length c2)
    have M_d := V_d.out.pair.far (show w.heap.size + 1 ≠ w.heap.size by omega) (.bool (decide (q < 0))) (.slice A2 (natL q.natAbs).length c2)
    have M_g := V_g.out.pair.far (show g2 ≠ w.heap.size by omega) (.bool (decide (q < 0))) (.slice A2 (natL q.natAbs).length c2)
    have Q_O_g := O_g.out.pairT V_n.out.pair (.bool (decide (q < 0))) (.slice A2 (natL q.natAbs).length c2)
    have Q_O_n := O_n.out.pairT V_n.out.pair (.bool (decide (q < 0))) (.slice A2 (natL q.natAbs).length c2)
    have F_P_r0 : Quad _ _ _ _ _ _ := ⟨P_r0.out.blk.far2 (show w.heap.size + 1 + 1 ≠ w.heap.size by omega) (.bool (decide (q < 0))) (.slice A2 (natL q.natAbs).length c2)⟩
    have HB9 := below2 HBW.out (show w.heap.size ≤ w.heap.size by omega) (.bool (decide (q < 0))) (.slice A2 (natL q.natAbs).length c2)
    have hgrow : x4.heap.size ≤ (((x4).setCell ⟨w.heap.size, 0, none⟩ (.bool (decide (q < 0)))).setCell ⟨w.heap.size, 1, none⟩ (.slice A2 (natL q.natAbs).length c2)).heap.size := by simp
    go_upto_region 4 with fail
    obtain ⟨y5, E⟩ : ∃ W, W = (((x4).setCell ⟨w.heap.size, 0, none⟩ (.bool (decide (q < 0)))).setCell ⟨w.heap.size, 1, none⟩ (.slice A2 (natL q.natAbs).length c2)) := ⟨_, rfl⟩
    rw [← E] at M_n M_d M_g Q_O_g Q_O_n F_P_r0 HB9 hgrow ⊢
    clear E l_s a_s b_s f_s g_s
    have HBW := Hd HB9
    have O_g := Hd Q_O_g
    have O_n := Hd Q_O_n
    have V_n := Hd (show NV y5 (w.heap.size) q A2 c2 from ⟨M_n, O_n.out.rawAt⟩)
    have V_d := Hd (show NV y5 (w.heap.size + 1) d B e0 from ⟨M_d, RW_d.out.below HBW.out⟩)
    have V_g := Hd (show NV y5 (g2) g A1 c1 from ⟨M_g, O_g.out.rawAt⟩)
    have P_r0 := Hd F_P_r0
    clear HB9 M_n M_d M_g Q_O_g Q_O_n F_P_r0
    obtain ⟨l_d, a_d, b_d, -, -⟩ := V_d.out.pair.facts
    obtain ⟨l_g, a_g, b_g, -, -⟩ := V_g.out.pair.facts
    go_wp2_with fail
    refine (edivide d g p s B A1 e0 c1 y5 V_d.out.raw V_g.out.raw (by omega) (by omega) HG0.out HP.out.1 HP.out.2).mono ?_
    rintro e x6 ⟨v1, v2, rfl, hI, hb⟩
    obtain ⟨A4, c4, rfl, -⟩ := hI.one.raw
    obtain ⟨A5, c5, rfl, -⟩ := hI.two.raw
    clear l_d a_d b_d l_g a_g b_g
    have V_n := Hd (V_n.out.below hb)
    have V_d := Hd (V_d.out.below hb)
    have V_g := Hd (V_g.out.below hb)
    have P_r0 := Hd (P_r0.out.below hb)
    have O_g := Hd (O_g.out.below hb)
    have O_n := Hd (O_n.out.below hb)
    have HBW := Hd (belowTo HBW.out hb)
    have O_d := Hd (hI.one.base (Nat.zero_le _))
    clear hb hI
    obtain ⟨l_s, a_s, b_s, f_s, g_s⟩ := V_d.out.pair.facts
    have M_d := V_d.out.pair.store (.bool (decide (p < 0))) (.slice A4 (natL p.natAbs).length c4)
    have M_n := V_n.out.pair.far (show w.heap.size ≠ w.heap.size + 1 by omega) (.bool (decide (p < 0))) (.slice A4 (natL p.natAbs).length c4)
    have Q_O_d := O_d.out.pairT V_d.out.pair (.bool (decide (p < 0))) (.slice A4 (natL p.natAbs).length c4)
    have Q_O_n := O_n.out.pairT V_d.out.pair (.bool (decide (p < 0))) (.slice A4 (natL p.natAbs).length c4)
    have F_P_r0 : Quad _ _ _ _ _ _ := ⟨P_r0.out.blk.far2 (show w.heap.size + 1 + 1 ≠ w.heap.size + 1 by omega) (.bool (decide (p < 0))) (.slice A4 (natL p.natAbs).length c4)⟩
    have HB9 := below2 HBW.out (show w.heap.size ≤ w.heap.size + 1 by omega) (.bool (decide (p < 0))) (.slice A4 (natL p.natAbs).length c4)
    have hgrow : x6.heap.size ≤ (((x6).setCell ⟨w.heap.size + 1, 0, none⟩ (.bool (decide (p < 0)))).setCell ⟨w.heap.size + 1, 1, none⟩ (.slice A4 (natL p.natAbs).length c4)).heap.size := by simp
    go_upto_region 5 with fail
    obtain ⟨y7, E⟩ : ∃ W, W = (((x6).setCell ⟨w.heap.size + 1, 0, none⟩ (.bool (decide (p < 0)))).setCell ⟨w.heap.size + 1, 1, none⟩ (.slice A4 (natL p.natAbs).length c4)) := ⟨_, rfl⟩
    rw [← E] at M_d M_n Q_O_d Q_O_n F_P_r0 HB9 hgrow ⊢
    clear E l_s a_s b_s f_s g_s
    have HBW := Hd HB9
    have O_d := Hd Q_O_d
    have O_n := Hd Q_O_n
    have V_d := Hd (show NV y7 (w.heap.size + 1) p A4 c4 from ⟨M_d, O_d.out.rawAt⟩)
    have V_n := Hd (show NV y7 (w.heap.size) q A2 c2 from ⟨M_n, O_n.out.rawAt⟩)
    have P_r0 := Hd F_P_r0
    clear HB9 M_d M_n Q_O_d Q_O_n F_P_r0
    clear V_g
    have hsn := HSN.out
    obtain ⟨l_d, a_d, b_d, -, -⟩ := V_d.out.pair.facts
    go_wp2_with fail
    refine (esign p sg A4 c4 y7 V_d.out.raw HSG.out).mono ?_
    rintro e x8 ⟨rfl, hb⟩
    clear l_d a_d b_d
    have V_n := Hd (V_n.out.below hb)
    have V_d := Hd (V_d.out.below hb)
    have P_r0 := Hd (P_r0.out.below hb)
    have O_n := Hd (O_n.out.below hb)
    have O_d := Hd (O_d.out.below hb)
    have HBW := Hd (belowTo HBW.out hb)
    clear hb
    go_upto_region 7 with fail
    clear hsn
    obtain ⟨l_n, a_n, b_n, -, -⟩ := V_n.out.pair.facts
    obtain ⟨l_d, a_d, b_d, -, -⟩ := V_d.out.pair.facts
    obtain ⟨l_r, c_r0, c_r1, c_r2, c_r3, f_r0, f_r1, f_r2, f_r3⟩ := P_r0.out.facts
    have HQ9 := Hd (P_r0.out.store (.bool (decide (q < 0))) (.slice A2 (natL q.natAbs).length c2) (.bool (decide (p < 0))) (.slice A4 (natL p.natAbs).length c4))
    have HB9 := Hd (below4 HBW.out (show w.heap.size ≤ w.heap.size + 1 + 1 by omega) (.bool (decide (q < 0))) (.slice A2 (natL q.natAbs).length c2) (.bool (decide (p < 0))) (.slice A4 (natL p.natAbs).length c4))
    have HF := Hd (show FracAt ((((x8.setCell ⟨w.heap.size + 1 + 1, 0, none⟩ (.bool (decide (q < 0)))).setCell ⟨w.heap.size + 1 + 1, 1, none⟩ (.slice A2 (natL q.natAbs).length c2)).setCell ⟨w.heap.size + 1 + 1, 2, none⟩ (.bool (decide (p < 0)))).setCell ⟨w.heap.size + 1 + 1, 3, none⟩ (.slice A4 (natL p.natAbs).length c4)) (.agg #[.bool (decide (q < 0)), .slice A2 (natL q.natAbs).length c2, .bool (decide (p < 0)), .slice A4 (natL p.natAbs).length c4]) q p from ⟨_, _, _, _, rfl, V_n.out.raw.quad P_r0.out _ _ _ _, V_d.out.raw.quad P_r0.out _ _ _ _⟩)
    go_wp2_with fail
    obtain ⟨_, k0, k1, k2, k3, _⟩ := HQ9.out.facts
    exact bodyPost_ret (by simp [results, Tryz.results196, go_sem, k0, k1, k2, k3]) rfl ⟨.agg #[.bool (decide (q < 0)), .slice A2 (natL q.natAbs).length c2, .bool (decide (p < 0)), .slice A4 (natL p.natAbs).length c4], rfl, by rw [HLN.out.1, HLN.out.2]; exact HF.out, HB9.out⟩

theorem elowest (n d : Int) (A B : Option Addr) (c e0 : Nat) (w : World) (h : Raw w A c (natL n.natAbs)) (g : Raw w B e0 (natL d.natAbs)) (hn : lz n ≤ 400000000) (hd : lz d ≤ 400000000) (hd0 : d ≠ 0) :
    Calls Tryz.prog 196 #[.agg #[.bool (decide (n < 0)), .slice A (natL n.natAbs).length c], .agg #[.bool (decide (d < 0)), .slice B (natL d.natAbs).length e0]] w (RetFrac w (lowN n d) (lowD n d)) := by
  have hp := gcdZ_pos (n := n) hd0
  rcases (by omega : gcdZ n d = 1 ∨ 1 < gcdZ n d) with h1 | h1 <;> by_cases hs : d < 0
  · exact elowest_one_neg n d A B c e0 w h g hn hd hd0 hs h1
  · exact elowest_one_pos n d A B c e0 w h g hn hd hd0 hs h1
  · exact elowest_more_neg n d A B c e0 w h g hn hd hd0 hs h1
  · exact elowest_more_pos n d A B c e0 w h g hn hd hd0 hs h1
/- Make of package frac. (Written by wip/frac/genfmake.py.) -/

theorem frac_Make_good (n d : Int) (A B : Option Addr) (c e0 : Nat) (w : World) (h : Raw w A c (natL n.natAbs)) (g : Raw w B e0 (natL d.natAbs)) (hn : Fit n) (hd : Fit d) (hd0 : d ≠ 0) :
    Calls Tryz.prog 164 #[.agg #[.bool (decide (n < 0)), .slice A (natL n.natAbs).length c], .agg #[.bool (decide (d < 0)), .slice B (natL d.natAbs).length e0]] w (RetFracOwn2 w.heap.size w (lowN n d) (lowD n d) 0) := by
  have C1 := fun (V : World) (h : Raw V A c (natL n.natAbs)) => exact_Check_any (decide (n < 0)) A c _ V h
  have C2 := fun (V : World) (h : Raw V B e0 (natL d.natAbs)) => exact_Check_any (decide (d < 0)) B e0 _ V h
  unfold errI at C1 C2
  rw [if_pos hn.ok] at C1
  rw [if_pos hd.ok] at C2
  have hln : lz n ≤ 2048 := hn
  have hld : lz d ≤ 2048 := hd
  obtain ⟨s, hs⟩ : ∃ k : Int, k = d.sign := ⟨_, rfl⟩
  have C3 := fun (V : World) (h : Raw V B e0 (natL d.natAbs)) => esign d s B e0 V h hs
  have C4 := fun (V : World) (h : Raw V A c (natL n.natAbs)) (g : Raw V B e0 (natL d.natAbs)) => elowest n d A B c e0 V h g (by omega) (by omega) hd0
  have hl1 : lz (lowN n d) ≤ 2048 := Nat.le_trans (lowN_lz n d) hln
  have hl2 : lz (lowD n d) ≤ 2048 := Nat.le_trans (lowD_lz n d) hld
  have C5 := fun (V : World) (A' B' : Option Addr) (c' e' : Nat) (h : Raw V A' c' (natL (lowN n d).natAbs)) (g : Raw V B' e' (natL (lowD n d).natAbs)) => frac_answered_fits (lowN n d) (lowD n d) A' B' c' e' V h g hl1 hl2
  obtain ⟨p, hp⟩ : ∃ k : Int, k = lowN n d := ⟨_, rfl⟩
  obtain ⟨q, hq⟩ : ∃ k : Int, k = lowD n d := ⟨_, rfl⟩
  rw [← hp, ← hq] at C4 C5 ⊢
  have H1 := Hd C1
  have H2 := Hd C2
  have H3 := Hd C3
  have H4 := Hd C4
  have H5 := Hd C5
  have hs1 : decide (s = 0) = false := decide_eq_false (by rw [hs]; intro e; exact hd0 (Int.sign_eq_zero_iff_zero.1 e))
  have hs0 : (s == 0) = false := by simpa using hs1
  clear C1 C2 C3 C4 C5 hn hd hd0 hs hln hld hl1 hl2 hp hq
  have px := ((Pair.new w 24 (.bool (decide (n < 0))) (.slice A (natL n.natAbs).length c)).alloc (.cells #[.bool (decide (d < 0)), .slice B (natL d.natAbs).length e0] 24)).alloc (.cells #[.bool false, .slice none 0 0, .bool false, .slice none 0 0] 56)
  have py := (Pair.new (w.alloc (.cells #[.bool (decide (n < 0)), .slice A (natL n.natAbs).length c] 24)) 24 (.bool (decide (d < 0))) (.slice B (natL d.natAbs).length e0)).alloc (.cells #[.bool false, .slice none 0 0, .bool false, .slice none 0 0] 56)
  have pr := Quad.new ((w.alloc (.cells #[.bool (decide (n < 0)), .slice A (natL n.natAbs).length c] 24)).alloc (.cells #[.bool (decide (d < 0)), .slice B (natL d.natAbs).length e0] 24)) (.bool false) (.slice none 0 0) (.bool false) (.slice none 0 0)
  have b0 := (((Below.refl w.heap.size w).alloc (Nat.le_refl _) (.cells #[.bool (decide (n < 0)), .slice A (natL n.natAbs).length c] 24)).alloc (by simp) (.cells #[.bool (decide (d < 0)), .slice B (natL d.natAbs).length e0] 24)).alloc (by simp; omega) (.cells #[.bool false, .slice none 0 0, .bool false, .slice none 0 0] 56)
  simp only [World.size_alloc] at py pr
  have h1 := h.below b0
  have g1 := g.below b0
  have PX := Hd px
  have PY := Hd py
  have PR := Hd pr
  have B0 := Hd b0
  have RX := Hd h1
  have RY := Hd g1
  clear px py pr b0 h g h1 g1
  go_enter Tryz.func164, Tryz.ntmps164
  go_wp2_with fail
  obtain ⟨W, E⟩ : ∃ W, W = ((w.alloc (.cells #[.bool (decide (n < 0)), .slice A (natL n.natAbs).length c] 24)).alloc (.cells #[.bool (decide (d < 0)), .slice B (natL d.natAbs).length e0] 24)).alloc (.cells #[.bool false, .slice none 0 0, .bool false, .slice none 0 0] 56) := ⟨_, rfl⟩
  rw [← E] at PX PY PR B0 RX RY ⊢
  clear E
  have T0 := Below.refl W.heap.size W
  obtain ⟨l0, x0, x1, -, -⟩ := (PX.out.below T0).facts
  obtain ⟨m0, y0, y1, -, -⟩ := (PY.out.below T0).facts
  go_wp2_with fail
  refine (H1.out _ (RX.out.below T0)).mono ?_
  rintro e w1 ⟨rfl, h⟩
  have T1 := belowTo T0 h
  clear h x0 x1 y0 y1 l0 m0
  obtain ⟨l1, x0, x1, -, -⟩ := (PX.out.below T1).facts
  obtain ⟨m1, y0, y1, -, -⟩ := (PY.out.below T1).facts
  go_wp2_with fail
  refine (H2.out _ (RY.out.below T1)).mono ?_
  rintro e w2 ⟨rfl, h⟩
  have T2 := belowTo T1 h
  clear h x0 x1 y0 y1 l1 m1
  obtain ⟨l2, x0, x1, -, -⟩ := (PX.out.below T2).facts
  obtain ⟨m2, y0, y1, -, -⟩ := (PY.out.below T2).facts
  go_wp2_with fail
  refine (H3.out _ (RY.out.below T2)).mono ?_
  rintro e w3 ⟨rfl, h⟩
  have T3 := belowTo T2 h
  clear h x0 x1 y0 y1 l2 m2
  obtain ⟨l3, x0, x1, -, -⟩ := (PX.out.below T3).facts
  obtain ⟨m3, y0, y1, -, -⟩ := (PY.out.below T3).facts
  go_wp2_with fail
  refine (H4.out _ ((RX.out.below T3)) ((RY.out.below T3))).mono ?_
  rintro e w4 ⟨v, rfl, hF, h⟩
  have T4 := belowTo T3 h
  clear h x0 x1 y0 y1 l3 m3
  obtain ⟨A', c', B', e', rfl, r1, r2⟩ := hF.form
  clear hF
  go_wp2_with fail
  refine (H5.out _ A' B' c' e' r1 r2).mono ?_
  rintro e w5 ⟨v, rfl, hI, h⟩
  have T5 := belowTo T4 h
  have pr2 := PR.out.below T5
  have BB := belowTo B0.out T5
  have hsz := belowTo B0.out T4
  obtain ⟨A1, c1, A2, c2, rfl, -⟩ := hI.form
  obtain ⟨l5, z0, z1, z2, z3, f0, f1, f2, f3⟩ := pr2.facts
  clear r1 r2 h
  go_wp2_with fail
  have hq := pr2.store (.bool (decide (p < 0))) (.slice A1 (natL p.natAbs).length c1) (.bool (decide (q < 0))) (.slice A2 (natL q.natAbs).length c2)
  obtain ⟨_, k0, k1, k2, k3, _⟩ := hq.facts
  have hs9 := hsz.size
  exact bodyPost_ret (by simp [results, Tryz.results164, go_sem, k0, k1, k2, k3]) rfl ⟨_, rfl, (hI.quad pr2 _ _ _ _).base hs9, below4 BB (by omega) _ _ _ _⟩

/- Of of package frac. -/

theorem frac_Make_z (n d : Int) (A B : Option Addr) (c e0 : Nat) (w : World) (h : Raw w A c (natL n.natAbs)) (g : Raw w B e0 (natL d.natAbs)) (hn : Fit n) (hd : Fit d) :
    Calls Tryz.prog 164 #[.agg #[.bool (decide (n < 0)), .slice A (natL n.natAbs).length c], .agg #[.bool (decide (d < 0)), .slice B (natL d.natAbs).length e0]] w (RetFracOwn2 w.heap.size w (zN n d) (zD n d) (zE d)) := by
  unfold zN zD zE
  by_cases hy : d = 0
  · simp only [if_pos hy]
    exact frac_Make_nought n d A B c e0 w h g hn hd hy
  · simp only [if_neg hy]
    exact frac_Make_good n d A B c e0 w h g hn hd hy

theorem frac_Of (n d : Int) (n1 : -9223372036854775808 ≤ n) (n2 : n ≤ 9223372036854775807) (d1 : -9223372036854775808 ≤ d) (d2 : d ≤ 9223372036854775807) (w : World) :
    Calls Tryz.prog 96 #[.int .i64 n, .int .i64 d] w (RetFracOwn2 w.heap.size w (zN n d) (zD n d) (zE d)) := by
  have fn : Fit n := (okI_true.1 (ok64' n n1 n2)).1
  have fd : Fit d := (okI_true.1 (ok64' d d1 d2)).1
  have C3 := fun (V : World) (A B : Option Addr) (c e0 : Nat) (h : Raw V A c (natL n.natAbs)) (g : Raw V B e0 (natL d.natAbs)) => frac_Make_z n d A B c e0 V h g fn fd
  have C1 := fun (V : World) => eof n n rfl n1 n2 V
  have C2 := fun (V : World) => eof d d rfl d1 d2 V
  obtain ⟨p, hp⟩ : ∃ k : Int, k = zN n d := ⟨_, rfl⟩
  obtain ⟨q, hq⟩ : ∃ k : Int, k = zD n d := ⟨_, rfl⟩
  obtain ⟨k, hk⟩ : ∃ k : Int, k = zE d := ⟨_, rfl⟩
  rw [← hp, ← hq, ← hk] at C3 ⊢
  have H1 := Hd C1
  have H2 := Hd C2
  have H3 := Hd C3
  clear C1 C2 C3 fn fd n1 n2 d1 d2 hp hq hk
  have pr := Quad.new w (.bool false) (.slice none 0 0) (.bool false) (.slice none 0 0)
  have b0 := (Below.refl w.heap.size w).alloc (Nat.le_refl _) (.cells #[.bool false, .slice none 0 0, .bool false, .slice none 0 0] 56)
  have PR := Hd pr
  have B0 := Hd b0
  clear pr b0
  go_enter Tryz.func96, Tryz.ntmps96
  go_wp2_with fail
  refine (H1.out _).mono ?_
  rintro e w1 ⟨v, rfl, i1, h⟩
  have T1 := belowTo B0.out h
  have p1 := PR.out.below h
  obtain ⟨A, c, rfl, r1⟩ := i1.raw
  clear h i1
  go_wp2_with fail
  refine (H2.out _).mono ?_
  rintro e w2 ⟨v, rfl, i2, h⟩
  have T2 := belowTo T1 h
  have p2 := p1.below h
  obtain ⟨B, e0, rfl, r2⟩ := i2.raw
  have r3 := r1.below h
  clear h i2 r1 p1 T1
  go_wp2_with fail
  refine (H3.out _ A B c e0 r3 r2).mono ?_
  rintro e w3 ⟨v, rfl, hI, h⟩
  have T3 := belowTo T2 h
  have p3 := p2.below h
  have hsz := T2.size
  obtain ⟨A1, c1, A2, c2, rfl, -⟩ := hI.form
  obtain ⟨l5, z0, z1, z2, z3, f0, f1, f2, f3⟩ := p3.facts
  clear h r3 r2 p2 T2
  go_wp2_with fail
  have hq := p3.store (.bool (decide (p < 0))) (.slice A1 (natL p.natAbs).length c1) (.bool (decide (q < 0))) (.slice A2 (natL q.natAbs).length c2)
  obtain ⟨_, k0, k1, k2, k3, _⟩ := hq.facts
  exact bodyPost_ret (by simp [results, Tryz.results96, go_sem, k0, k1, k2, k3]) rfl ⟨_, rfl, (hI.quad p3 _ _ _ _).base hsz, below4 T3 (by omega) _ _ _ _⟩
/- FracCost, TwinFrac, LeftFrac of the laws; Checks and Sign of the references. (Written by wip/frac/genflaw.py.) -/

theorem ref02_Sign (n s : Int) (d : Int) (A B : Option Addr) (c e0 : Nat) (w : World) (h : Raw w A c (natL n.natAbs)) (hs : s = n.sign) :
    Calls Tryz.prog 95 #[.agg #[.bool (decide (n < 0)), .slice A (natL n.natAbs).length c, .bool (decide (d < 0)), .slice B (natL d.natAbs).length e0]] w fun e w' => e = .returned (.int .i64 s) ∧ Below w.heap.size w w' := by
  have px := Quad.new w (.bool (decide (n < 0))) (.slice A (natL n.natAbs).length c) (.bool (decide (d < 0))) (.slice B (natL d.natAbs).length e0)
  have b0 := (Below.refl w.heap.size w).alloc (Nat.le_refl _) (.cells #[.bool (decide (n < 0)), .slice A (natL n.natAbs).length c, .bool (decide (d < 0)), .slice B (natL d.natAbs).length e0] 56)
  have C := Hd (rsign n s A c _ (h.below b0) hs)
  have B0 := Hd b0
  obtain ⟨-, x0, x1, x2, x3, -, -, -, -⟩ := px.facts
  clear h hs px b0
  go_enter Tryz.func95, Tryz.ntmps95
  go_wp2_with fail
  refine C.out.mono ?_
  rintro e w1 ⟨rfl, hb⟩
  have HF := Hd (belowTo B0.out hb)
  clear x0 x1 x2 x3 hb
  go_wp2_with fail
  go_ret
  exact ⟨rfl, HF.out⟩
end Go.Proofs.YtkncbenhfcpgkaaGreatDoor
