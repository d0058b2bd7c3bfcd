/- Several texts in one: TreesOwn, RatOps, BenchLaw, Argand, Ratio0. -/
import Derived.Test.YtmcnmoljliggfaaGreatDoorBt27
set_option maxRecDepth 100000
set_option maxHeartbeats 8000000
/- Plus, Minus, Times, Over of package ratio: the answer is memory of the call's own. (Written by wip/gauss/gentreesown.py.) -/
namespace Go.Proofs.YtmcnmoljliggfaaGreatDoor
open Go.RowKit

theorem ratio_Plus_own (n d m f : Int) (A B A2 B2 : Option Addr) (c e0 c2 e2 : Nat) (w : World) (h_x : Raw w A c (natL n.natAbs)) (k_x : Raw w B e0 (natL d.natAbs)) (h_y : Raw w A2 c2 (natL m.natAbs)) (k_y : Raw w B2 e2 (natL f.natAbs)) (hn : lz n ≤ 100000000) (hd : lz d ≤ 100000000) (hm : lz m ≤ 100000000) (hf : lz f ≤ 100000000) (h0 : d ≠ 0) (h1 : f ≠ 0) :
    Calls Tryz.prog 66 #[.agg #[.bool (decide (n < 0)), .slice A (natL n.natAbs).length c, .bool (decide (d < 0)), .slice B (natL d.natAbs).length e0], .agg #[.bool (decide (m < 0)), .slice A2 (natL m.natAbs).length c2, .bool (decide (f < 0)), .slice B2 (natL f.natAbs).length e2]] w (RetFracOwn w.heap.size w (addN n d m f) (addD n d m f)) := by
  obtain ⟨p, hp⟩ : ∃ k : Int, k = n * f := ⟨_, rfl⟩
  obtain ⟨q, hq⟩ : ∃ k : Int, k = m * d := ⟨_, rfl⟩
  have hlp := lz_mul n f
  have hlq := lz_mul m d
  rw [← hp] at hlp
  rw [← hq] at hlq
  obtain ⟨s, hs⟩ : ∃ k : Int, k = p + q := ⟨_, rfl⟩
  have hls := lz_add p q
  rw [← hs] at hls
  obtain ⟨t, ht⟩ : ∃ k : Int, k = d * f := ⟨_, rfl⟩
  have hlt := lz_mul d f
  rw [← ht] at hlt
  have HT0 := Hd (show t ≠ 0 from by rw [ht]; exact Int.mul_ne_zero h0 h1)
  obtain ⟨N, hN⟩ : ∃ k : Int, k = lowN s t := ⟨_, rfl⟩
  obtain ⟨D, hD⟩ : ∃ k : Int, k = lowD s t := ⟨_, rfl⟩
  have HND := Hd (show addN n d m f = N ∧ addD n d m f = D from by rw [hN, hD, hs, ht, hp, hq]; exact ⟨rfl, rfl⟩)
  have HS := Hd hs
  have HTT := Hd ht
  have HP := Hd hp
  have HQ := Hd hq
  clear hp hq
  have HLOW := Hd (And.intro hN hD)
  clear hs ht hN hD h0 h1
  have b0 := ((((Below.refl w.heap.size w).alloc (Nat.le_refl _) (.cells #[.bool (decide (n < 0)), .slice A (natL n.natAbs).length c, .bool (decide (d < 0)), .slice B (natL d.natAbs).length e0] 27)).alloc (by simp) (.cells #[.bool (decide (m < 0)), .slice A2 (natL m.natAbs).length c2, .bool (decide (f < 0)), .slice B2 (natL f.natAbs).length e2] 27)).alloc (by simp; omega) (.cells #[.bool false, .slice none 0 0, .bool false, .slice none 0 0] 27))
  have p0 := ((Quad.new w (.bool (decide (n < 0))) (.slice A (natL n.natAbs).length c) (.bool (decide (d < 0))) (.slice B (natL d.natAbs).length e0)).alloc (.cells #[.bool (decide (m < 0)), .slice A2 (natL m.natAbs).length c2, .bool (decide (f < 0)), .slice B2 (natL f.natAbs).length e2] 27)).alloc (.cells #[.bool false, .slice none 0 0, .bool false, .slice none 0 0] 27)
  have p1 := (Quad.new (w.alloc (.cells #[.bool (decide (n < 0)), .slice A (natL n.natAbs).length c, .bool (decide (d < 0)), .slice B (natL d.natAbs).length e0] 27)) (.bool (decide (m < 0))) (.slice A2 (natL m.natAbs).length c2) (.bool (decide (f < 0))) (.slice B2 (natL f.natAbs).length e2)).alloc (.cells #[.bool false, .slice none 0 0, .bool false, .slice none 0 0] 27)
  have p2 := Quad.new ((w.alloc (.cells #[.bool (decide (n < 0)), .slice A (natL n.natAbs).length c, .bool (decide (d < 0)), .slice B (natL d.natAbs).length e0] 27)).alloc (.cells #[.bool (decide (m < 0)), .slice A2 (natL m.natAbs).length c2, .bool (decide (f < 0)), .slice B2 (natL f.natAbs).length e2] 27)) (.bool false) (.slice none 0 0) (.bool false) (.slice none 0 0)
  simp only [World.size_alloc] at p1 p2
  have V_x := Hd (FV.mk p0 (h_x.below b0) (k_x.below b0))
  have KW_x := Hd k_x
  have V_y := Hd (FV.mk p1 (h_y.below b0) (k_y.below b0))
  have KW_y := Hd k_y
  have P_r0 := Hd p2
  have RW_x := Hd h_x
  have RW_y := Hd h_y
  have HBW := Hd b0
  clear b0 p0 p1 p2 h_x k_x h_y k_y
  go_enter Tryz.func66, Tryz.ntmps66
  obtain ⟨W, E⟩ : ∃ W, W = (((w.alloc (.cells #[.bool (decide (n < 0)), .slice A (natL n.natAbs).length c, .bool (decide (d < 0)), .slice B (natL d.natAbs).length e0] 27)).alloc (.cells #[.bool (decide (m < 0)), .slice A2 (natL m.natAbs).length c2, .bool (decide (f < 0)), .slice B2 (natL f.natAbs).length e2] 27)).alloc (.cells #[.bool false, .slice none 0 0, .bool false, .slice none 0 0] 27)) := ⟨_, rfl⟩
  go_upto_region 1 with fail
  rw [← E] at V_x V_y P_r0 HBW ⊢
  clear E
  have hsz := P_r0.out.blk.lt
  go_wp2_with fail
  refine wp_region_free [.val (.pointer (some ⟨w.heap.size, 0, none⟩)) [], .val (.agg #[.bool (decide (n < 0)), .slice A (natL n.natAbs).length c]) [], .val (.pointer (some ⟨w.heap.size + 1, 2, none⟩)) [], .val (.agg #[.bool (decide (f < 0)), .slice B2 (natL f.natAbs).length e2]) [], .any false (fun u V => IntOwn V 0 u p) [], .val (.pointer (some ⟨w.heap.size + 1, 0, none⟩)) [], .val (.agg #[.bool (decide (m < 0)), .slice A2 (natL m.natAbs).length c2]) [], .val (.pointer (some ⟨w.heap.size, 2, none⟩)) [], .val (.agg #[.bool (decide (d < 0)), .slice B (natL d.natAbs).length e0]) [], .any false (fun u V => IntOwn V 0 u q) [], .any true (fun u V => IntOwn V w.heap.size u s) [4, 9], .val (.pointer (some ⟨w.heap.size, 2, none⟩)) [], .val (.agg #[.bool (decide (d < 0)), .slice B (natL d.natAbs).length e0]) [], .val (.pointer (some ⟨w.heap.size + 1, 2, none⟩)) [], .val (.agg #[.bool (decide (f < 0)), .slice B2 (natL f.natAbs).length e2]) [], .any true (fun u V => IntOwn V w.heap.size u t) [], .any false (fun u V => FracOwn V w.heap.size u N D) [10, 15, 1010015], .old (w.heap.size + 1 + 1) 27 #[.bool false, .slice none 0 0, .bool false, .slice none 0 0] 0 4 16 []] (w.heap.size + 1 + 1) W [27] blkInt _ mixedOrders2 (by omega) (Below.refl _ _) (KeptV.refl _ _ _) rfl (by kernel_rfl) (by kernel_rfl) (by kernel_rfl) (by kernel_rfl) (by kernel_rfl) (by kernel_rfl) (by kernel_rfl) (by kernel_rfl) rfl (by simp [oldsF]) ?_ ?_ ?_ ?_
  · simp only [StableF, and_true]
    exact ⟨fun u V V' h k => h.kept k (by decide), fun u V V' h k => h.kept k (by decide), fun u V V' h k => h.kept k (by decide), fun u V V' h k => h.kept k (by decide), fun u V V' h k => h.kept k (by decide)⟩
  · simp only [OldsF, and_true]
    exact ⟨Nat.le_refl _, P_r0.out.blk.lt, P_r0.out.blk, by simp⟩
  · simp (maxSteps := 4000000) [StepsF, DepF, freeAct, fill, pairs]
    repeat' (first | apply And.intro | (intro (u : Value)) | (intro (u : Nat)))
    all_goals try exact ⟨_, _, _, rfl, rfl, rfl, rfl, fracInfo⟩
    all_goals first
    | (intro V hV hK
       have qx : Quad V (w.heap.size) _ _ _ _ := ⟨V_x.out.quad.blk.below hV (by omega)⟩
       obtain ⟨-, a_x, b_x, c_x, d_x, -, -, -, -⟩ := qx.facts
       have qy : Quad V (w.heap.size + 1) _ _ _ _ := ⟨V_y.out.quad.blk.below hV (by omega)⟩
       obtain ⟨-, a_y, b_y, c_y, d_y, -, -, -, -⟩ := qy.facts
       have rn_x := Hd (RW_x.out.below (HBW.out.trans (hV.mono (by omega))))
       have rd_x := Hd (KW_x.out.below (HBW.out.trans (hV.mono (by omega))))
       have rn_y := Hd (RW_y.out.below (HBW.out.trans (hV.mono (by omega))))
       have rd_y := Hd (KW_y.out.below (HBW.out.trans (hV.mono (by omega))))
       have hvs : w.heap.size ≤ V.heap.size := by have := hV.size; have := HBW.out.size; omega
       clear hV hK qx qy
       go_simp
       first
       | exact Below.refl _ _
       | ((with_reducible refine (etimes n f p A B2 c e2 V rn_x.out rd_y.out (by omega) (by omega) HP.out).mono ?_); rintro e w' ⟨v, rfl, hv, hb⟩; first | exact ⟨hv.base (Nat.zero_le _), hb⟩ | exact ⟨hv.base hvs, hb, hv.mine⟩)
       | ((with_reducible refine (etimes m d q A2 B c2 e0 V rn_y.out rd_x.out (by omega) (by omega) HQ.out).mono ?_); rintro e w' ⟨v, rfl, hv, hb⟩; first | exact ⟨hv.base (Nat.zero_le _), hb⟩ | exact ⟨hv.base hvs, hb, hv.mine⟩)
       | ((with_reducible refine (etimes d f t B B2 e0 e2 V rd_x.out rd_y.out (by omega) (by omega) HTT.out).mono ?_); rintro e w' ⟨v, rfl, hv, hb⟩; first | exact ⟨hv.base (Nat.zero_le _), hb⟩ | exact ⟨hv.base hvs, hb, hv.mine⟩)
)
    | (intro V hV hK h1 h2 hq
       obtain ⟨A6, c6, rfl, -⟩ := h1.raw
       obtain ⟨A7, c7, rfl, -⟩ := h2.raw
       have hq2 : ∀ g, (Value.slice A6 (natL s.natAbs).length c6).ownBlock = some g → (Value.slice A7 (natL t.natAbs).length c7).ownBlock ≠ some g := hq
       have hvs : w.heap.size ≤ V.heap.size := by have := hV.size; have := HBW.out.size; omega
       clear hV hK
       go_simp
       (with_reducible refine (efresh s t A6 A7 c6 c7 w.heap.size V h1 h2 hq2 hvs (by omega) (by omega) HT0.out).mono ?_); rintro e w' ⟨v, rfl, hv, hb⟩; rw [← HLOW.out.1, ← HLOW.out.2] at hv; exact ⟨hv, hb⟩)
    | (intro V hV hK h1 h2
       obtain ⟨A6, c6, rfl, r6⟩ := h1.raw
       obtain ⟨A7, c7, rfl, r7⟩ := h2.raw
       have hvs : w.heap.size ≤ V.heap.size := by have := hV.size; have := HBW.out.size; omega
       clear hV hK h1 h2
       go_simp
       (with_reducible refine (eplus p q s A6 A7 c6 c7 V r6 r7 (by omega) (by omega) HS.out).mono ?_); rintro e w' ⟨v, rfl, hv, hb⟩; exact ⟨hv.base hvs, hb, hv.mine⟩)
    | exact fun _ _ _ (h : FracOwn _ _ _ _ _) => h.cells
  · simp [EndF, FactsF, freeAct, fill, pairs]
    intro u1 u2 u3 u4 u5 V hV hK h1 h2 h3 h4 h5 bq _ _ _
    have HF := Hd h5
    obtain ⟨A6, c6, A7, c7, rfl, -⟩ := h5.form
    simp [setAll, Value.cells] at bq
    have k0 := bq.cell 0
    have k1 := bq.cell 1
    have k2 := bq.cell 2
    have k3 := bq.cell 3
    simp at k0 k1 k2 k3
    have HB9 := Hd (HBW.out.trans (hV.mono (by omega)))
    clear h1 h2 h3 h4 h5 hV hK bq
    go_wp2_with fail
    exact bodyPost_ret (by simp [results, Tryz.results66, go_sem, k0, k1, k2, k3]) rfl ⟨.agg #[.bool (decide (N < 0)), .slice A6 (natL N.natAbs).length c6, .bool (decide (D < 0)), .slice A7 (natL D.natAbs).length c7], rfl, by rw [HND.out.1, HND.out.2]; exact HF.out, HB9.out⟩

theorem ratio_Minus_own (n d m f : Int) (A B A2 B2 : Option Addr) (c e0 c2 e2 : Nat) (w : World) (h_x : Raw w A c (natL n.natAbs)) (k_x : Raw w B e0 (natL d.natAbs)) (h_y : Raw w A2 c2 (natL m.natAbs)) (k_y : Raw w B2 e2 (natL f.natAbs)) (hn : lz n ≤ 100000000) (hd : lz d ≤ 100000000) (hm : lz m ≤ 100000000) (hf : lz f ≤ 100000000) (h0 : d ≠ 0) (h1 : f ≠ 0) :
    Calls Tryz.prog 72 #[.agg #[.bool (decide (n < 0)), .slice A (natL n.natAbs).length c, .bool (decide (d < 0)), .slice B (natL d.natAbs).length e0], .agg #[.bool (decide (m < 0)), .slice A2 (natL m.natAbs).length c2, .bool (decide (f < 0)), .slice B2 (natL f.natAbs).length e2]] w (RetFracOwn w.heap.size w (subN n d m f) (subD n d m f)) := by
  obtain ⟨p, hp⟩ : ∃ k : Int, k = n * f := ⟨_, rfl⟩
  obtain ⟨q, hq⟩ : ∃ k : Int, k = m * d := ⟨_, rfl⟩
  have hlp := lz_mul n f
  have hlq := lz_mul m d
  rw [← hp] at hlp
  rw [← hq] at hlq
  obtain ⟨s, hs⟩ : ∃ k : Int, k = p - q := ⟨_, rfl⟩
  have hls := lz_sub p q
  rw [← hs] at hls
  obtain ⟨t, ht⟩ : ∃ k : Int, k = d * f := ⟨_, rfl⟩
  have hlt := lz_mul d f
  rw [← ht] at hlt
  have HT0 := Hd (show t ≠ 0 from by rw [ht]; exact Int.mul_ne_zero h0 h1)
  obtain ⟨N, hN⟩ : ∃ k : Int, k = lowN s t := ⟨_, rfl⟩
  obtain ⟨D, hD⟩ : ∃ k : Int, k = lowD s t := ⟨_, rfl⟩
  have HND := Hd (show subN n d m f = N ∧ subD n d m f = D from by rw [hN, hD, hs, ht, hp, hq]; exact ⟨rfl, rfl⟩)
  have HS := Hd hs
  have HTT := Hd ht
  have HP := Hd hp
  have HQ := Hd hq
  clear hp hq
  have HLOW := Hd (And.intro hN hD)
  clear hs ht hN hD h0 h1
  have b0 := ((((Below.refl w.heap.size w).alloc (Nat.le_refl _) (.cells #[.bool (decide (n < 0)), .slice A (natL n.natAbs).length c, .bool (decide (d < 0)), .slice B (natL d.natAbs).length e0] 27)).alloc (by simp) (.cells #[.bool (decide (m < 0)), .slice A2 (natL m.natAbs).length c2, .bool (decide (f < 0)), .slice B2 (natL f.natAbs).length e2] 27)).alloc (by simp; omega) (.cells #[.bool false, .slice none 0 0, .bool false, .slice none 0 0] 27))
  have p0 := ((Quad.new w (.bool (decide (n < 0))) (.slice A (natL n.natAbs).length c) (.bool (decide (d < 0))) (.slice B (natL d.natAbs).length e0)).alloc (.cells #[.bool (decide (m < 0)), .slice A2 (natL m.natAbs).length c2, .bool (decide (f < 0)), .slice B2 (natL f.natAbs).length e2] 27)).alloc (.cells #[.bool false, .slice none 0 0, .bool false, .slice none 0 0] 27)
  have p1 := (Quad.new (w.alloc (.cells #[.bool (decide (n < 0)), .slice A (natL n.natAbs).length c, .bool (decide (d < 0)), .slice B (natL d.natAbs).length e0] 27)) (.bool (decide (m < 0))) (.slice A2 (natL m.natAbs).length c2) (.bool (decide (f < 0))) (.slice B2 (natL f.natAbs).length e2)).alloc (.cells #[.bool false, .slice none 0 0, .bool false, .slice none 0 0] 27)
  have p2 := Quad.new ((w.alloc (.cells #[.bool (decide (n < 0)), .slice A (natL n.natAbs).length c, .bool (decide (d < 0)), .slice B (natL d.natAbs).length e0] 27)).alloc (.cells #[.bool (decide (m < 0)), .slice A2 (natL m.natAbs).length c2, .bool (decide (f < 0)), .slice B2 (natL f.natAbs).length e2] 27)) (.bool false) (.slice none 0 0) (.bool false) (.slice none 0 0)
  simp only [World.size_alloc] at p1 p2
  have V_x := Hd (FV.mk p0 (h_x.below b0) (k_x.below b0))
  have KW_x := Hd k_x
  have V_y := Hd (FV.mk p1 (h_y.below b0) (k_y.below b0))
  have KW_y := Hd k_y
  have P_r0 := Hd p2
  have RW_x := Hd h_x
  have RW_y := Hd h_y
  have HBW := Hd b0
  clear b0 p0 p1 p2 h_x k_x h_y k_y
  go_enter Tryz.func72, Tryz.ntmps72
  obtain ⟨W, E⟩ : ∃ W, W = (((w.alloc (.cells #[.bool (decide (n < 0)), .slice A (natL n.natAbs).length c, .bool (decide (d < 0)), .slice B (natL d.natAbs).length e0] 27)).alloc (.cells #[.bool (decide (m < 0)), .slice A2 (natL m.natAbs).length c2, .bool (decide (f < 0)), .slice B2 (natL f.natAbs).length e2] 27)).alloc (.cells #[.bool false, .slice none 0 0, .bool false, .slice none 0 0] 27)) := ⟨_, rfl⟩
  go_upto_region 1 with fail
  rw [← E] at V_x V_y P_r0 HBW ⊢
  clear E
  have hsz := P_r0.out.blk.lt
  go_wp2_with fail
  refine wp_region_free [.val (.pointer (some ⟨w.heap.size, 0, none⟩)) [], .val (.agg #[.bool (decide (n < 0)), .slice A (natL n.natAbs).length c]) [], .val (.pointer (some ⟨w.heap.size + 1, 2, none⟩)) [], .val (.agg #[.bool (decide (f < 0)), .slice B2 (natL f.natAbs).length e2]) [], .any false (fun u V => IntOwn V 0 u p) [], .val (.pointer (some ⟨w.heap.size + 1, 0, none⟩)) [], .val (.agg #[.bool (decide (m < 0)), .slice A2 (natL m.natAbs).length c2]) [], .val (.pointer (some ⟨w.heap.size, 2, none⟩)) [], .val (.agg #[.bool (decide (d < 0)), .slice B (natL d.natAbs).length e0]) [], .any false (fun u V => IntOwn V 0 u q) [], .any true (fun u V => IntOwn V w.heap.size u s) [4, 9], .val (.pointer (some ⟨w.heap.size, 2, none⟩)) [], .val (.agg #[.bool (decide (d < 0)), .slice B (natL d.natAbs).length e0]) [], .val (.pointer (some ⟨w.heap.size + 1, 2, none⟩)) [], .val (.agg #[.bool (decide (f < 0)), .slice B2 (natL f.natAbs).length e2]) [], .any true (fun u V => IntOwn V w.heap.size u t) [], .any false (fun u V => FracOwn V w.heap.size u N D) [10, 15, 1010015], .old (w.heap.size + 1 + 1) 27 #[.bool false, .slice none 0 0, .bool false, .slice none 0 0] 0 4 16 []] (w.heap.size + 1 + 1) W [27] blkInt _ mixedOrders2 (by omega) (Below.refl _ _) (KeptV.refl _ _ _) rfl (by kernel_rfl) (by kernel_rfl) (by kernel_rfl) (by kernel_rfl) (by kernel_rfl) (by kernel_rfl) (by kernel_rfl) (by kernel_rfl) rfl (by simp [oldsF]) ?_ ?_ ?_ ?_
  · simp only [StableF, and_true]
    exact ⟨fun u V V' h k => h.kept k (by decide), fun u V V' h k => h.kept k (by decide), fun u V V' h k => h.kept k (by decide), fun u V V' h k => h.kept k (by decide), fun u V V' h k => h.kept k (by decide)⟩
  · simp only [OldsF, and_true]
    exact ⟨Nat.le_refl _, P_r0.out.blk.lt, P_r0.out.blk, by simp⟩
  · simp (maxSteps := 4000000) [StepsF, DepF, freeAct, fill, pairs]
    repeat' (first | apply And.intro | (intro (u : Value)) | (intro (u : Nat)))
    all_goals try exact ⟨_, _, _, rfl, rfl, rfl, rfl, fracInfo⟩
    all_goals first
    | (intro V hV hK
       have qx : Quad V (w.heap.size) _ _ _ _ := ⟨V_x.out.quad.blk.below hV (by omega)⟩
       obtain ⟨-, a_x, b_x, c_x, d_x, -, -, -, -⟩ := qx.facts
       have qy : Quad V (w.heap.size + 1) _ _ _ _ := ⟨V_y.out.quad.blk.below hV (by omega)⟩
       obtain ⟨-, a_y, b_y, c_y, d_y, -, -, -, -⟩ := qy.facts
       have rn_x := Hd (RW_x.out.below (HBW.out.trans (hV.mono (by omega))))
       have rd_x := Hd (KW_x.out.below (HBW.out.trans (hV.mono (by omega))))
       have rn_y := Hd (RW_y.out.below (HBW.out.trans (hV.mono (by omega))))
       have rd_y := Hd (KW_y.out.below (HBW.out.trans (hV.mono (by omega))))
       have hvs : w.heap.size ≤ V.heap.size := by have := hV.size; have := HBW.out.size; omega
       clear hV hK qx qy
       go_simp
       first
       | exact Below.refl _ _
       | ((with_reducible refine (etimes n f p A B2 c e2 V rn_x.out rd_y.out (by omega) (by omega) HP.out).mono ?_); rintro e w' ⟨v, rfl, hv, hb⟩; first | exact ⟨hv.base (Nat.zero_le _), hb⟩ | exact ⟨hv.base hvs, hb, hv.mine⟩)
       | ((with_reducible refine (etimes m d q A2 B c2 e0 V rn_y.out rd_x.out (by omega) (by omega) HQ.out).mono ?_); rintro e w' ⟨v, rfl, hv, hb⟩; first | exact ⟨hv.base (Nat.zero_le _), hb⟩ | exact ⟨hv.base hvs, hb, hv.mine⟩)
       | ((with_reducible refine (etimes d f t B B2 e0 e2 V rd_x.out rd_y.out (by omega) (by omega) HTT.out).mono ?_); rintro e w' ⟨v, rfl, hv, hb⟩; first | exact ⟨hv.base (Nat.zero_le _), hb⟩ | exact ⟨hv.base hvs, hb, hv.mine⟩)
)
    | (intro V hV hK h1 h2 hq
       obtain ⟨A6, c6, rfl, -⟩ := h1.raw
       obtain ⟨A7, c7, rfl, -⟩ := h2.raw
       have hq2 : ∀ g, (Value.slice A6 (natL s.natAbs).length c6).ownBlock = some g → (Value.slice A7 (natL t.natAbs).length c7).ownBlock ≠ some g := hq
       have hvs : w.heap.size ≤ V.heap.size := by have := hV.size; have := HBW.out.size; omega
       clear hV hK
       go_simp
       (with_reducible refine (efresh s t A6 A7 c6 c7 w.heap.size V h1 h2 hq2 hvs (by omega) (by omega) HT0.out).mono ?_); rintro e w' ⟨v, rfl, hv, hb⟩; rw [← HLOW.out.1, ← HLOW.out.2] at hv; exact ⟨hv, hb⟩)
    | (intro V hV hK h1 h2
       obtain ⟨A6, c6, rfl, r6⟩ := h1.raw
       obtain ⟨A7, c7, rfl, r7⟩ := h2.raw
       have hvs : w.heap.size ≤ V.heap.size := by have := hV.size; have := HBW.out.size; omega
       clear hV hK h1 h2
       go_simp
       (with_reducible refine (eminus p q s A6 A7 c6 c7 V r6 r7 (by omega) (by omega) HS.out).mono ?_); rintro e w' ⟨v, rfl, hv, hb⟩; exact ⟨hv.base hvs, hb, hv.mine⟩)
    | exact fun _ _ _ (h : FracOwn _ _ _ _ _) => h.cells
  · simp [EndF, FactsF, freeAct, fill, pairs]
    intro u1 u2 u3 u4 u5 V hV hK h1 h2 h3 h4 h5 bq _ _ _
    have HF := Hd h5
    obtain ⟨A6, c6, A7, c7, rfl, -⟩ := h5.form
    simp [setAll, Value.cells] at bq
    have k0 := bq.cell 0
    have k1 := bq.cell 1
    have k2 := bq.cell 2
    have k3 := bq.cell 3
    simp at k0 k1 k2 k3
    have HB9 := Hd (HBW.out.trans (hV.mono (by omega)))
    clear h1 h2 h3 h4 h5 hV hK bq
    go_wp2_with fail
    exact bodyPost_ret (by simp [results, Tryz.results72, go_sem, k0, k1, k2, k3]) rfl ⟨.agg #[.bool (decide (N < 0)), .slice A6 (natL N.natAbs).length c6, .bool (decide (D < 0)), .slice A7 (natL D.natAbs).length c7], rfl, by rw [HND.out.1, HND.out.2]; exact HF.out, HB9.out⟩

theorem ratio_Times_own (n d m f : Int) (A B A2 B2 : Option Addr) (c e0 c2 e2 : Nat) (w : World) (h_x : Raw w A c (natL n.natAbs)) (k_x : Raw w B e0 (natL d.natAbs)) (h_y : Raw w A2 c2 (natL m.natAbs)) (k_y : Raw w B2 e2 (natL f.natAbs)) (hn : lz n ≤ 100000000) (hd : lz d ≤ 100000000) (hm : lz m ≤ 100000000) (hf : lz f ≤ 100000000) (h0 : d ≠ 0) (h1 : f ≠ 0) :
    Calls Tryz.prog 67 #[.agg #[.bool (decide (n < 0)), .slice A (natL n.natAbs).length c, .bool (decide (d < 0)), .slice B (natL d.natAbs).length e0], .agg #[.bool (decide (m < 0)), .slice A2 (natL m.natAbs).length c2, .bool (decide (f < 0)), .slice B2 (natL f.natAbs).length e2]] w (RetFracOwn w.heap.size w (mulN n d m f) (mulD n d m f)) := by
  obtain ⟨s, hs⟩ : ∃ k : Int, k = n * m := ⟨_, rfl⟩
  have hls := lz_mul n m
  rw [← hs] at hls
  obtain ⟨t, ht⟩ : ∃ k : Int, k = d * f := ⟨_, rfl⟩
  have hlt := lz_mul d f
  rw [← ht] at hlt
  have HT0 := Hd (show t ≠ 0 from by rw [ht]; exact Int.mul_ne_zero h0 h1)
  obtain ⟨N, hN⟩ : ∃ k : Int, k = lowN s t := ⟨_, rfl⟩
  obtain ⟨D, hD⟩ : ∃ k : Int, k = lowD s t := ⟨_, rfl⟩
  have HND := Hd (show mulN n d m f = N ∧ mulD n d m f = D from by rw [hN, hD, hs, ht]; exact ⟨rfl, rfl⟩)
  have HS := Hd hs
  have HTT := Hd ht
  have HLOW := Hd (And.intro hN hD)
  clear hs ht hN hD h0 h1
  have b0 := ((((Below.refl w.heap.size w).alloc (Nat.le_refl _) (.cells #[.bool (decide (n < 0)), .slice A (natL n.natAbs).length c, .bool (decide (d < 0)), .slice B (natL d.natAbs).length e0] 27)).alloc (by simp) (.cells #[.bool (decide (m < 0)), .slice A2 (natL m.natAbs).length c2, .bool (decide (f < 0)), .slice B2 (natL f.natAbs).length e2] 27)).alloc (by simp; omega) (.cells #[.bool false, .slice none 0 0, .bool false, .slice none 0 0] 27))
  have p0 := ((Quad.new w (.bool (decide (n < 0))) (.slice A (natL n.natAbs).length c) (.bool (decide (d < 0))) (.slice B (natL d.natAbs).length e0)).alloc (.cells #[.bool (decide (m < 0)), .slice A2 (natL m.natAbs).length c2, .bool (decide (f < 0)), .slice B2 (natL f.natAbs).length e2] 27)).alloc (.cells #[.bool false, .slice none 0 0, .bool false, .slice none 0 0] 27)
  have p1 := (Quad.new (w.alloc (.cells #[.bool (decide (n < 0)), .slice A (natL n.natAbs).length c, .bool (decide (d < 0)), .slice B (natL d.natAbs).length e0] 27)) (.bool (decide (m < 0))) (.slice A2 (natL m.natAbs).length c2) (.bool (decide (f < 0))) (.slice B2 (natL f.natAbs).length e2)).alloc (.cells #[.bool false, .slice none 0 0, .bool false, .slice none 0 0] 27)
  have p2 := Quad.new ((w.alloc (.cells #[.bool (decide (n < 0)), .slice A (natL n.natAbs).length c, .bool (decide (d < 0)), .slice B (natL d.natAbs).length e0] 27)).alloc (.cells #[.bool (decide (m < 0)), .slice A2 (natL m.natAbs).length c2, .bool (decide (f < 0)), .slice B2 (natL f.natAbs).length e2] 27)) (.bool false) (.slice none 0 0) (.bool false) (.slice none 0 0)
  simp only [World.size_alloc] at p1 p2
  have V_x := Hd (FV.mk p0 (h_x.below b0) (k_x.below b0))
  have KW_x := Hd k_x
  have V_y := Hd (FV.mk p1 (h_y.below b0) (k_y.below b0))
  have KW_y := Hd k_y
  have P_r0 := Hd p2
  have RW_x := Hd h_x
  have RW_y := Hd h_y
  have HBW := Hd b0
  clear b0 p0 p1 p2 h_x k_x h_y k_y
  go_enter Tryz.func67, Tryz.ntmps67
  obtain ⟨W, E⟩ : ∃ W, W = (((w.alloc (.cells #[.bool (decide (n < 0)), .slice A (natL n.natAbs).length c, .bool (decide (d < 0)), .slice B (natL d.natAbs).length e0] 27)).alloc (.cells #[.bool (decide (m < 0)), .slice A2 (natL m.natAbs).length c2, .bool (decide (f < 0)), .slice B2 (natL f.natAbs).length e2] 27)).alloc (.cells #[.bool false, .slice none 0 0, .bool false, .slice none 0 0] 27)) := ⟨_, rfl⟩
  go_upto_region 1 with fail
  rw [← E] at V_x V_y P_r0 HBW ⊢
  clear E
  have hsz := P_r0.out.blk.lt
  go_wp2_with fail
  refine wp_region_free [.val (.pointer (some ⟨w.heap.size, 0, none⟩)) [], .val (.agg #[.bool (decide (n < 0)), .slice A (natL n.natAbs).length c]) [], .val (.pointer (some ⟨w.heap.size + 1, 0, none⟩)) [], .val (.agg #[.bool (decide (m < 0)), .slice A2 (natL m.natAbs).length c2]) [], .any true (fun u V => IntOwn V w.heap.size u s) [], .val (.pointer (some ⟨w.heap.size, 2, none⟩)) [], .val (.agg #[.bool (decide (d < 0)), .slice B (natL d.natAbs).length e0]) [], .val (.pointer (some ⟨w.heap.size + 1, 2, none⟩)) [], .val (.agg #[.bool (decide (f < 0)), .slice B2 (natL f.natAbs).length e2]) [], .any true (fun u V => IntOwn V w.heap.size u t) [], .any false (fun u V => FracOwn V w.heap.size u N D) [4, 9, 1004009], .old (w.heap.size + 1 + 1) 27 #[.bool false, .slice none 0 0, .bool false, .slice none 0 0] 0 4 10 []] (w.heap.size + 1 + 1) W [27] blkInt _ mixedOrders2 (by omega) (Below.refl _ _) (KeptV.refl _ _ _) rfl (by kernel_rfl) (by kernel_rfl) (by kernel_rfl) (by kernel_rfl) (by kernel_rfl) (by kernel_rfl) (by kernel_rfl) (by kernel_rfl) rfl (by simp [oldsF]) ?_ ?_ ?_ ?_
  · simp only [StableF, and_true]
    exact ⟨fun u V V' h k => h.kept k (by decide), fun u V V' h k => h.kept k (by decide), fun u V V' h k => h.kept k (by decide)⟩
  · simp only [OldsF, and_true]
    exact ⟨Nat.le_refl _, P_r0.out.blk.lt, P_r0.out.blk, by simp⟩
  · simp (maxSteps := 4000000) [StepsF, DepF, freeAct, fill, pairs]
    repeat' (first | apply And.intro | (intro (u : Value)) | (intro (u : Nat)))
    all_goals try exact ⟨_, _, _, rfl, rfl, rfl, rfl, fracInfo⟩
    all_goals first
    | (intro V hV hK
       have qx : Quad V (w.heap.size) _ _ _ _ := ⟨V_x.out.quad.blk.below hV (by omega)⟩
       obtain ⟨-, a_x, b_x, c_x, d_x, -, -, -, -⟩ := qx.facts
       have qy : Quad V (w.heap.size + 1) _ _ _ _ := ⟨V_y.out.quad.blk.below hV (by omega)⟩
       obtain ⟨-, a_y, b_y, c_y, d_y, -, -, -, -⟩ := qy.facts
       have rn_x := Hd (RW_x.out.below (HBW.out.trans (hV.mono (by omega))))
       have rd_x := Hd (KW_x.out.below (HBW.out.trans (hV.mono (by omega))))
       have rn_y := Hd (RW_y.out.below (HBW.out.trans (hV.mono (by omega))))
       have rd_y := Hd (KW_y.out.below (HBW.out.trans (hV.mono (by omega))))
       have hvs : w.heap.size ≤ V.heap.size := by have := hV.size; have := HBW.out.size; omega
       clear hV hK qx qy
       go_simp
       first
       | exact Below.refl _ _
       | ((with_reducible refine (etimes n m s A A2 c c2 V rn_x.out rn_y.out (by omega) (by omega) HS.out).mono ?_); rintro e w' ⟨v, rfl, hv, hb⟩; first | exact ⟨hv.base (Nat.zero_le _), hb⟩ | exact ⟨hv.base hvs, hb, hv.mine⟩)
       | ((with_reducible refine (etimes d f t B B2 e0 e2 V rd_x.out rd_y.out (by omega) (by omega) HTT.out).mono ?_); rintro e w' ⟨v, rfl, hv, hb⟩; first | exact ⟨hv.base (Nat.zero_le _), hb⟩ | exact ⟨hv.base hvs, hb, hv.mine⟩)
)
    | (intro V hV hK h1 h2 hq
       obtain ⟨A6, c6, rfl, -⟩ := h1.raw
       obtain ⟨A7, c7, rfl, -⟩ := h2.raw
       have hq2 : ∀ g, (Value.slice A6 (natL s.natAbs).length c6).ownBlock = some g → (Value.slice A7 (natL t.natAbs).length c7).ownBlock ≠ some g := hq
       have hvs : w.heap.size ≤ V.heap.size := by have := hV.size; have := HBW.out.size; omega
       clear hV hK
       go_simp
       (with_reducible refine (efresh s t A6 A7 c6 c7 w.heap.size V h1 h2 hq2 hvs (by omega) (by omega) HT0.out).mono ?_); rintro e w' ⟨v, rfl, hv, hb⟩; rw [← HLOW.out.1, ← HLOW.out.2] at hv; exact ⟨hv, hb⟩)
    | exact fun _ _ _ (h : FracOwn _ _ _ _ _) => h.cells
  · simp [EndF, FactsF, freeAct, fill, pairs]
    intro u1 u2 u3 V hV hK h1 h2 h3 bq _ _ _
    have HF := Hd h3
    obtain ⟨A6, c6, A7, c7, rfl, -⟩ := h3.form
    simp [setAll, Value.cells] at bq
    have k0 := bq.cell 0
    have k1 := bq.cell 1
    have k2 := bq.cell 2
    have k3 := bq.cell 3
    simp at k0 k1 k2 k3
    have HB9 := Hd (HBW.out.trans (hV.mono (by omega)))
    clear h1 h2 h3 hV hK bq
    go_wp2_with fail
    exact bodyPost_ret (by simp [results, Tryz.results67, go_sem, k0, k1, k2, k3]) rfl ⟨.agg #[.bool (decide (N < 0)), .slice A6 (natL N.natAbs).length c6, .bool (decide (D < 0)), .slice A7 (natL D.natAbs).length c7], rfl, by rw [HND.out.1, HND.out.2]; exact HF.out, HB9.out⟩

theorem ratio_Over_own (n d m f : Int) (A B A2 B2 : Option Addr) (c e0 c2 e2 : Nat) (w : World) (h_x : Raw w A c (natL n.natAbs)) (k_x : Raw w B e0 (natL d.natAbs)) (h_y : Raw w A2 c2 (natL m.natAbs)) (k_y : Raw w B2 e2 (natL f.natAbs)) (hn : lz n ≤ 100000000) (hd : lz d ≤ 100000000) (hm : lz m ≤ 100000000) (hf : lz f ≤ 100000000) (h0 : d ≠ 0) (h1 : m ≠ 0) :
    Calls Tryz.prog 84 #[.agg #[.bool (decide (n < 0)), .slice A (natL n.natAbs).length c, .bool (decide (d < 0)), .slice B (natL d.natAbs).length e0], .agg #[.bool (decide (m < 0)), .slice A2 (natL m.natAbs).length c2, .bool (decide (f < 0)), .slice B2 (natL f.natAbs).length e2]] w (RetFracOwn w.heap.size w (quoN n d m f) (quoD n d m f)) := by
  obtain ⟨s, hs⟩ : ∃ k : Int, k = n * f := ⟨_, rfl⟩
  have hls := lz_mul n f
  rw [← hs] at hls
  obtain ⟨t, ht⟩ : ∃ k : Int, k = d * m := ⟨_, rfl⟩
  have hlt := lz_mul d m
  rw [← ht] at hlt
  have HT0 := Hd (show t ≠ 0 from by rw [ht]; exact Int.mul_ne_zero h0 h1)
  obtain ⟨N, hN⟩ : ∃ k : Int, k = lowN s t := ⟨_, rfl⟩
  obtain ⟨D, hD⟩ : ∃ k : Int, k = lowD s t := ⟨_, rfl⟩
  have HND := Hd (show quoN n d m f = N ∧ quoD n d m f = D from by rw [hN, hD, hs, ht]; exact ⟨rfl, rfl⟩)
  have HS := Hd hs
  have HTT := Hd ht
  have HLOW := Hd (And.intro hN hD)
  clear hs ht hN hD h0 h1
  have b0 := ((((Below.refl w.heap.size w).alloc (Nat.le_refl _) (.cells #[.bool (decide (n < 0)), .slice A (natL n.natAbs).length c, .bool (decide (d < 0)), .slice B (natL d.natAbs).length e0] 27)).alloc (by simp) (.cells #[.bool (decide (m < 0)), .slice A2 (natL m.natAbs).length c2, .bool (decide (f < 0)), .slice B2 (natL f.natAbs).length e2] 27)).alloc (by simp; omega) (.cells #[.bool false, .slice none 0 0, .bool false, .slice none 0 0] 27))
  have p0 := ((Quad.new w (.bool (decide (n < 0))) (.slice A (natL n.natAbs).length c) (.bool (decide (d < 0))) (.slice B (natL d.natAbs).length e0)).alloc (.cells #[.bool (decide (m < 0)), .slice A2 (natL m.natAbs).length c2, .bool (decide (f < 0)), .slice B2 (natL f.natAbs).length e2] 27)).alloc (.cells #[.bool false, .slice none 0 0, .bool false, .slice none 0 0] 27)
  have p1 := (Quad.new (w.alloc (.cells #[.bool (decide (n < 0)), .slice A (natL n.natAbs).length c, .bool (decide (d < 0)), .slice B (natL d.natAbs).length e0] 27)) (.bool (decide (m < 0))) (.slice A2 (natL m.natAbs).length c2) (.bool (decide (f < 0))) (.slice B2 (natL f.natAbs).length e2)).alloc (.cells #[.bool false, .slice none 0 0, .bool false, .slice none 0 0] 27)
  have p2 := Quad.new ((w.alloc (.cells #[.bool (decide (n < 0)), .slice A (natL n.natAbs).length c, .bool (decide (d < 0)), .slice B (natL d.natAbs).length e0] 27)).alloc (.cells #[.bool (decide (m < 0)), .slice A2 (natL m.natAbs).length c2, .bool (decide (f < 0)), .slice B2 (natL f.natAbs).length e2] 27)) (.bool false) (.slice none 0 0) (.bool false) (.slice none 0 0)
  simp only [World.size_alloc] at p1 p2
  have V_x := Hd (FV.mk p0 (h_x.below b0) (k_x.below b0))
  have KW_x := Hd k_x
  have V_y := Hd (FV.mk p1 (h_y.below b0) (k_y.below b0))
  have KW_y := Hd k_y
  have P_r0 := Hd p2
  have RW_x := Hd h_x
  have RW_y := Hd h_y
  have HBW := Hd b0
  clear b0 p0 p1 p2 h_x k_x h_y k_y
  go_enter Tryz.func84, Tryz.ntmps84
  obtain ⟨W, E⟩ : ∃ W, W = (((w.alloc (.cells #[.bool (decide (n < 0)), .slice A (natL n.natAbs).length c, .bool (decide (d < 0)), .slice B (natL d.natAbs).length e0] 27)).alloc (.cells #[.bool (decide (m < 0)), .slice A2 (natL m.natAbs).length c2, .bool (decide (f < 0)), .slice B2 (natL f.natAbs).length e2] 27)).alloc (.cells #[.bool false, .slice none 0 0, .bool false, .slice none 0 0] 27)) := ⟨_, rfl⟩
  go_upto_region 1 with fail
  rw [← E] at V_x V_y P_r0 HBW ⊢
  clear E
  have hsz := P_r0.out.blk.lt
  go_wp2_with fail
  refine wp_region_free [.val (.pointer (some ⟨w.heap.size, 0, none⟩)) [], .val (.agg #[.bool (decide (n < 0)), .slice A (natL n.natAbs).length c]) [], .val (.pointer (some ⟨w.heap.size + 1, 2, none⟩)) [], .val (.agg #[.bool (decide (f < 0)), .slice B2 (natL f.natAbs).length e2]) [], .any true (fun u V => IntOwn V w.heap.size u s) [], .val (.pointer (some ⟨w.heap.size, 2, none⟩)) [], .val (.agg #[.bool (decide (d < 0)), .slice B (natL d.natAbs).length e0]) [], .val (.pointer (some ⟨w.heap.size + 1, 0, none⟩)) [], .val (.agg #[.bool (decide (m < 0)), .slice A2 (natL m.natAbs).length c2]) [], .any true (fun u V => IntOwn V w.heap.size u t) [], .any false (fun u V => FracOwn V w.heap.size u N D) [4, 9, 1004009], .old (w.heap.size + 1 + 1) 27 #[.bool false, .slice none 0 0, .bool false, .slice none 0 0] 0 4 10 []] (w.heap.size + 1 + 1) W [27] blkInt _ mixedOrders2 (by omega) (Below.refl _ _) (KeptV.refl _ _ _) rfl (by kernel_rfl) (by kernel_rfl) (by kernel_rfl) (by kernel_rfl) (by kernel_rfl) (by kernel_rfl) (by kernel_rfl) (by kernel_rfl) rfl (by simp [oldsF]) ?_ ?_ ?_ ?_
  · simp only [StableF, and_true]
    exact ⟨fun u V V' h k => h.kept k (by decide), fun u V V' h k => h.kept k (by decide), fun u V V' h k => h.kept k (by decide)⟩
  · simp only [OldsF, and_true]
    exact ⟨Nat.le_refl _, P_r0.out.blk.lt, P_r0.out.blk, by simp⟩
  · simp (maxSteps := 4000000) [StepsF, DepF, freeAct, fill, pairs]
    repeat' (first | apply And.intro | (intro (u : Value)) | (intro (u : Nat)))
    all_goals try exact ⟨_, _, _, rfl, rfl, rfl, rfl, fracInfo⟩
    all_goals first
    | (intro V hV hK
       have qx : Quad V (w.heap.size) _ _ _ _ := ⟨V_x.out.quad.blk.below hV (by omega)⟩
       obtain ⟨-, a_x, b_x, c_x, d_x, -, -, -, -⟩ := qx.facts
       have qy : Quad V (w.heap.size + 1) _ _ _ _ := ⟨V_y.out.quad.blk.below hV (by omega)⟩
       obtain ⟨-, a_y, b_y, c_y, d_y, -, -, -, -⟩ := qy.facts
       have rn_x := Hd (RW_x.out.below (HBW.out.trans (hV.mono (by omega))))
       have rd_x := Hd (KW_x.out.below (HBW.out.trans (hV.mono (by omega))))
       have rn_y := Hd (RW_y.out.below (HBW.out.trans (hV.mono (by omega))))
       have rd_y := Hd (KW_y.out.below (HBW.out.trans (hV.mono (by omega))))
       have hvs : w.heap.size ≤ V.heap.size := by have := hV.size; have := HBW.out.size; omega
       clear hV hK qx qy
       go_simp
       first
       | exact Below.refl _ _
       | ((with_reducible refine (etimes n f s A B2 c e2 V rn_x.out rd_y.out (by omega) (by omega) HS.out).mono ?_); rintro e w' ⟨v, rfl, hv, hb⟩; first | exact ⟨hv.base (Nat.zero_le _), hb⟩ | exact ⟨hv.base hvs, hb, hv.mine⟩)
       | ((with_reducible refine (etimes d m t B A2 e0 c2 V rd_x.out rn_y.out (by omega) (by omega) HTT.out).mono ?_); rintro e w' ⟨v, rfl, hv, hb⟩; first | exact ⟨hv.base (Nat.zero_le _), hb⟩ | exact ⟨hv.base hvs, hb, hv.mine⟩)
)
    | (intro V hV hK h1 h2 hq
       obtain ⟨A6, c6, rfl, -⟩ := h1.raw
       obtain ⟨A7, c7, rfl, -⟩ := h2.raw
       have hq2 : ∀ g, (Value.slice A6 (natL s.natAbs).length c6).ownBlock = some g → (Value.slice A7 (natL t.natAbs).length c7).ownBlock ≠ some g := hq
       have hvs : w.heap.size ≤ V.heap.size := by have := hV.size; have := HBW.out.size; omega
       clear hV hK
       go_simp
       (with_reducible refine (efresh s t A6 A7 c6 c7 w.heap.size V h1 h2 hq2 hvs (by omega) (by omega) HT0.out).mono ?_); rintro e w' ⟨v, rfl, hv, hb⟩; rw [← HLOW.out.1, ← HLOW.out.2] at hv; exact ⟨hv, hb⟩)
    | exact fun _ _ _ (h : FracOwn _ _ _ _ _) => h.cells
  · simp [EndF, FactsF, freeAct, fill, pairs]
    intro u1 u2 u3 V hV hK h1 h2 h3 bq _ _ _
    have HF := Hd h3
    obtain ⟨A6, c6, A7, c7, rfl, -⟩ := h3.form
    simp [setAll, Value.cells] at bq
    have k0 := bq.cell 0
    have k1 := bq.cell 1
    have k2 := bq.cell 2
    have k3 := bq.cell 3
    simp at k0 k1 k2 k3
    have HB9 := Hd (HBW.out.trans (hV.mono (by omega)))
    clear h1 h2 h3 hV hK bq
    go_wp2_with fail
    exact bodyPost_ret (by simp [results, Tryz.results84, go_sem, k0, k1, k2, k3]) rfl ⟨.agg #[.bool (decide (N < 0)), .slice A6 (natL N.natAbs).length c6, .bool (decide (D < 0)), .slice A7 (natL D.natAbs).length c7], rfl, by rw [HND.out.1, HND.out.2]; exact HF.out, HB9.out⟩
/- The operations of package ratio and of the references of chapter 02, as operations of rational numbers; their sizes. (Written by wip/gauss/genratops.py.) -/

structure Sz (q : Rat) (k : Nat) : Prop where
  num : lz q.num ≤ k
  den : lz (q.den : Int) ≤ k
theorem Sz.mono {q : Rat} {k l : Nat} (h : Sz q k) (hl : k ≤ l) : Sz q l := ⟨Nat.le_trans h.num hl, Nat.le_trans h.den hl⟩
theorem Sz.lz {q : Rat} {k : Nat} {n d : Int} (h : Sz q k) (i : Is q n d) : Go.Proofs.YtmcnmoljliggfaaGreatDoor.lz n ≤ k ∧ Go.Proofs.YtmcnmoljliggfaaGreatDoor.lz d ≤ k := by rw [← i.num, ← i.den]; exact ⟨h.num, h.den⟩
theorem Is.sz {q : Rat} {n d : Int} {k : Nat} (i : Is q n d) (h1 : lz n ≤ k) (h2 : lz d ≤ k) : Sz q k := ⟨by rw [i.num]; exact h1, by rw [i.den]; exact h2⟩
theorem lz_mulN (n d m f : Int) : lz (mulN n d m f) ≤ lz n + lz m ∧ lz (mulD n d m f) ≤ lz d + lz f := by
  have h1 := lowN_lz (n * m) (d * f)
  have h2 := lowD_lz (n * m) (d * f)
  have h4 := lz_mul n m
  have h6 := lz_mul d f
  unfold mulN mulD
  omega
section
variable {a b : Rat} {k l : Nat}
theorem sz_mul (h : Sz a k) (g : Sz b l) : Sz (a * b) (k + l) := by
  have i := is_mul (Is.of a) (Is.of b)
  have b1 := lz_mulN a.num a.den b.num b.den
  have := h.num
  have := h.den
  have := g.num
  have := g.den
  exact i.sz (by omega) (by omega)
theorem sz_zero : Sz 0 1 := ⟨by decide +kernel, by decide +kernel⟩
theorem sz_one : Sz 1 1 := ⟨by decide +kernel, by decide +kernel⟩
end
section
variable {a b : Rat} {n d m f N D : Int}
theorem plus_r (ha : Is a n d) (hb : Is b m f) (hz : Is (a + b) N D) (sa : Sz a 100000000) (sb : Sz b 100000000) : OpR 66 n d m f N D := by
  obtain ⟨rfl, rfl⟩ := hz.uniq (is_add ha hb)
  have l1 := sa.lz ha
  have l2 := sb.lz hb
  intro V v1 v2 g1 g2
  obtain ⟨A, c, B, e0, rfl, a1, a2⟩ := g1.form
  obtain ⟨A2, c2, B2, e2, rfl, a3, a4⟩ := g2.form
  exact ratio_Plus_own n d m f A B A2 B2 c e0 c2 e2 V a1 a2 a3 a4 l1.1 l1.2 l2.1 l2.2 (by have := ha.pos; omega) (by have := hb.pos; omega)
theorem minus_r (ha : Is a n d) (hb : Is b m f) (hz : Is (a - b) N D) (sa : Sz a 100000000) (sb : Sz b 100000000) : OpR 72 n d m f N D := by
  obtain ⟨rfl, rfl⟩ := hz.uniq (is_sub ha hb)
  have l1 := sa.lz ha
  have l2 := sb.lz hb
  intro V v1 v2 g1 g2
  obtain ⟨A, c, B, e0, rfl, a1, a2⟩ := g1.form
  obtain ⟨A2, c2, B2, e2, rfl, a3, a4⟩ := g2.form
  exact ratio_Minus_own n d m f A B A2 B2 c e0 c2 e2 V a1 a2 a3 a4 l1.1 l1.2 l2.1 l2.2 (by have := ha.pos; omega) (by have := hb.pos; omega)
theorem times_r (ha : Is a n d) (hb : Is b m f) (hz : Is (a * b) N D) (sa : Sz a 100000000) (sb : Sz b 100000000) : OpR 67 n d m f N D := by
  obtain ⟨rfl, rfl⟩ := hz.uniq (is_mul ha hb)
  have l1 := sa.lz ha
  have l2 := sb.lz hb
  intro V v1 v2 g1 g2
  obtain ⟨A, c, B, e0, rfl, a1, a2⟩ := g1.form
  obtain ⟨A2, c2, B2, e2, rfl, a3, a4⟩ := g2.form
  exact ratio_Times_own n d m f A B A2 B2 c e0 c2 e2 V a1 a2 a3 a4 l1.1 l1.2 l2.1 l2.2 (by have := ha.pos; omega) (by have := hb.pos; omega)
theorem over_r (ha : Is a n d) (hb : Is b m f) (hz : Is (a / b) N D) (sa : Sz a 100000000) (sb : Sz b 100000000) (hb0 : b ≠ 0) : OpR 84 n d m f N D := by
  obtain ⟨rfl, rfl⟩ := hz.uniq (is_quo ha hb hb0)
  have l1 := sa.lz ha
  have l2 := sb.lz hb
  intro V v1 v2 g1 g2
  obtain ⟨A, c, B, e0, rfl, a1, a2⟩ := g1.form
  obtain ⟨A2, c2, B2, e2, rfl, a3, a4⟩ := g2.form
  exact ratio_Over_own n d m f A B A2 B2 c e0 c2 e2 V a1 a2 a3 a4 l1.1 l1.2 l2.1 l2.2 (by have := ha.pos; omega) (by intro e; exact hb0 (hb.nought.1 e))
end
/- Benches as products of matrices of rationals: cut anywhere, of determinant 1, and how many limbs their numbers have; plain. -/

@[ext] structure M2 where
  a : Rat
  b : Rat
  c : Rat
  d : Rat
def M2.one : M2 := ⟨1, 0, 0, 1⟩
def M2.mul (m n : M2) : M2 := ⟨m.a * n.a + m.b * n.c, m.a * n.b + m.b * n.d, m.c * n.a + m.d * n.c, m.c * n.b + m.d * n.d⟩
def M2.det (m : M2) : Rat := m.a * m.d - m.b * m.c
theorem M2.det_mul (m n : M2) : (m.mul n).det = m.det * n.det := by
  unfold M2.mul M2.det
  dsimp only
  grind
structure El where
  kind : Nat
  p : Rat
  q : Rat
def El.mat (e : El) : M2 := match e.kind with
  | 1 => ⟨1, e.p, 0, 1⟩
  | 2 => ⟨1, 0, 0 - e.p, 1⟩
  | 3 => ⟨1, e.p / e.q, 0, 1⟩
  | 4 => ⟨1, 0, 0 - e.p * e.q, 1⟩
  | _ => ⟨0 - 1, 0 - 0, 0 - 0, 0 - 1⟩
theorem El.det (e : El) : e.mat.det = 1 := by
  unfold El.mat M2.det
  split <;> dsimp only <;> grind
def goneM : M2 → List El → M2
  | m, [] => m
  | m, e :: l => goneM (e.mat.mul m) l
def benchM (l : List El) : M2 := goneM M2.one l
theorem goneM_app : ∀ (l k : List El) (m : M2), goneM m (l ++ k) = goneM (goneM m l) k
  | [], _, _ => rfl
  | e :: l, k, m => by rw [List.cons_append, goneM, goneM, goneM_app l k]
theorem goneM_det : ∀ (l : List El) (m : M2), (goneM m l).det = m.det
  | [], _ => rfl
  | e :: l, m => by rw [goneM, goneM_det l, M2.det_mul, e.det, Rat.one_mul]
theorem benchM_det (l : List El) : (benchM l).det = 1 := by
  unfold benchM
  rw [goneM_det]
  unfold M2.det M2.one
  dsimp only
  grind

def Bd (q : Rat) (D : Int) (h : Nat) : Prop := ∃ a : Int, q * (D : Rat) = (a : Rat) ∧ lz a ≤ h
theorem Bd.mono {q : Rat} {D : Int} {h k : Nat} (b : Bd q D h) (hk : h ≤ k) : Bd q D k := by
  obtain ⟨a, h1, h2⟩ := b
  exact ⟨a, h1, Nat.le_trans h2 hk⟩
theorem rat_ne {D : Int} (hD : D ≠ 0) : (D : Rat) ≠ 0 := fun e => hD (by exact_mod_cast e)
theorem Bd.sz {q : Rat} {D : Int} {h : Nat} (b : Bd q D h) (hD : D ≠ 0) (hl : lz D ≤ h) : Sz q h := by
  obtain ⟨a, h1, h2⟩ := b
  have hq : q = Rat.divInt a D := by
    rw [Rat.divInt_eq_div]
    have h0 := rat_ne hD
    grind
  have hi : Is q (lowN a D) (lowD a D) := by
    rw [hq]
    exact is_low a hD
  exact hi.sz (Nat.le_trans (lowN_lz a D) h2) (Nat.le_trans (lowD_lz a D) hl)
theorem Bd.mul {q r : Rat} {D E : Int} {h k : Nat} (b : Bd q D h) (c : Bd r E k) : Bd (q * r) (D * E) (h + k) := by
  obtain ⟨x, h1, h2⟩ := b
  obtain ⟨y, h3, h4⟩ := c
  refine ⟨x * y, ?_, Nat.le_trans (lz_mul x y) (by omega)⟩
  rw [Rat.intCast_mul, Rat.intCast_mul, ← h1, ← h3]
  grind
theorem Bd.add {q r : Rat} {D : Int} {h : Nat} (b : Bd q D h) (c : Bd r D h) : Bd (q + r) D (h + 1) := by
  obtain ⟨x, h1, h2⟩ := b
  obtain ⟨y, h3, h4⟩ := c
  refine ⟨x + y, ?_, Nat.le_trans (lz_add x y) (by omega)⟩
  rw [Rat.intCast_add, ← h1, ← h3]
  grind
theorem Bd.neg {q : Rat} {D : Int} {h : Nat} (b : Bd q D h) : Bd (0 - q) D h := by
  obtain ⟨x, h1, h2⟩ := b
  refine ⟨-x, ?_, by rw [lz_neg]; exact h2⟩
  rw [Rat.intCast_neg, ← h1]
  grind
theorem Bd.zero (D : Int) (h : Nat) : Bd 0 D h := ⟨0, by rw [Rat.zero_mul]; rfl, by rw [lz_zero]; omega⟩
theorem Bd.one {D : Int} {h : Nat} (hl : lz D ≤ h) : Bd 1 D h := ⟨D, by rw [Rat.one_mul], hl⟩
structure MB (m : M2) (D : Int) (h : Nat) : Prop where
  ne : D ≠ 0
  den : lz D ≤ h
  a : Bd m.a D h
  b : Bd m.b D h
  c : Bd m.c D h
  d : Bd m.d D h
theorem MB.one : MB M2.one 1 1 := ⟨by decide, by decide, Bd.one (by decide), Bd.zero _ _, Bd.zero _ _, Bd.one (by decide)⟩
theorem MB.mul {m n : M2} {D E : Int} {h k : Nat} (x : MB m D h) (y : MB n E k) : MB (m.mul n) (D * E) (h + k + 1) :=
  ⟨Int.mul_ne_zero x.ne y.ne, Nat.le_trans (lz_mul D E) (by have := x.den; have := y.den; omega), (x.a.mul y.a).add (x.b.mul y.c), (x.a.mul y.b).add (x.b.mul y.d), (x.c.mul y.a).add (x.d.mul y.c), (x.c.mul y.b).add (x.d.mul y.d)⟩
theorem MB.mono {m : M2} {D : Int} {h k : Nat} (x : MB m D h) (hk : h ≤ k) : MB m D k := ⟨x.ne, Nat.le_trans x.den hk, x.a.mono hk, x.b.mono hk, x.c.mono hk, x.d.mono hk⟩
theorem MB.sz {m : M2} {D : Int} {h : Nat} (x : MB m D h) : (Sz m.a h ∧ Sz m.b h) ∧ Sz m.c h ∧ Sz m.d h := ⟨⟨x.a.sz x.ne x.den, x.b.sz x.ne x.den⟩, x.c.sz x.ne x.den, x.d.sz x.ne x.den⟩
theorem Bd.of {q : Rat} {n d : Int} (i : Is q n d) : Bd q d (lz n) := by
  refine ⟨n, ?_, Nat.le_refl _⟩
  have h0 := rat_ne (show d ≠ 0 by have := i.pos; omega)
  rw [i.eq, Rat.divInt_eq_div]
  grind
theorem Bd.over {q r : Rat} {n d m f : Int} (i : Is q n d) (j : Is r m f) (hr : r ≠ 0) : Bd (q / r) (d * m) (lz n + lz f) := by
  refine ⟨n * f, ?_, lz_mul n f⟩
  have h0 := rat_ne (show d ≠ 0 by have := i.pos; omega)
  have h1 := rat_ne (show f ≠ 0 by have := j.pos; omega)
  have h2 : m ≠ 0 := fun e => hr (j.nought.1 e)
  have h3 := rat_ne h2
  rw [i.eq, j.eq, Rat.divInt_eq_div, Rat.divInt_eq_div, Rat.intCast_mul, Rat.intCast_mul]
  grind
def elLz (n d m f : Int) : Nat := lz n + lz d + (lz m + lz f)
theorem El.bound {e : El} {n d m f : Int} (i : Is e.p n d) (j : Is e.q m f) (hq : e.kind = 3 → e.q ≠ 0) : ∃ D, MB e.mat D (elLz n d m f + 1) := by
  have hd := i.pos
  have hf := j.pos
  have h1 : lz (1 : Int) ≤ 1 := by decide
  unfold elLz El.mat
  split
  · exact ⟨d, by omega, by omega, Bd.one (by omega), (Bd.of i).mono (by omega), Bd.zero _ _, Bd.one (by omega)⟩
  · exact ⟨d, by omega, by omega, Bd.one (by omega), Bd.zero _ _, ((Bd.of i).neg).mono (by omega), Bd.one (by omega)⟩
  · rename_i hk
    have hr := hq hk
    have hm : m ≠ 0 := fun e => hr (j.nought.1 e)
    have h2 := lz_mul d m
    exact ⟨d * m, Int.mul_ne_zero (by omega) hm, by omega, Bd.one (by omega), (Bd.over i j hr).mono (by omega), Bd.zero _ _, Bd.one (by omega)⟩
  · have h2 := lz_mul d f
    exact ⟨d * f, Int.mul_ne_zero (by omega) (by omega), by omega, Bd.one (by omega), Bd.zero _ _, (((Bd.of i).mul (Bd.of j)).neg).mono (by omega), Bd.one (by omega)⟩
  · exact ⟨1, by decide, by omega, (Bd.one (h := 1) (by decide)).neg.mono (by omega), (Bd.zero _ _).neg, (Bd.zero _ _).neg, (Bd.one (h := 1) (by decide)).neg.mono (by omega)⟩
theorem goneM_bound : ∀ (l : List (El × Nat)) (m : M2) (D : Int) (h : Nat), (∀ x ∈ l, ∃ E, MB x.1.mat E x.2) → MB m D h → ∃ E, MB (goneM m (l.map Prod.fst)) E (h + (l.map fun x => x.2 + 1).sum)
  | [], m, D, h, _, hm => ⟨D, hm⟩
  | x :: l, m, D, h, hl, hm => by
    obtain ⟨E, hx⟩ := hl x (List.mem_cons_self ..)
    obtain ⟨F, hf⟩ := goneM_bound l (x.1.mat.mul m) (E * D) (x.2 + h + 1) (fun y hy => hl y (List.mem_cons_of_mem _ hy)) (hx.mul hm)
    refine ⟨F, ?_⟩
    rw [List.map_cons, goneM]
    exact hf.mono (by rw [List.map_cons, List.sum_cons]; omega)
def rayM (m : M2) (r : Rat × Rat) : Rat × Rat := (m.a * r.1 + m.b * r.2, m.c * r.1 + m.d * r.2)
theorem rayM_mul (m n : M2) (r : Rat × Rat) : rayM (m.mul n) r = rayM m (rayM n r) := by
  unfold rayM M2.mul
  ext <;> dsimp only <;> grind
def M2.back (m : M2) : M2 := ⟨m.d, -m.b, -m.c, m.a⟩
def crossM (r s : Rat × Rat) : Rat := r.1 * s.2 - r.2 * s.1
structure RB (r : Rat × Rat) (D : Int) (h : Nat) : Prop where
  ne : D ≠ 0
  den : lz D ≤ h
  y : Bd r.1 D h
  u : Bd r.2 D h
/- Package argand. (Written by wip/gauss/genargand.py.) -/

abbrev OpW (w : World) (F : FuncId) (cap : Value) (n d m f N D : Int) : Prop := ∀ (V : World), Below w.heap.size w V → ∀ (v1 v2 : Value), FracAt V v1 n d → FracAt V v2 m f → Calls Tryz.prog F #[v1, v2, cap] V (RetFracOwn V.heap.size V N D)

/- Nought, Small, One, Turned of package ratio. (Written by wip/gauss/genratio0.py.) -/

theorem lz_i64 {n : Int} (h1 : -9223372036854775808 ≤ n) (h2 : n ≤ 9223372036854775807) : lz n ≤ 2 := by
  rw [lz_le]
  omega
theorem nought_own (one : Int) (w : World)  (h1 : one = 1) :
    Calls Tryz.prog 93 #[] w (RetFracOwn w.heap.size w 0 one) := by
  have C := fun (V : World) => eof 1 one h1 (by decide) (by decide) V
  clear h1
  have H1 := Hd C
  clear C
  have b0 := ((Below.refl w.heap.size w).alloc (Nat.le_refl _) (.cells #[.bool false, .slice none 0 0, .bool false, .slice none 0 0] 27))
  have p0 := Quad.new w (.bool false) (.slice none 0 0) (.bool false) (.slice none 0 0)
  have P_r0 := Hd p0
  have HBW := Hd b0
  clear b0 p0 
  go_enter Tryz.func93, Tryz.ntmps93
  obtain ⟨W, E⟩ : ∃ W, W = (w.alloc (.cells #[.bool false, .slice none 0 0, .bool false, .slice none 0 0] 27)) := ⟨_, rfl⟩
  go_upto_region 1 with fail
  rw [← E] at P_r0 HBW ⊢
  clear E
  go_wp2_with fail
  refine (H1.out W).mono ?_
  rintro e x1 ⟨v, rfl, hI, hb⟩
  have hIb := hI.base HBW.out.size
  obtain ⟨A1, c1, rfl, -⟩ := hI.raw
  have P_r0 := Hd (P_r0.out.below hb)
  have HBW := Hd (belowTo HBW.out hb)
  clear hb
  have HI := Hd hIb
  clear hI hIb
  obtain ⟨l_r0, a_r0, b_r0, f_r0, g_r0⟩ := P_r0.out.facts
  have HQ := Hd (P_r0.out.store (.bool false) (.slice none 0 0) (.bool (decide (one < 0))) (.slice A1 (natL one.natAbs).length c1))
  have HB := Hd (below4 HBW.out (show w.heap.size ≤ w.heap.size by omega) (.bool false) (.slice none 0 0) (.bool (decide (one < 0))) (.slice A1 (natL one.natAbs).length c1))
  have HF9 := Hd (show FracOwn _ w.heap.size _ 0 one from (FracOwn.mk ⟨none, 0, A1, c1, rfl, IntOwn.nought _ _, HI.out, fun g hg => by cases hg⟩ : FracOwn x1 w.heap.size _ 0 one).quad P_r0.out (.bool false) (.slice none 0 0) (.bool (decide (one < 0))) (.slice A1 (natL one.natAbs).length c1))
  go_wp2_with fail
  obtain ⟨_, k0, k1, k2, k3, _, _, _, _⟩ := HQ.out.facts
  exact bodyPost_ret (by simp [results, Tryz.results93, go_sem, k0, k1, k2, k3]) rfl ⟨.agg #[.bool false, .slice none 0 0, .bool (decide (one < 0)), .slice A1 (natL one.natAbs).length c1], rfl, HF9.out, HB.out⟩

theorem small_own {n d : Int} (hn1 : -9223372036854775808 ≤ n) (hn2 : n ≤ 9223372036854775807) (hd1 : -9223372036854775808 ≤ d) (hd2 : d ≤ 9223372036854775807) (hd0 : d ≠ 0) (w : World)   :
    Calls Tryz.prog 73 #[.int .i64 n, .int .i64 d] w (RetFracOwn w.heap.size w (lowN n d) (lowD n d)) := by
  have D1 := fun (V : World) => eof n n rfl hn1 hn2 V
  have D2 := fun (V : World) => eof d d rfl hd1 hd2 V
  have l1 : lz n ≤ 400000000 := Nat.le_trans (lz_i64 hn1 hn2) (by decide)
  have l2 : lz d ≤ 400000000 := Nat.le_trans (lz_i64 hd1 hd2) (by decide)
  obtain ⟨N, hN⟩ : ∃ k : Int, k = lowN n d := ⟨_, rfl⟩
  obtain ⟨D, hD⟩ : ∃ k : Int, k = lowD n d := ⟨_, rfl⟩
  rw [← hN, ← hD]
  have HLOW := Hd (And.intro hN hD)
  have H1 := Hd D1
  have H2 := Hd D2
  have H0 := Hd hd0
  clear hn1 hn2 hd1 hd2 hd0 D1 D2 hN hD
  go_enter Tryz.func73, Tryz.ntmps73
  go_upto_region 1 with fail
  refine boxes1 (P := fun W => Code.wp _ _ _ _ W) fun W p0 b0 => ?_
  have PR := Hd (Quad.mk p0)
  have HB := Hd b0
  clear b0 p0
  go_wp2_with fail
  refine (H1.out W).mono ?_
  rintro e wx1 ⟨v, rfl, hI, hb⟩
  obtain ⟨A6, c6, rfl, -⟩ := hI.raw
  have I1 := Hd (hI.base HB.out.size)
  have M1 := Hd (show ∀ g, (Value.slice A6 (natL n.natAbs).length c6).ownBlock = some g → g < wx1.heap.size from fun g hg => (hI.mine g hg).2)
  clear hI
  have PR := Hd (PR.out.below hb)
  have HB := Hd (belowTo HB.out hb)
  clear hb
  go_wp2_with fail
  refine (H2.out wx1).mono ?_
  rintro e wx2 ⟨v, rfl, hI, hb⟩
  obtain ⟨A7, c7, rfl, -⟩ := hI.raw
  have I2 := Hd (hI.base HB.out.size)
  have HQ2 := Hd (show ∀ g, (Value.slice A6 (natL n.natAbs).length c6).ownBlock = some g → (Value.slice A7 (natL d.natAbs).length c7).ownBlock ≠ some g from fun g hg hg2 => by have a := M1.out g hg; have b := (hI.mine g hg2).1; omega)
  clear hI
  have PR := Hd (PR.out.below hb)
  have I1 := Hd (I1.out.below hb)
  have HB := Hd (belowTo HB.out hb)
  clear hb
  go_wp2_with fail
  refine (show Calls Tryz.prog 95 _ _ (RetFracOwn w.heap.size wx2 N D) from by rw [HLOW.out.1, HLOW.out.2]; exact efresh n d A6 A7 c6 c7 w.heap.size wx2 I1.out I2.out HQ2.out HB.out.size l1 l2 H0.out).mono ?_
  rintro e w9 ⟨v, rfl, hI, hb⟩
  have HI := Hd hI
  obtain ⟨A6, c6, A7, c7, rfl, -⟩ := hI.form
  have pr := PR.out.below hb
  have hb9 := belowTo HB.out hb
  obtain ⟨l_r, r0, r1, r2, r3, f0, f1, f2, f3⟩ := pr.facts
  have HQ := Hd (pr.store (.bool (decide (N < 0))) (.slice A6 (natL N.natAbs).length c6) (.bool (decide (D < 0))) (.slice A7 (natL D.natAbs).length c7))
  have HB9 := Hd (below4 hb9 (show w.heap.size ≤ w.heap.size by omega) (.bool (decide (N < 0))) (.slice A6 (natL N.natAbs).length c6) (.bool (decide (D < 0))) (.slice A7 (natL D.natAbs).length c7))
  have HF := Hd (HI.out.quad pr (.bool (decide (N < 0))) (.slice A6 (natL N.natAbs).length c6) (.bool (decide (D < 0))) (.slice A7 (natL D.natAbs).length c7))
  clear hb hb9 pr hI
  go_wp2_with fail
  obtain ⟨_, k0, k1, k2, k3, _, _, _, _⟩ := HQ.out.facts
  exact bodyPost_ret (by simp [results, Tryz.results73, go_sem, k0, k1, k2, k3]) rfl ⟨_, rfl, HF.out, HB9.out⟩

theorem one_own {N D : Int} (hN : N = 1) (hD : D = 1) (w : World)   :
    Calls Tryz.prog 43 #[] w (RetFracOwn w.heap.size w N D) := by
  have D1 := fun (V : World) => small_own (n := 1) (d := 1) (by decide) (by decide) (by decide) (by decide) (by decide) V
  rw [show lowN 1 1 = 1 by decide +kernel, show lowD 1 1 = 1 by decide +kernel] at D1
  have D1 : ∀ V : World, Calls Tryz.prog 73 #[.int .i64 1, .int .i64 1] V (RetFracOwn V.heap.size V N D) := by rw [hN, hD]; exact D1
  have H1 := Hd D1
  clear D1 hN hD
  go_enter Tryz.func43, Tryz.ntmps43
  go_upto_region 1 with fail
  refine boxes1 (P := fun W => Code.wp _ _ _ _ W) fun W p0 b0 => ?_
  have PR := Hd (Quad.mk p0)
  have HB := Hd b0
  clear b0 p0
  go_wp2_with fail
  refine (H1.out W).mono ?_
  rintro e w9 ⟨v, rfl, hI, hb⟩
  have HI := Hd hI
  obtain ⟨A6, c6, A7, c7, rfl, -⟩ := hI.form
  have pr := PR.out.below hb
  have hb9 := belowTo HB.out hb
  obtain ⟨l_r, r0, r1, r2, r3, f0, f1, f2, f3⟩ := pr.facts
  have HQ := Hd (pr.store (.bool (decide (N < 0))) (.slice A6 (natL N.natAbs).length c6) (.bool (decide (D < 0))) (.slice A7 (natL D.natAbs).length c7))
  have HB9 := Hd (below4 hb9 (show w.heap.size ≤ w.heap.size by omega) (.bool (decide (N < 0))) (.slice A6 (natL N.natAbs).length c6) (.bool (decide (D < 0))) (.slice A7 (natL D.natAbs).length c7))
  have HF := Hd (HI.out.quad pr (.bool (decide (N < 0))) (.slice A6 (natL N.natAbs).length c6) (.bool (decide (D < 0))) (.slice A7 (natL D.natAbs).length c7))
  clear hb hb9 pr hI
  go_wp2_with fail
  obtain ⟨_, k0, k1, k2, k3, _, _, _, _⟩ := HQ.out.facts
  exact bodyPost_ret (by simp [results, Tryz.results43, go_sem, k0, k1, k2, k3]) rfl ⟨_, rfl, HF.out.base HB.out.size, HB9.out⟩

end Go.Proofs.YtmcnmoljliggfaaGreatDoor
