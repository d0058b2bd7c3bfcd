/- Several texts in one: Ratq1, TreesOwnq1, RatOpsq1, Argandq1. -/
import Derived.Test.YthlehkjcfhnplaaGreatDoorGn28
import Derived.Test.YthlehkjcfhnplaaGreatDoorGn19
import Derived.Test.YthlehkjcfhnplaaGreatDoorGn23
import Derived.Test.YthlehkjcfhnplaaGreatDoorGn27
import Derived.Test.YthlehkjcfhnplaaGreatDoorGn22
import Derived.Test.YthlehkjcfhnplaaGreatDoorGn14
import Derived.Test.YthlehkjcfhnplaaGreatDoorGn12
import Derived.Test.YthlehkjcfhnplaaGreatDoorGn13
import Derived.Test.YthlehkjcfhnplaaGreatDoorGn07
import Derived.Test.YthlehkjcfhnplaaGreatDoorGn08
import Derived.Test.YthlehkjcfhnplaaGreatDoorGn10
import Derived.Test.YthlehkjcfhnplaaGreatDoorGn03
import Derived.Test.YthlehkjcfhnplaaGreatDoorGn02
import Derived.Test.YthlehkjcfhnplaaGreatDoorGn01
import Derived.Test.YthlehkjcfhnplaaGreatDoorGn09
import Derived.Test.YthlehkjcfhnplaaGreatDoorGn05
import Derived.Test.YthlehkjcfhnplaaGreatDoorGn04
import Derived.Test.YthlehkjcfhnplaaGreatDoorGn06
import Derived.Test.YthlehkjcfhnplaaGreatDoorGn11
import Derived.Test.YthlehkjcfhnplaaGreatDoorGn21
import Derived.Test.YthlehkjcfhnplaaGreatDoorGn20
import Derived.Test.YthlehkjcfhnplaaGreatDoorGn18
import Derived.Test.YthlehkjcfhnplaaGreatDoorGn16
import Derived.Test.YthlehkjcfhnplaaGreatDoorGn15
import Derived.Test.YthlehkjcfhnplaaGreatDoorGn17
import Derived.Test.YthlehkjcfhnplaaGreatDoorGn24
import Derived.Test.YthlehkjcfhnplaaGreatDoorGn25
import Derived.Test.YthlehkjcfhnplaaGreatDoorGn26
import Derived.Test.YthlehkjcfhnplaaGreatDoorGn29
import Derived.Test.YthlehkjcfhnplaaGreatDoorGnHd
import Derived.Test.YthlehkjcfhnplaaGreatDoorGn30
import Derived.Test.YthlehkjcfhnplaaGreatDoorGn31
set_option maxRecDepth 100000
set_option maxHeartbeats 8000000
/- Fractions in lowest terms as rational numbers; plain. -/
namespace Go.Proofs.YthlehkjcfhnplaaGreatDoor
open Go.RowKit

section
variable {a b : Rat} {n d m f : Int} (h : Is a n d) (g : Is b m f)
include h g
theorem is_quo (hb : b ≠ 0) : Is (a / b) (quoN n d m f) (quoD n d m f) := by
  have h1 := h.pos
  have h2 := g.pos
  have h3 : m ≠ 0 := fun e => hb (by rw [← Rat.num_eq_zero, g.num, e])
  rw [h.eq, g.eq, Rat.div_def, Rat.inv_divInt, Rat.divInt_mul_divInt]
  exact is_low _ (Int.mul_ne_zero (by omega) h3)
end
theorem is_unit : Is 1 1 1 := ⟨rfl, rfl⟩
/- Plus, Minus, Times, Over of package ratio: the answer is memory of the call's own. (Written by wip/gauss/gentreesown.py.) -/

theorem ratio_Over_own (n d m f : Int) (A B A2 B2 : Option Addr) (c e0 c2 e2 : Nat) (w : World) (h_x : Raw w A c (natL n.natAbs)) (k_x : Raw w B e0 (natL d.natAbs)) (h_y : Raw w A2 c2 (natL m.natAbs)) (k_y : Raw w B2 e2 (natL f.natAbs)) (hn : lz n ≤ 100000000) (hd : lz d ≤ 100000000) (hm : lz m ≤ 100000000) (hf : lz f ≤ 100000000) (h0 : d ≠ 0) (h1 : m ≠ 0) :
    Calls Tryz.prog 146 #[.agg #[.bool (decide (n < 0)), .slice A (natL n.natAbs).length c, .bool (decide (d < 0)), .slice B (natL d.natAbs).length e0], .agg #[.bool (decide (m < 0)), .slice A2 (natL m.natAbs).length c2, .bool (decide (f < 0)), .slice B2 (natL f.natAbs).length e2]] w (RetFracOwn w.heap.size w (quoN n d m f) (quoD n d m f)) := by
  obtain ⟨s, hs⟩ : ∃ k : Int, k = n * f := ⟨_, rfl⟩
  have hls := lz_mul n f
  rw [← hs] at hls
  obtain ⟨t, ht⟩ : ∃ k : Int, k = d * m := ⟨_, rfl⟩
  have hlt := lz_mul d m
  rw [← ht] at hlt
  have HT0 := Hd (show t ≠ 0 from by rw [ht]; exact Int.mul_ne_zero h0 h1)
  obtain ⟨N, hN⟩ : ∃ k : Int, k = lowN s t := ⟨_, rfl⟩
  obtain ⟨D, hD⟩ : ∃ k : Int, k = lowD s t := ⟨_, rfl⟩
  have HND := Hd (show quoN n d m f = N ∧ quoD n d m f = D from by rw [hN, hD, hs, ht]; exact ⟨rfl, rfl⟩)
  have HS := Hd hs
  have HTT := Hd ht
  have HLOW := Hd (And.intro hN hD)
  clear hs ht hN hD h0 h1
  have b0 := ((((Below.refl w.heap.size w).alloc (Nat.le_refl _) (.cells #[.bool (decide (n < 0)), .slice A (natL n.natAbs).length c, .bool (decide (d < 0)), .slice B (natL d.natAbs).length e0] 26)).alloc (by simp) (.cells #[.bool (decide (m < 0)), .slice A2 (natL m.natAbs).length c2, .bool (decide (f < 0)), .slice B2 (natL f.natAbs).length e2] 26)).alloc (by simp; omega) (.cells #[.bool false, .slice none 0 0, .bool false, .slice none 0 0] 26))
  have p0 := ((Quad.new w (.bool (decide (n < 0))) (.slice A (natL n.natAbs).length c) (.bool (decide (d < 0))) (.slice B (natL d.natAbs).length e0)).alloc (.cells #[.bool (decide (m < 0)), .slice A2 (natL m.natAbs).length c2, .bool (decide (f < 0)), .slice B2 (natL f.natAbs).length e2] 26)).alloc (.cells #[.bool false, .slice none 0 0, .bool false, .slice none 0 0] 26)
  have p1 := (Quad.new (w.alloc (.cells #[.bool (decide (n < 0)), .slice A (natL n.natAbs).length c, .bool (decide (d < 0)), .slice B (natL d.natAbs).length e0] 26)) (.bool (decide (m < 0))) (.slice A2 (natL m.natAbs).length c2) (.bool (decide (f < 0))) (.slice B2 (natL f.natAbs).length e2)).alloc (.cells #[.bool false, .slice none 0 0, .bool false, .slice none 0 0] 26)
  have p2 := Quad.new ((w.alloc (.cells #[.bool (decide (n < 0)), .slice A (natL n.natAbs).length c, .bool (decide (d < 0)), .slice B (natL d.natAbs).length e0] 26)).alloc (.cells #[.bool (decide (m < 0)), .slice A2 (natL m.natAbs).length c2, .bool (decide (f < 0)), .slice B2 (natL f.natAbs).length e2] 26)) (.bool false) (.slice none 0 0) (.bool false) (.slice none 0 0)
  simp only [World.size_alloc] at p1 p2
  have V_x := Hd (FV.mk p0 (h_x.below b0) (k_x.below b0))
  have KW_x := Hd k_x
  have V_y := Hd (FV.mk p1 (h_y.below b0) (k_y.below b0))
  have KW_y := Hd k_y
  have P_r0 := Hd p2
  have RW_x := Hd h_x
  have RW_y := Hd h_y
  have HBW := Hd b0
  clear b0 p0 p1 p2 h_x k_x h_y k_y
  go_enter Tryz.func146, Tryz.ntmps146
  obtain ⟨W, E⟩ : ∃ W, W = (((w.alloc (.cells #[.bool (decide (n < 0)), .slice A (natL n.natAbs).length c, .bool (decide (d < 0)), .slice B (natL d.natAbs).length e0] 26)).alloc (.cells #[.bool (decide (m < 0)), .slice A2 (natL m.natAbs).length c2, .bool (decide (f < 0)), .slice B2 (natL f.natAbs).length e2] 26)).alloc (.cells #[.bool false, .slice none 0 0, .bool false, .slice none 0 0] 26)) := ⟨_, rfl⟩
  go_upto_region 1 with fail
  rw [← E] at V_x V_y P_r0 HBW ⊢
  clear E
  have hsz := P_r0.out.blk.lt
  go_wp2_with fail
  refine wp_region_free [.val (.pointer (some ⟨w.heap.size, 0, none⟩)) [], .val (.agg #[.bool (decide (n < 0)), .slice A (natL n.natAbs).length c]) [], .val (.pointer (some ⟨w.heap.size + 1, 2, none⟩)) [], .val (.agg #[.bool (decide (f < 0)), .slice B2 (natL f.natAbs).length e2]) [], .any true (fun u V => IntOwn V w.heap.size u s) [], .val (.pointer (some ⟨w.heap.size, 2, none⟩)) [], .val (.agg #[.bool (decide (d < 0)), .slice B (natL d.natAbs).length e0]) [], .val (.pointer (some ⟨w.heap.size + 1, 0, none⟩)) [], .val (.agg #[.bool (decide (m < 0)), .slice A2 (natL m.natAbs).length c2]) [], .any true (fun u V => IntOwn V w.heap.size u t) [], .any false (fun u V => FracOwn V w.heap.size u N D) [4, 9, 1004009], .old (w.heap.size + 1 + 1) 26 #[.bool false, .slice none 0 0, .bool false, .slice none 0 0] 0 4 10 []] (w.heap.size + 1 + 1) W [26] blkInt _ mixedOrders2 (by omega) (Below.refl _ _) (KeptV.refl _ _ _) rfl (by kernel_rfl) (by kernel_rfl) (by kernel_rfl) (by kernel_rfl) (by kernel_rfl) (by kernel_rfl) (by kernel_rfl) (by kernel_rfl) rfl (by simp [oldsF]) ?_ ?_ ?_ ?_
  · simp only [StableF, and_true]
    exact ⟨fun u V V' h k => h.kept k (by decide), fun u V V' h k => h.kept k (by decide), fun u V V' h k => h.kept k (by decide)⟩
  · simp only [OldsF, and_true]
    exact ⟨Nat.le_refl _, P_r0.out.blk.lt, P_r0.out.blk, by simp⟩
  · simp (maxSteps := 4000000) [StepsF, DepF, freeAct, fill, pairs]
    repeat' (first | apply And.intro | (intro (u : Value)) | (intro (u : Nat)))
    all_goals try exact ⟨_, _, _, rfl, rfl, rfl, rfl, fracInfo⟩
    all_goals first
    | (intro V hV hK
       have qx : Quad V (w.heap.size) _ _ _ _ := ⟨V_x.out.quad.blk.below hV (by omega)⟩
       obtain ⟨-, a_x, b_x, c_x, d_x, -, -, -, -⟩ := qx.facts
       have qy : Quad V (w.heap.size + 1) _ _ _ _ := ⟨V_y.out.quad.blk.below hV (by omega)⟩
       obtain ⟨-, a_y, b_y, c_y, d_y, -, -, -, -⟩ := qy.facts
       have rn_x := Hd (RW_x.out.below (HBW.out.trans (hV.mono (by omega))))
       have rd_x := Hd (KW_x.out.below (HBW.out.trans (hV.mono (by omega))))
       have rn_y := Hd (RW_y.out.below (HBW.out.trans (hV.mono (by omega))))
       have rd_y := Hd (KW_y.out.below (HBW.out.trans (hV.mono (by omega))))
       have hvs : w.heap.size ≤ V.heap.size := by have := hV.size; have := HBW.out.size; omega
       clear hV hK qx qy
       go_simp
       first
       | exact Below.refl _ _
       | ((with_reducible refine (etimes n f s A B2 c e2 V rn_x.out rd_y.out (by omega) (by omega) HS.out).mono ?_); rintro e w' ⟨v, rfl, hv, hb⟩; first | exact ⟨hv.base (Nat.zero_le _), hb⟩ | exact ⟨hv.base hvs, hb, hv.mine⟩)
       | ((with_reducible refine (etimes d m t B A2 e0 c2 V rd_x.out rn_y.out (by omega) (by omega) HTT.out).mono ?_); rintro e w' ⟨v, rfl, hv, hb⟩; first | exact ⟨hv.base (Nat.zero_le _), hb⟩ | exact ⟨hv.base hvs, hb, hv.mine⟩)
)
    | (intro V hV hK h1 h2 hq
       obtain ⟨A6, c6, rfl, -⟩ := h1.raw
       obtain ⟨A7, c7, rfl, -⟩ := h2.raw
       have hq2 : ∀ g, (Value.slice A6 (natL s.natAbs).length c6).ownBlock = some g → (Value.slice A7 (natL t.natAbs).length c7).ownBlock ≠ some g := hq
       have hvs : w.heap.size ≤ V.heap.size := by have := hV.size; have := HBW.out.size; omega
       clear hV hK
       go_simp
       (with_reducible refine (efresh s t A6 A7 c6 c7 w.heap.size V h1 h2 hq2 hvs (by omega) (by omega) HT0.out).mono ?_); rintro e w' ⟨v, rfl, hv, hb⟩; rw [← HLOW.out.1, ← HLOW.out.2] at hv; exact ⟨hv, hb⟩)
    | exact fun _ _ _ (h : FracOwn _ _ _ _ _) => h.cells
  · simp [EndF, FactsF, freeAct, fill, pairs]
    intro u1 u2 u3 V hV hK h1 h2 h3 bq _ _ _
    have HF := Hd h3
    obtain ⟨A6, c6, A7, c7, rfl, -⟩ := h3.form
    simp [setAll, Value.cells] at bq
    have k0 := bq.cell 0
    have k1 := bq.cell 1
    have k2 := bq.cell 2
    have k3 := bq.cell 3
    simp at k0 k1 k2 k3
    have HB9 := Hd (HBW.out.trans (hV.mono (by omega)))
    clear h1 h2 h3 hV hK bq
    go_wp2_with fail
    exact bodyPost_ret (by simp [results, Tryz.results146, go_sem, k0, k1, k2, k3]) rfl ⟨.agg #[.bool (decide (N < 0)), .slice A6 (natL N.natAbs).length c6, .bool (decide (D < 0)), .slice A7 (natL D.natAbs).length c7], rfl, by rw [HND.out.1, HND.out.2]; exact HF.out, HB9.out⟩
/- The operations of package ratio and of the references of chapter 02, as operations of rational numbers; their sizes. (Written by wip/gauss/genratops.py.) -/

theorem lz_quoN (n d m f : Int) : lz (quoN n d m f) ≤ lz n + lz f ∧ lz (quoD n d m f) ≤ lz d + lz m := by
  have h1 := lowN_lz (n * f) (d * m)
  have h2 := lowD_lz (n * f) (d * m)
  have h4 := lz_mul n f
  have h6 := lz_mul d m
  unfold quoN quoD
  omega
section
variable {a b : Rat} {k l : Nat}
theorem sz_sub (h : Sz a k) (g : Sz b l) : Sz (a - b) (k + l + 1) := by
  have i := is_sub (Is.of a) (Is.of b)
  have b1 := lz_subN a.num a.den b.num b.den
  have := h.num
  have := h.den
  have := g.num
  have := g.den
  exact i.sz (by omega) (by omega)
theorem sz_quo (h : Sz a k) (g : Sz b l) (hb : b ≠ 0) : Sz (a / b) (k + l) := by
  have i := is_quo (Is.of a) (Is.of b) hb
  have b1 := lz_quoN a.num a.den b.num b.den
  have := h.num
  have := h.den
  have := g.num
  have := g.den
  exact i.sz (by omega) (by omega)
theorem sz_neg (h : Sz a k) : Sz (-a) k := ⟨by rw [Rat.neg_num, lz_neg]; exact h.num, h.den⟩
theorem sz_one : Sz 1 1 := ⟨by decide +kernel, by decide +kernel⟩
end
section
variable {a b : Rat} {n d m f N D : Int}
theorem over_r (ha : Is a n d) (hb : Is b m f) (hz : Is (a / b) N D) (sa : Sz a 100000000) (sb : Sz b 100000000) (hb0 : b ≠ 0) : OpR 146 n d m f N D := by
  obtain ⟨rfl, rfl⟩ := hz.uniq (is_quo ha hb hb0)
  have l1 := sa.lz ha
  have l2 := sb.lz hb
  intro V v1 v2 g1 g2
  obtain ⟨A, c, B, e0, rfl, a1, a2⟩ := g1.form
  obtain ⟨A2, c2, B2, e2, rfl, a3, a4⟩ := g2.form
  exact ratio_Over_own n d m f A B A2 B2 c e0 c2 e2 V a1 a2 a3 a4 l1.1 l1.2 l2.1 l2.2 (by have := ha.pos; omega) (by intro e; exact hb0 (hb.nought.1 e))
end
/- Package argand. (Written by wip/gauss/genargand.py.) -/

theorem each_Plus {n d m f p q r s N D M E : Int} (C1 : OpR 144 n d p q N D) (C2 : OpR 144 m f r s M E) (w : World) (v_x v_y : Value) (g_x : GaussAt w v_x n d m f) (g_y : GaussAt w v_y p q r s)  :
    Calls Tryz.prog 198 #[v_x, v_y, .func (.func 144) #[] #[]] w (RetGaussOwn w.heap.size w N D M E) := by
  obtain ⟨Ax1, cx1, Ax2, cx2, Ax3, cx3, Ax4, cx4, rfl, -⟩ := g_x.form
  obtain ⟨Ay1, cy1, Ay2, cy2, Ay3, cy3, Ay4, cy4, rfl, -⟩ := g_y.form
  have H1 := Hd C1
  have H2 := Hd C2
  clear C1 C2
  have G_x := Hd g_x
  have G_y := Hd g_y
  clear g_x g_y
  go_enter Tryz.func198, Tryz.ntmps198
  go_upto_region 1 with fail
  refine boxes3 (P := fun W => Code.wp _ _ _ _ W) fun W p0 p1 p2 b0 => ?_
  have P_x := Hd (Oct.mk p0)
  have P_y := Hd (Oct.mk p1)
  have PR := Hd (Oct.mk p2)
  have HB := Hd b0
  clear b0 p0 p1 p2
  have hsz := PR.out.blk.lt
  go_wp2_with fail
  refine wp_region_free [.val (.func (.func 144) #[] #[]) [], .val (.pointer (some ⟨w.heap.size, 0, none⟩)) [], .val (.agg #[.bool (decide (n < 0)), .slice Ax1 (natL n.natAbs).length cx1, .bool (decide (d < 0)), .slice Ax2 (natL d.natAbs).length cx2]) [], .val (.pointer (some ⟨w.heap.size + 1, 0, none⟩)) [], .val (.agg #[.bool (decide (p < 0)), .slice Ay1 (natL p.natAbs).length cy1, .bool (decide (q < 0)), .slice Ay2 (natL q.natAbs).length cy2]) [], .any true (fun u V => FracOwn V w.heap.size u N D) [], .val (.func (.func 144) #[] #[]) [], .val (.pointer (some ⟨w.heap.size, 4, none⟩)) [], .val (.agg #[.bool (decide (m < 0)), .slice Ax3 (natL m.natAbs).length cx3, .bool (decide (f < 0)), .slice Ax4 (natL f.natAbs).length cx4]) [], .val (.pointer (some ⟨w.heap.size + 1, 4, none⟩)) [], .val (.agg #[.bool (decide (r < 0)), .slice Ay3 (natL r.natAbs).length cy3, .bool (decide (s < 0)), .slice Ay4 (natL s.natAbs).length cy4]) [], .any true (fun u V => FracOwn V w.heap.size u M E) [], .any false (fun u V => GaussOwn V w.heap.size u N D M E) [5, 11, 1005011], .old (w.heap.size + 1 + 1) 28 #[.bool false, .slice none 0 0, .bool false, .slice none 0 0, .bool false, .slice none 0 0, .bool false, .slice none 0 0] 0 8 12 []] (w.heap.size + 1 + 1) W [28] blkFrac _ mixedOrders2 (by omega) (Below.refl _ _) (KeptV.refl _ _ _) rfl (by kernel_rfl) (by kernel_rfl) (by kernel_rfl) (by kernel_rfl) (by kernel_rfl) (by kernel_rfl) (by kernel_rfl) (by kernel_rfl) rfl (by simp [oldsF]) ?_ ?_ ?_ ?_
  · simp only [StableF, and_true]
    exact ⟨fun u V V' h k => h.kept k (by decide), fun u V V' h k => h.kept k (by decide), fun u V V' h k => h.kept k (by decide)⟩
  · simp only [OldsF, and_true]
    exact ⟨Nat.le_refl _, PR.out.blk.lt, PR.out.blk, by simp⟩
  · simp (maxSteps := 4000000) [StepsF, DepF, freeAct, fill, pairs]
    repeat' (first | apply And.intro | (intro (u : Value)) | (intro (u : Nat)))
    all_goals try exact ⟨_, _, _, rfl, rfl, rfl, rfl, gaussInfo⟩
    all_goals first
    | (intro V hV hK
       have qx : Oct V (w.heap.size) _ _ _ _ _ _ _ _ _ := ⟨P_x.out.blk.below hV (by omega)⟩
       obtain ⟨-, a_x0, a_x1, a_x2, a_x3, a_x4, a_x5, a_x6, a_x7⟩ := qx.facts
       have qy : Oct V (w.heap.size + 1) _ _ _ _ _ _ _ _ _ := ⟨P_y.out.blk.below hV (by omega)⟩
       obtain ⟨-, a_y0, a_y1, a_y2, a_y3, a_y4, a_y5, a_y6, a_y7⟩ := qy.facts
       have hvb := HB.out.trans (hV.mono (by omega))
       have hvs := hvb.size
       have g_x := Hd (G_x.out.below hvb)
       have g_y := Hd (G_y.out.below hvb)
       clear hV hK qx qy
       go_simp
       first
       | exact Below.refl _ _
       | ((with_reducible refine (H1.out V _ _ g_x.out.re g_y.out.re).mono ?_); rintro e w' ⟨v, rfl, hv, hb⟩; exact ⟨hv.base hvs, hb, hv.mine⟩)
       | ((with_reducible refine (H2.out V _ _ g_x.out.im g_y.out.im).mono ?_); rintro e w' ⟨v, rfl, hv, hb⟩; exact ⟨hv.base hvs, hb, hv.mine⟩))
    | (intro V hV hK h1 h2 hq
       obtain ⟨A1, c1, B1, e1, rfl, -, -, -⟩ := h1.form
       obtain ⟨A2, c2, B2, e2, rfl, -, -, -⟩ := h2.form
       clear hV hK
       go_simp
       exact ⟨⟨_, _, _, _, _, _, _, _, rfl, h1, h2, hq⟩, Below.refl _ _⟩)
    | exact fun _ _ _ (h : GaussOwn _ _ _ _ _ _ _) => h.cells
  · simp [EndF, FactsF, freeAct, fill, pairs]
    intro u1 u2 u3 V hV hK h1 h2 h3 bq _ _ _
    have HF := Hd h3
    obtain ⟨A6, c6, A7, c7, A8, c8, A9, c9, rfl, -⟩ := h3.form
    simp [setAll, Value.cells] at bq
    have k0 := bq.cell 0
    have k1 := bq.cell 1
    have k2 := bq.cell 2
    have k3 := bq.cell 3
    have k4 := bq.cell 4
    have k5 := bq.cell 5
    have k6 := bq.cell 6
    have k7 := bq.cell 7
    simp at k0 k1 k2 k3 k4 k5 k6 k7
    have HB9 := Hd (HB.out.trans (hV.mono (by omega)))
    clear h1 h2 h3 hV hK bq
    go_wp2_with fail
    exact bodyPost_ret (by simp [results, Tryz.results198, go_sem, k0, k1, k2, k3, k4, k5, k6, k7]) rfl ⟨_, rfl, HF.out, HB9.out⟩

theorem each_Minus {n d m f p q r s N D M E : Int} (C1 : OpR 143 n d p q N D) (C2 : OpR 143 m f r s M E) (w : World) (v_x v_y : Value) (g_x : GaussAt w v_x n d m f) (g_y : GaussAt w v_y p q r s)  :
    Calls Tryz.prog 198 #[v_x, v_y, .func (.func 143) #[] #[]] w (RetGaussOwn w.heap.size w N D M E) := by
  obtain ⟨Ax1, cx1, Ax2, cx2, Ax3, cx3, Ax4, cx4, rfl, -⟩ := g_x.form
  obtain ⟨Ay1, cy1, Ay2, cy2, Ay3, cy3, Ay4, cy4, rfl, -⟩ := g_y.form
  have H1 := Hd C1
  have H2 := Hd C2
  clear C1 C2
  have G_x := Hd g_x
  have G_y := Hd g_y
  clear g_x g_y
  go_enter Tryz.func198, Tryz.ntmps198
  go_upto_region 1 with fail
  refine boxes3 (P := fun W => Code.wp _ _ _ _ W) fun W p0 p1 p2 b0 => ?_
  have P_x := Hd (Oct.mk p0)
  have P_y := Hd (Oct.mk p1)
  have PR := Hd (Oct.mk p2)
  have HB := Hd b0
  clear b0 p0 p1 p2
  have hsz := PR.out.blk.lt
  go_wp2_with fail
  refine wp_region_free [.val (.func (.func 143) #[] #[]) [], .val (.pointer (some ⟨w.heap.size, 0, none⟩)) [], .val (.agg #[.bool (decide (n < 0)), .slice Ax1 (natL n.natAbs).length cx1, .bool (decide (d < 0)), .slice Ax2 (natL d.natAbs).length cx2]) [], .val (.pointer (some ⟨w.heap.size + 1, 0, none⟩)) [], .val (.agg #[.bool (decide (p < 0)), .slice Ay1 (natL p.natAbs).length cy1, .bool (decide (q < 0)), .slice Ay2 (natL q.natAbs).length cy2]) [], .any true (fun u V => FracOwn V w.heap.size u N D) [], .val (.func (.func 143) #[] #[]) [], .val (.pointer (some ⟨w.heap.size, 4, none⟩)) [], .val (.agg #[.bool (decide (m < 0)), .slice Ax3 (natL m.natAbs).length cx3, .bool (decide (f < 0)), .slice Ax4 (natL f.natAbs).length cx4]) [], .val (.pointer (some ⟨w.heap.size + 1, 4, none⟩)) [], .val (.agg #[.bool (decide (r < 0)), .slice Ay3 (natL r.natAbs).length cy3, .bool (decide (s < 0)), .slice Ay4 (natL s.natAbs).length cy4]) [], .any true (fun u V => FracOwn V w.heap.size u M E) [], .any false (fun u V => GaussOwn V w.heap.size u N D M E) [5, 11, 1005011], .old (w.heap.size + 1 + 1) 28 #[.bool false, .slice none 0 0, .bool false, .slice none 0 0, .bool false, .slice none 0 0, .bool false, .slice none 0 0] 0 8 12 []] (w.heap.size + 1 + 1) W [28] blkFrac _ mixedOrders2 (by omega) (Below.refl _ _) (KeptV.refl _ _ _) rfl (by kernel_rfl) (by kernel_rfl) (by kernel_rfl) (by kernel_rfl) (by kernel_rfl) (by kernel_rfl) (by kernel_rfl) (by kernel_rfl) rfl (by simp [oldsF]) ?_ ?_ ?_ ?_
  · simp only [StableF, and_true]
    exact ⟨fun u V V' h k => h.kept k (by decide), fun u V V' h k => h.kept k (by decide), fun u V V' h k => h.kept k (by decide)⟩
  · simp only [OldsF, and_true]
    exact ⟨Nat.le_refl _, PR.out.blk.lt, PR.out.blk, by simp⟩
  · simp (maxSteps := 4000000) [StepsF, DepF, freeAct, fill, pairs]
    repeat' (first | apply And.intro | (intro (u : Value)) | (intro (u : Nat)))
    all_goals try exact ⟨_, _, _, rfl, rfl, rfl, rfl, gaussInfo⟩
    all_goals first
    | (intro V hV hK
       have qx : Oct V (w.heap.size) _ _ _ _ _ _ _ _ _ := ⟨P_x.out.blk.below hV (by omega)⟩
       obtain ⟨-, a_x0, a_x1, a_x2, a_x3, a_x4, a_x5, a_x6, a_x7⟩ := qx.facts
       have qy : Oct V (w.heap.size + 1) _ _ _ _ _ _ _ _ _ := ⟨P_y.out.blk.below hV (by omega)⟩
       obtain ⟨-, a_y0, a_y1, a_y2, a_y3, a_y4, a_y5, a_y6, a_y7⟩ := qy.facts
       have hvb := HB.out.trans (hV.mono (by omega))
       have hvs := hvb.size
       have g_x := Hd (G_x.out.below hvb)
       have g_y := Hd (G_y.out.below hvb)
       clear hV hK qx qy
       go_simp
       first
       | exact Below.refl _ _
       | ((with_reducible refine (H1.out V _ _ g_x.out.re g_y.out.re).mono ?_); rintro e w' ⟨v, rfl, hv, hb⟩; exact ⟨hv.base hvs, hb, hv.mine⟩)
       | ((with_reducible refine (H2.out V _ _ g_x.out.im g_y.out.im).mono ?_); rintro e w' ⟨v, rfl, hv, hb⟩; exact ⟨hv.base hvs, hb, hv.mine⟩))
    | (intro V hV hK h1 h2 hq
       obtain ⟨A1, c1, B1, e1, rfl, -, -, -⟩ := h1.form
       obtain ⟨A2, c2, B2, e2, rfl, -, -, -⟩ := h2.form
       clear hV hK
       go_simp
       exact ⟨⟨_, _, _, _, _, _, _, _, rfl, h1, h2, hq⟩, Below.refl _ _⟩)
    | exact fun _ _ _ (h : GaussOwn _ _ _ _ _ _ _) => h.cells
  · simp [EndF, FactsF, freeAct, fill, pairs]
    intro u1 u2 u3 V hV hK h1 h2 h3 bq _ _ _
    have HF := Hd h3
    obtain ⟨A6, c6, A7, c7, A8, c8, A9, c9, rfl, -⟩ := h3.form
    simp [setAll, Value.cells] at bq
    have k0 := bq.cell 0
    have k1 := bq.cell 1
    have k2 := bq.cell 2
    have k3 := bq.cell 3
    have k4 := bq.cell 4
    have k5 := bq.cell 5
    have k6 := bq.cell 6
    have k7 := bq.cell 7
    simp at k0 k1 k2 k3 k4 k5 k6 k7
    have HB9 := Hd (HB.out.trans (hV.mono (by omega)))
    clear h1 h2 h3 hV hK bq
    go_wp2_with fail
    exact bodyPost_ret (by simp [results, Tryz.results198, go_sem, k0, k1, k2, k3, k4, k5, k6, k7]) rfl ⟨_, rfl, HF.out, HB9.out⟩

theorem argand_Plus {n d m f p q r s N D M E : Int} (C1 : OpR 144 n d p q N D) (C2 : OpR 144 m f r s M E) (w : World) (v_x v_y : Value) (g_x : GaussAt w v_x n d m f) (g_y : GaussAt w v_y p q r s)  :
    Calls Tryz.prog 192 #[v_x, v_y] w (RetGaussOwn w.heap.size w N D M E) := by
  obtain ⟨Ax1, cx1, Ax2, cx2, Ax3, cx3, Ax4, cx4, rfl, -⟩ := g_x.form
  obtain ⟨Ay1, cy1, Ay2, cy2, Ay3, cy3, Ay4, cy4, rfl, -⟩ := g_y.form
  have H1 := Hd C1
  have H2 := Hd C2
  clear C1 C2
  have G_x := Hd g_x
  have G_y := Hd g_y
  clear g_x g_y
  go_enter Tryz.func192, Tryz.ntmps192
  go_upto_region 1 with fail
  refine boxes3 (P := fun W => Code.wp _ _ _ _ W) fun W p0 p1 p2 b0 => ?_
  have P_x := Hd (Oct.mk p0)
  have P_y := Hd (Oct.mk p1)
  have PR := Hd (Oct.mk p2)
  have HB := Hd b0
  clear b0 p0 p1 p2
  obtain ⟨-, a_x0, a_x1, a_x2, a_x3, a_x4, a_x5, a_x6, a_x7⟩ := P_x.out.facts
  obtain ⟨-, a_y0, a_y1, a_y2, a_y3, a_y4, a_y5, a_y6, a_y7⟩ := P_y.out.facts
  go_wp2_with fail
  refine (each_Plus H1.out H2.out W _ _ (G_x.out.below HB.out) (G_y.out.below HB.out)).mono ?_
  rintro e w9 ⟨v, rfl, hI, hb⟩
  clear a_x0 a_x1 a_x2 a_x3 a_x4 a_x5 a_x6 a_x7 a_y0 a_y1 a_y2 a_y3 a_y4 a_y5 a_y6 a_y7
  have HI := Hd hI
  obtain ⟨A6, c6, A7, c7, A8, c8, A9, c9, rfl, -⟩ := hI.form
  have pr := PR.out.below hb
  have hb9 := belowTo HB.out hb
  obtain ⟨l_r, r0, r1, r2, r3, r4, r5, r6, r7⟩ := pr.facts
  obtain ⟨f0, f1, f2, f3, f4, f5, f6, f7⟩ := pr.free
  have HQ := Hd (pr.store (.bool (decide (N < 0))) (.slice A6 (natL N.natAbs).length c6) (.bool (decide (D < 0))) (.slice A7 (natL D.natAbs).length c7) (.bool (decide (M < 0))) (.slice A8 (natL M.natAbs).length c8) (.bool (decide (E < 0))) (.slice A9 (natL E.natAbs).length c9))
  have HB9 := Hd (below8 hb9 (show w.heap.size ≤ w.heap.size + 1 + 1 by omega) (.bool (decide (N < 0))) (.slice A6 (natL N.natAbs).length c6) (.bool (decide (D < 0))) (.slice A7 (natL D.natAbs).length c7) (.bool (decide (M < 0))) (.slice A8 (natL M.natAbs).length c8) (.bool (decide (E < 0))) (.slice A9 (natL E.natAbs).length c9))
  have HF := Hd (HI.out.oct pr (by decide) (.bool (decide (N < 0))) (.slice A6 (natL N.natAbs).length c6) (.bool (decide (D < 0))) (.slice A7 (natL D.natAbs).length c7) (.bool (decide (M < 0))) (.slice A8 (natL M.natAbs).length c8) (.bool (decide (E < 0))) (.slice A9 (natL E.natAbs).length c9))
  clear hb hb9 pr hI
  go_wp2_with fail
  obtain ⟨_, k0, k1, k2, k3, k4, k5, k6, k7⟩ := HQ.out.facts
  exact bodyPost_ret (by simp [results, Tryz.results192, go_sem, k0, k1, k2, k3, k4, k5, k6, k7]) rfl ⟨_, rfl, HF.out.base HB.out.size, HB9.out⟩

theorem argand_Minus {n d m f p q r s N D M E : Int} (C1 : OpR 143 n d p q N D) (C2 : OpR 143 m f r s M E) (w : World) (v_x v_y : Value) (g_x : GaussAt w v_x n d m f) (g_y : GaussAt w v_y p q r s)  :
    Calls Tryz.prog 115 #[v_x, v_y] w (RetGaussOwn w.heap.size w N D M E) := by
  obtain ⟨Ax1, cx1, Ax2, cx2, Ax3, cx3, Ax4, cx4, rfl, -⟩ := g_x.form
  obtain ⟨Ay1, cy1, Ay2, cy2, Ay3, cy3, Ay4, cy4, rfl, -⟩ := g_y.form
  have H1 := Hd C1
  have H2 := Hd C2
  clear C1 C2
  have G_x := Hd g_x
  have G_y := Hd g_y
  clear g_x g_y
  go_enter Tryz.func115, Tryz.ntmps115
  go_upto_region 1 with fail
  refine boxes3 (P := fun W => Code.wp _ _ _ _ W) fun W p0 p1 p2 b0 => ?_
  have P_x := Hd (Oct.mk p0)
  have P_y := Hd (Oct.mk p1)
  have PR := Hd (Oct.mk p2)
  have HB := Hd b0
  clear b0 p0 p1 p2
  obtain ⟨-, a_x0, a_x1, a_x2, a_x3, a_x4, a_x5, a_x6, a_x7⟩ := P_x.out.facts
  obtain ⟨-, a_y0, a_y1, a_y2, a_y3, a_y4, a_y5, a_y6, a_y7⟩ := P_y.out.facts
  go_wp2_with fail
  refine (each_Minus H1.out H2.out W _ _ (G_x.out.below HB.out) (G_y.out.below HB.out)).mono ?_
  rintro e w9 ⟨v, rfl, hI, hb⟩
  clear a_x0 a_x1 a_x2 a_x3 a_x4 a_x5 a_x6 a_x7 a_y0 a_y1 a_y2 a_y3 a_y4 a_y5 a_y6 a_y7
  have HI := Hd hI
  obtain ⟨A6, c6, A7, c7, A8, c8, A9, c9, rfl, -⟩ := hI.form
  have pr := PR.out.below hb
  have hb9 := belowTo HB.out hb
  obtain ⟨l_r, r0, r1, r2, r3, r4, r5, r6, r7⟩ := pr.facts
  obtain ⟨f0, f1, f2, f3, f4, f5, f6, f7⟩ := pr.free
  have HQ := Hd (pr.store (.bool (decide (N < 0))) (.slice A6 (natL N.natAbs).length c6) (.bool (decide (D < 0))) (.slice A7 (natL D.natAbs).length c7) (.bool (decide (M < 0))) (.slice A8 (natL M.natAbs).length c8) (.bool (decide (E < 0))) (.slice A9 (natL E.natAbs).length c9))
  have HB9 := Hd (below8 hb9 (show w.heap.size ≤ w.heap.size + 1 + 1 by omega) (.bool (decide (N < 0))) (.slice A6 (natL N.natAbs).length c6) (.bool (decide (D < 0))) (.slice A7 (natL D.natAbs).length c7) (.bool (decide (M < 0))) (.slice A8 (natL M.natAbs).length c8) (.bool (decide (E < 0))) (.slice A9 (natL E.natAbs).length c9))
  have HF := Hd (HI.out.oct pr (by decide) (.bool (decide (N < 0))) (.slice A6 (natL N.natAbs).length c6) (.bool (decide (D < 0))) (.slice A7 (natL D.natAbs).length c7) (.bool (decide (M < 0))) (.slice A8 (natL M.natAbs).length c8) (.bool (decide (E < 0))) (.slice A9 (natL E.natAbs).length c9))
  clear hb hb9 pr hI
  go_wp2_with fail
  obtain ⟨_, k0, k1, k2, k3, k4, k5, k6, k7⟩ := HQ.out.facts
  exact bodyPost_ret (by simp [results, Tryz.results115, go_sem, k0, k1, k2, k3, k4, k5, k6, k7]) rfl ⟨_, rfl, HF.out.base HB.out.size, HB9.out⟩

theorem argand_Over {n d m f p q r s k1 k2 t1 t2 t3 t4 o1 o2 n1 n2 N D M E : Int} (C1 : OpG1 121 p q r s p q k1 k2) (C2 : OpG 191 n d m f p q k1 k2 t1 t2 t3 t4) (C3 : OpR0 200 1 1) (C4 : OpN 122 p q r s n1 n2) (C5 : OpR 146 1 1 n1 n2 o1 o2) (C6 : OpGF 199 t1 t2 t3 t4 o1 o2 N D M E) (w : World) (v_x v_y : Value) (g_x : GaussAt w v_x n d m f) (g_y : GaussAt w v_y p q r s)  :
    Calls Tryz.prog 117 #[v_x, v_y] w (RetGaussOwn w.heap.size w N D M E) := by
  obtain ⟨Ax1, cx1, Ax2, cx2, Ax3, cx3, Ax4, cx4, rfl, -⟩ := g_x.form
  obtain ⟨Ay1, cy1, Ay2, cy2, Ay3, cy3, Ay4, cy4, rfl, -⟩ := g_y.form
  have H1 := Hd C1
  have H2 := Hd C2
  have H3 := Hd C3
  have H4 := Hd C4
  have H5 := Hd C5
  have H6 := Hd C6
  clear C1 C2 C3 C4 C5 C6
  have G_x := Hd g_x
  have G_y := Hd g_y
  clear g_x g_y
  go_enter Tryz.func117, Tryz.ntmps117
  go_upto_region 1 with fail
  refine boxes3 (P := fun W => Code.wp _ _ _ _ W) fun W p0 p1 p2 b0 => ?_
  have P_x := Hd (Oct.mk p0)
  have P_y := Hd (Oct.mk p1)
  have PR := Hd (Oct.mk p2)
  have HB := Hd b0
  clear b0 p0 p1 p2
  have hsz := PR.out.blk.lt
  go_wp2_with fail
  refine wp_region_free [.val (.agg #[.bool (decide (n < 0)), .slice Ax1 (natL n.natAbs).length cx1, .bool (decide (d < 0)), .slice Ax2 (natL d.natAbs).length cx2, .bool (decide (m < 0)), .slice Ax3 (natL m.natAbs).length cx3, .bool (decide (f < 0)), .slice Ax4 (natL f.natAbs).length cx4]) [], .val (.agg #[.bool (decide (p < 0)), .slice Ay1 (natL p.natAbs).length cy1, .bool (decide (q < 0)), .slice Ay2 (natL q.natAbs).length cy2, .bool (decide (r < 0)), .slice Ay3 (natL r.natAbs).length cy3, .bool (decide (s < 0)), .slice Ay4 (natL s.natAbs).length cy4]) [], .any false (fun u V => GaussOwn V w.heap.size u p q k1 k2) [], .any false (fun u V => GaussOwn V w.heap.size u t1 t2 t3 t4) [2], .any false (fun u V => FracOwn V w.heap.size u 1 1) [], .val (.agg #[.bool (decide (p < 0)), .slice Ay1 (natL p.natAbs).length cy1, .bool (decide (q < 0)), .slice Ay2 (natL q.natAbs).length cy2, .bool (decide (r < 0)), .slice Ay3 (natL r.natAbs).length cy3, .bool (decide (s < 0)), .slice Ay4 (natL s.natAbs).length cy4]) [], .any false (fun u V => FracOwn V w.heap.size u n1 n2) [], .any false (fun u V => FracOwn V w.heap.size u o1 o2) [4, 6], .any false (fun u V => GaussOwn V w.heap.size u N D M E) [3, 7], .old (w.heap.size + 1 + 1) 28 #[.bool false, .slice none 0 0, .bool false, .slice none 0 0, .bool false, .slice none 0 0, .bool false, .slice none 0 0] 0 8 8 []] (w.heap.size + 1 + 1) W [28] blkFrac _ mixedOrders2 (by omega) (Below.refl _ _) (KeptV.refl _ _ _) rfl (by kernel_rfl) (by kernel_rfl) (by kernel_rfl) (by kernel_rfl) (by kernel_rfl) (by kernel_rfl) (by kernel_rfl) (by kernel_rfl) rfl (by simp [oldsF]) ?_ ?_ ?_ ?_
  · simp only [StableF, and_true]
    exact ⟨fun u V V' h k => h.kept k (by decide), fun u V V' h k => h.kept k (by decide), fun u V V' h k => h.kept k (by decide), fun u V V' h k => h.kept k (by decide), fun u V V' h k => h.kept k (by decide), fun u V V' h k => h.kept k (by decide)⟩
  · simp only [OldsF, and_true]
    exact ⟨Nat.le_refl _, PR.out.blk.lt, PR.out.blk, by simp⟩
  · simp (maxSteps := 4000000) [StepsF, DepF, freeAct, fill, pairs]
    repeat' (first | apply And.intro | (intro (u : Value)) | (intro (u : Nat)))
    all_goals try exact ⟨_, _, _, rfl, rfl, rfl, rfl, gaussInfo⟩
    all_goals first
    | (intro V hV hK
       have qx : Oct V (w.heap.size) _ _ _ _ _ _ _ _ _ := ⟨P_x.out.blk.below hV (by omega)⟩
       obtain ⟨-, a_x0, a_x1, a_x2, a_x3, a_x4, a_x5, a_x6, a_x7⟩ := qx.facts
       have qy : Oct V (w.heap.size + 1) _ _ _ _ _ _ _ _ _ := ⟨P_y.out.blk.below hV (by omega)⟩
       obtain ⟨-, a_y0, a_y1, a_y2, a_y3, a_y4, a_y5, a_y6, a_y7⟩ := qy.facts
       have hvb := HB.out.trans (hV.mono (by omega))
       have hvs := hvb.size
       have g_x := Hd (G_x.out.below hvb)
       have g_y := Hd (G_y.out.below hvb)
       clear hV hK qx qy
       go_simp
       first
       | exact Below.refl _ _
       | ((with_reducible refine (H1.out V _ g_y.out).mono ?_); rintro e w' ⟨v, rfl, hv, hb⟩; exact ⟨hv.base hvs, hb⟩)
       | ((with_reducible refine (H3.out V ).mono ?_); rintro e w' ⟨v, rfl, hv, hb⟩; exact ⟨hv.base hvs, hb⟩)
       | ((with_reducible refine (H4.out V _ g_y.out).mono ?_); rintro e w' ⟨v, rfl, hv, hb⟩; exact ⟨hv.base hvs, hb⟩))
    | (intro V hV hK h1
       have qx : Oct V (w.heap.size) _ _ _ _ _ _ _ _ _ := ⟨P_x.out.blk.below hV (by omega)⟩
       obtain ⟨-, a_x0, a_x1, a_x2, a_x3, a_x4, a_x5, a_x6, a_x7⟩ := qx.facts
       have qy : Oct V (w.heap.size + 1) _ _ _ _ _ _ _ _ _ := ⟨P_y.out.blk.below hV (by omega)⟩
       obtain ⟨-, a_y0, a_y1, a_y2, a_y3, a_y4, a_y5, a_y6, a_y7⟩ := qy.facts
       have hvb := HB.out.trans (hV.mono (by omega))
       have hvs := hvb.size
       have g_x := Hd (G_x.out.below hvb)
       have g_y := Hd (G_y.out.below hvb)
       clear hV hK qx qy
       go_simp
       ((with_reducible refine (H2.out V _ _ g_x.out h1.in_.at_).mono ?_); rintro e w' ⟨v, rfl, hv, hb⟩; exact ⟨hv.base hvs, hb⟩))
    | (intro V hV hK h1 h2
       have qx : Oct V (w.heap.size) _ _ _ _ _ _ _ _ _ := ⟨P_x.out.blk.below hV (by omega)⟩
       obtain ⟨-, a_x0, a_x1, a_x2, a_x3, a_x4, a_x5, a_x6, a_x7⟩ := qx.facts
       have qy : Oct V (w.heap.size + 1) _ _ _ _ _ _ _ _ _ := ⟨P_y.out.blk.below hV (by omega)⟩
       obtain ⟨-, a_y0, a_y1, a_y2, a_y3, a_y4, a_y5, a_y6, a_y7⟩ := qy.facts
       have hvb := HB.out.trans (hV.mono (by omega))
       have hvs := hvb.size
       have g_x := Hd (G_x.out.below hvb)
       have g_y := Hd (G_y.out.below hvb)
       clear hV hK qx qy
       go_simp
       ((with_reducible refine (H5.out V _ _ h1.at_ h2.at_).mono ?_); rintro e w' ⟨v, rfl, hv, hb⟩; exact ⟨hv.base hvs, hb⟩))
    | (intro V hV hK h1 h2
       have qx : Oct V (w.heap.size) _ _ _ _ _ _ _ _ _ := ⟨P_x.out.blk.below hV (by omega)⟩
       obtain ⟨-, a_x0, a_x1, a_x2, a_x3, a_x4, a_x5, a_x6, a_x7⟩ := qx.facts
       have qy : Oct V (w.heap.size + 1) _ _ _ _ _ _ _ _ _ := ⟨P_y.out.blk.below hV (by omega)⟩
       obtain ⟨-, a_y0, a_y1, a_y2, a_y3, a_y4, a_y5, a_y6, a_y7⟩ := qy.facts
       have hvb := HB.out.trans (hV.mono (by omega))
       have hvs := hvb.size
       have g_x := Hd (G_x.out.below hvb)
       have g_y := Hd (G_y.out.below hvb)
       clear hV hK qx qy
       go_simp
       ((with_reducible refine (H6.out V _ _ h1.in_.at_ h2.at_).mono ?_); rintro e w' ⟨v, rfl, hv, hb⟩; exact ⟨hv.base hvs, hb⟩))
    | exact fun _ _ _ (h : GaussOwn _ _ _ _ _ _ _) => h.cells
  · simp [EndF, FactsF, freeAct, fill, pairs]
    intro u1 u2 u3 u4 u5 u6 V hV hK h1 h2 h3 h4 h5 h6 bq _ _ _
    have HF := Hd h6
    obtain ⟨A6, c6, A7, c7, A8, c8, A9, c9, rfl, -⟩ := h6.form
    simp [setAll, Value.cells] at bq
    have k0 := bq.cell 0
    have k1 := bq.cell 1
    have k2 := bq.cell 2
    have k3 := bq.cell 3
    have k4 := bq.cell 4
    have k5 := bq.cell 5
    have k6 := bq.cell 6
    have k7 := bq.cell 7
    simp at k0 k1 k2 k3 k4 k5 k6 k7
    have HB9 := Hd (HB.out.trans (hV.mono (by omega)))
    clear h1 h2 h3 h4 h5 h6 hV hK bq
    go_wp2_with fail
    exact bodyPost_ret (by simp [results, Tryz.results117, go_sem, k0, k1, k2, k3, k4, k5, k6, k7]) rfl ⟨_, rfl, HF.out, HB9.out⟩

end Go.Proofs.YthlehkjcfhnplaaGreatDoor
