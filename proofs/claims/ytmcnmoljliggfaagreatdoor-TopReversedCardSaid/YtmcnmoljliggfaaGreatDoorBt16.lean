/- Several texts in one: Lowest, Copy, FLong, FAnswered, CmpW. -/
import Derived.Test.YtmcnmoljliggfaaGreatDoorBt15
set_option maxRecDepth 100000
set_option maxHeartbeats 8000000
/- Lowest of package ratio: in lowest terms. (Written by wip/frac/genlowest.py.) -/
namespace Go.Proofs.YtmcnmoljliggfaaGreatDoor
open Go.RowKit

/- SameFrac of the laws; Copy of package ratio. (Written by wip/frac/gencopy.py.) -/

theorem IntOwn.mine {w : World} {base : Nat} {v : Value} {x : Int} (h : IntOwn w base v x) : ∀ g, blkInt v g → base ≤ g ∧ g < w.heap.size := by
  obtain ⟨A, c, rfl, -, -, h4⟩ := h.form
  exact fun g hg => h4.lt g hg
theorem FracOwn.kept {B : Nat} {Ts : List TypeId} {w w' : World} {base : Nat} {v : Value} {n d : Int} (h : FracOwn w base v n d) (k : KeptV B Ts w w') (hT : 109 ∉ Ts) : FracOwn w' base v n d := by
  obtain ⟨A, c, B, e, h1, h2, h3, h4⟩ := h.form
  exact ⟨A, c, B, e, h1, h2.kept k hT, h3.kept k hT, h4⟩
theorem FracOwn.cells {w : World} {base : Nat} {v : Value} {n d : Int} (h : FracOwn w base v n d) : CellsN v 4 := by
  obtain ⟨A, c, B, e, rfl, -⟩ := h.form
  exact ⟨rfl, by simp [Value.cells, Value.oneCell']⟩
theorem same_same (x : Int) (A B : Option Addr) (c d : Nat) (w : World) (h : Raw w A c (natL x.natAbs)) (g : Raw w B d (natL x.natAbs)) :
    Calls Tryz.prog 46 #[.agg #[.bool (decide (x < 0)), .slice A (natL x.natAbs).length c], .agg #[.bool (decide (x < 0)), .slice B (natL x.natAbs).length d]] w fun e w' => e = .returned (.bool true) ∧ Below w.heap.size w w' := by
  have := same_any (decide (x < 0)) (decide (x < 0)) A B c d _ _ w h g
  simpa using this

theorem sameFrac_at (n d : Int) (A B A2 B2 : Option Addr) (c e0 c2 e2 : Nat) (w : World) (h_x : Raw w A c (natL n.natAbs)) (k_x : Raw w B e0 (natL d.natAbs)) (h_y : Raw w A2 c2 (natL n.natAbs)) (k_y : Raw w B2 e2 (natL d.natAbs))  :
    Calls Tryz.prog 19 #[.agg #[.bool (decide (n < 0)), .slice A (natL n.natAbs).length c, .bool (decide (d < 0)), .slice B (natL d.natAbs).length e0], .agg #[.bool (decide (n < 0)), .slice A2 (natL n.natAbs).length c2, .bool (decide (d < 0)), .slice B2 (natL d.natAbs).length e2]] w fun e w' => e = .returned (.bool true) ∧ Below w.heap.size w w' := by
  have b0 := (((Below.refl w.heap.size w).alloc (Nat.le_refl _) (.cells #[.bool (decide (n < 0)), .slice A (natL n.natAbs).length c, .bool (decide (d < 0)), .slice B (natL d.natAbs).length e0] 27)).alloc (by simp) (.cells #[.bool (decide (n < 0)), .slice A2 (natL n.natAbs).length c2, .bool (decide (d < 0)), .slice B2 (natL d.natAbs).length e2] 27))
  have p0 := (Quad.new w (.bool (decide (n < 0))) (.slice A (natL n.natAbs).length c) (.bool (decide (d < 0))) (.slice B (natL d.natAbs).length e0)).alloc (.cells #[.bool (decide (n < 0)), .slice A2 (natL n.natAbs).length c2, .bool (decide (d < 0)), .slice B2 (natL d.natAbs).length e2] 27)
  have p1 := Quad.new (w.alloc (.cells #[.bool (decide (n < 0)), .slice A (natL n.natAbs).length c, .bool (decide (d < 0)), .slice B (natL d.natAbs).length e0] 27)) (.bool (decide (n < 0))) (.slice A2 (natL n.natAbs).length c2) (.bool (decide (d < 0))) (.slice B2 (natL d.natAbs).length e2)
  simp only [World.size_alloc] at p1
  have V_x := Hd (FV.mk p0 (h_x.below b0) (k_x.below b0))
  have KW_x := Hd k_x
  have V_y := Hd (FV.mk p1 (h_y.below b0) (k_y.below b0))
  have KW_y := Hd k_y
  have RW_x := Hd h_x
  have RW_y := Hd h_y
  have HBW := Hd b0
  clear b0 p0 p1 h_x k_x h_y k_y
  go_enter Tryz.func19, Tryz.ntmps19
  obtain ⟨W, E⟩ : ∃ W, W = ((w.alloc (.cells #[.bool (decide (n < 0)), .slice A (natL n.natAbs).length c, .bool (decide (d < 0)), .slice B (natL d.natAbs).length e0] 27)).alloc (.cells #[.bool (decide (n < 0)), .slice A2 (natL n.natAbs).length c2, .bool (decide (d < 0)), .slice B2 (natL d.natAbs).length e2] 27)) := ⟨_, rfl⟩
  go_upto_region 1 with fail
  rw [← E] at V_x V_y HBW ⊢
  clear E
  obtain ⟨l_x, a_x, b_x, c_x, d_x, -, -, -, -⟩ := V_x.out.quad.facts
  obtain ⟨l_y, a_y, b_y, c_y, d_y, -, -, -, -⟩ := V_y.out.quad.facts
  go_wp2_with fail
  refine (same_same n A A2 c c2 W V_x.out.num V_y.out.num).mono ?_
  rintro e x1 ⟨rfl, hb⟩
  clear l_x a_x b_x c_x d_x l_y a_y b_y c_y d_y
  have V_x := Hd (V_x.out.below hb)
  have V_y := Hd (V_y.out.below hb)
  have HBW := Hd (belowTo HBW.out hb)
  clear hb
  obtain ⟨l_x, a_x, b_x, c_x, d_x, -, -, -, -⟩ := V_x.out.quad.facts
  obtain ⟨l_y, a_y, b_y, c_y, d_y, -, -, -, -⟩ := V_y.out.quad.facts
  go_wp2_with fail
  refine (same_same d B B2 e0 e2 x1 V_x.out.den V_y.out.den).mono ?_
  rintro e x2 ⟨rfl, hb⟩
  clear l_x a_x b_x c_x d_x l_y a_y b_y c_y d_y
  have V_x := Hd (V_x.out.below hb)
  have V_y := Hd (V_y.out.below hb)
  have HBW := Hd (belowTo HBW.out hb)
  clear hb
  go_wp2_with fail
  go_ret
  exact ⟨rfl, HBW.out⟩

theorem sameFrac_true (v1 v2 : Value) (n d : Int) (w : World) (h : FracAt w v1 n d) (g : FracAt w v2 n d) :
    Calls Tryz.prog 19 #[v1, v2] w fun e w' => e = .returned (.bool true) ∧ Below w.heap.size w w' := by
  obtain ⟨A, c, B, e0, rfl, h1, h2⟩ := h.form
  obtain ⟨A2, c2, B2, e2, rfl, g1, g2⟩ := g.form
  exact sameFrac_at n d A B A2 B2 c e0 c2 e2 w h1 h2 g1 g2

theorem ratio_Copy (n d : Int) (A B : Option Addr) (c e0 : Nat) (w : World) (h_x : Raw w A c (natL n.natAbs)) (k_x : Raw w B e0 (natL d.natAbs)) (hn : lz n ≤ 400000000) (hd : lz d ≤ 400000000) :
    Calls Tryz.prog 48 #[.agg #[.bool (decide (n < 0)), .slice A (natL n.natAbs).length c, .bool (decide (d < 0)), .slice B (natL d.natAbs).length e0]] w (RetFracOwn w.heap.size w n d) := by
  obtain ⟨n0, hn0⟩ : ∃ k : Int, k = 0 := ⟨_, rfl⟩
  have H0 := Hd hn0
  have HN := Hd (show n = n + n0 ∧ d = d + n0 from ⟨by omega, by omega⟩)
  have hl0 : lz n0 ≤ 400000000 := by rw [hn0]; decide
  clear hn0
  have b0 := (((Below.refl w.heap.size w).alloc (Nat.le_refl _) (.cells #[.bool (decide (n < 0)), .slice A (natL n.natAbs).length c, .bool (decide (d < 0)), .slice B (natL d.natAbs).length e0] 27)).alloc (by simp) (.cells #[.bool false, .slice none 0 0, .bool false, .slice none 0 0] 27))
  have p0 := (Quad.new w (.bool (decide (n < 0))) (.slice A (natL n.natAbs).length c) (.bool (decide (d < 0))) (.slice B (natL d.natAbs).length e0)).alloc (.cells #[.bool false, .slice none 0 0, .bool false, .slice none 0 0] 27)
  have p1 := Quad.new (w.alloc (.cells #[.bool (decide (n < 0)), .slice A (natL n.natAbs).length c, .bool (decide (d < 0)), .slice B (natL d.natAbs).length e0] 27)) (.bool false) (.slice none 0 0) (.bool false) (.slice none 0 0)
  simp only [World.size_alloc] at p1
  have V_x := Hd (FV.mk p0 (h_x.below b0) (k_x.below b0))
  have KW_x := Hd k_x
  have P_r0 := Hd p1
  have RW_x := Hd h_x
  have HBW := Hd b0
  clear b0 p0 p1 h_x k_x
  go_enter Tryz.func48, Tryz.ntmps48
  obtain ⟨W, E⟩ : ∃ W, W = ((w.alloc (.cells #[.bool (decide (n < 0)), .slice A (natL n.natAbs).length c, .bool (decide (d < 0)), .slice B (natL d.natAbs).length e0] 27)).alloc (.cells #[.bool false, .slice none 0 0, .bool false, .slice none 0 0] 27)) := ⟨_, rfl⟩
  go_upto_region 1 with fail
  rw [← E] at V_x P_r0 HBW ⊢
  clear E
  have hszr := P_r0.out.blk.lt
  go_wp2_with fail
  refine (eof 0 n0 H0.out (by decide) (by decide) W).mono ?_
  rintro e x1 ⟨v, rfl, hI, hb⟩
  obtain ⟨A1, c1, rfl, r1⟩ := hI.raw
  have hIz := hI.base (Nat.zero_le _)
  have hsz9 := hb.size
  have V_x := Hd (V_x.out.below hb)
  have P_r0 := Hd (P_r0.out.below hb)
  have HBW := Hd (belowTo HBW.out hb)
  have R_z := Hd r1
  clear hb r1
  have O_z := Hd hIz
  clear hI hIz
  go_upto_region 2 with fail
  have ha := ((Below.refl x1.heap.size x1).alloc (Nat.le_refl _) (.cells #[.bool (decide (n0 < 0)), .slice A1 (natL n0.natAbs).length c1] 25))
  have p_z := (Pair.new x1 25 (.bool (decide (n0 < 0))) (.slice A1 (natL n0.natAbs).length c1))
  obtain ⟨y2, E⟩ : ∃ W, W = (x1.alloc (.cells #[.bool (decide (n0 < 0)), .slice A1 (natL n0.natAbs).length c1] 25)) := ⟨_, rfl⟩
  rw [← E] at ha p_z ⊢
  have V_z := Hd (NV.of R_z.out ha p_z)
  have V_x := Hd (V_x.out.below ha)
  have P_r0 := Hd (P_r0.out.below ha)
  have O_z := Hd (O_z.out.below ha)
  have HBW := Hd (belowTo HBW.out ha)
  obtain ⟨g2, hg⟩ : ∃ g, g = x1.heap.size := ⟨_, rfl⟩
  rw [← hg] at V_z ⊢
  clear E ha hg p_z
  go_wp2_with fail
  refine wp_region_free [.val (.pointer (some ⟨w.heap.size, 0, none⟩)) [], .val (.agg #[.bool (decide (n < 0)), .slice A (natL n.natAbs).length c]) [], .val (.agg #[.bool (decide (n0 < 0)), .slice A1 (natL n0.natAbs).length c1]) [], .any true (fun u V => IntOwn V w.heap.size u n) [], .val (.pointer (some ⟨w.heap.size, 2, none⟩)) [], .val (.agg #[.bool (decide (d < 0)), .slice B (natL d.natAbs).length e0]) [], .val (.agg #[.bool (decide (n0 < 0)), .slice A1 (natL n0.natAbs).length c1]) [], .any true (fun u V => IntOwn V w.heap.size u d) [], .any false (fun u V => FracOwn V w.heap.size u n d) [3, 7, 1003007], .old (w.heap.size + 1) 27 #[.bool false, .slice none 0 0, .bool false, .slice none 0 0] 0 4 8 []] (w.heap.size + 1) y2 [27] blkInt _ mixedOrders2 (by have := P_r0.out.blk.lt; omega) (Below.refl _ _) (KeptV.refl _ _ _) rfl (by kernel_rfl) (by kernel_rfl) (by kernel_rfl) (by kernel_rfl) (by kernel_rfl) (by kernel_rfl) (by kernel_rfl) (by kernel_rfl) rfl (by simp [oldsF]) ?_ ?_ ?_ ?_
  · simp only [StableF, and_true]
    exact ⟨fun u V V' h k => h.kept k (by decide), fun u V V' h k => h.kept k (by decide), fun u V V' h k => h.kept k (by decide)⟩
  · simp only [OldsF, and_true]
    exact ⟨Nat.le_refl _, P_r0.out.blk.lt, P_r0.out.blk, by simp⟩
  · simp (maxSteps := 4000000) [StepsF, DepF, freeAct, fill, pairs]
    repeat' (first | apply And.intro | (intro (u : Value)) | (intro (u : Nat)))
    all_goals try exact ⟨_, _, _, rfl, rfl, rfl, rfl, fracInfo⟩
    all_goals first
    | (intro V hV hK
       have qx : Quad V w.heap.size _ _ _ _ := ⟨V_x.out.quad.blk.below hV (Nat.lt_succ_self _)⟩
       obtain ⟨-, a_x, b_x, c_x, d_x, -, -, -, -⟩ := qx.facts
       obtain ⟨-, a_z, b_z, -, -⟩ := (Pair.mk (hK.blk V_z.out.pair.blk (by decide))).facts
       have rn := Hd (RW_x.out.below (HBW.out.trans (hV.mono (by omega))))
       have rd := Hd (KW_x.out.below (HBW.out.trans (hV.mono (by omega))))
       have rz := Hd (O_z.out.kept hK (by decide)).rawAt
       have hvs : w.heap.size ≤ V.heap.size := by have := hK.size; have := HBW.out.size; omega
       clear hV hK qx
       go_simp
       first
       | exact Below.refl _ _
       | ((with_reducible refine (eplus n n0 n A A1 c c1 V rn.out rz.out (by omega) (by omega) HN.out.1).mono ?_); rintro e w' ⟨v, rfl, hv, hb⟩; exact ⟨hv.base hvs, hb, hv.mine⟩)
       | ((with_reducible refine (eplus d n0 d B A1 e0 c1 V rd.out rz.out (by omega) (by omega) HN.out.2).mono ?_); rintro e w' ⟨v, rfl, hv, hb⟩; exact ⟨hv.base hvs, hb, hv.mine⟩))
    | (intro V hV hK h1 h2 hq
       obtain ⟨A6, c6, rfl, -⟩ := h1.raw
       obtain ⟨A7, c7, rfl, -⟩ := h2.raw
       clear hV hK
       go_simp
       exact ⟨⟨_, _, _, _, rfl, h1, h2, hq⟩, Below.refl _ _⟩)
    | exact fun _ _ _ (h : FracOwn _ _ _ _ _) => h.cells
  · simp [EndF, FactsF, freeAct, fill, pairs]
    intro u1 u2 u3 V hV hK h1 h2 h3 bq hap _ _
    have HF := Hd h3
    obtain ⟨A6, c6, A7, c7, rfl, -⟩ := h3.form
    simp [setAll, Value.cells] at bq
    have k0 := bq.cell 0
    have k1 := bq.cell 1
    have k2 := bq.cell 2
    have k3 := bq.cell 3
    simp at k0 k1 k2 k3
    have HB9 := Hd (HBW.out.trans (hV.mono (by omega)))
    clear h1 h2 h3 hV hK bq hap
    go_wp2_with fail
    exact bodyPost_ret (by simp [results, Tryz.results48, go_sem, k0, k1, k2, k3]) rfl ⟨_, rfl, HF.out, HB9.out⟩
/- Long and Answer of package ratio at one fraction. (Written by wip/frac/genflong.py.) -/

theorem flong_one (b : Bool) (A : Option Addr) (n c : Nat) (hn : n ≤ 9223372036854775807) (V : World) (g : Nat) (hg : V.heap.size = g) :
    Calls Tryz.prog 94 #[.slice (some ⟨g, 0, none⟩) 1 1] (V.alloc (.cells #[.bool b, .slice A n c] 25)) fun e w' => e = .returned (.bool (decide (2048 < n))) ∧ Below (V.alloc (.cells #[.bool b, .slice A n c] 25)).heap.size (V.alloc (.cells #[.bool b, .slice A n c] 25)) w' := by
  have := exact_Long (some ⟨g, 0, none⟩) 1 [(b, A, n, c)] (by simp) (by simp; omega) (V.alloc (.cells #[.bool b, .slice A n c] 25)) (by subst hg; exact (Reads.new1 V 25 2 [.bool b, .slice A n c] rfl).more (by simp))
  simpa using this

theorem ratio_Long_a (b1 b2 : Bool) (A B : Option Addr) (n c m e0 g : Nat) (hn : n ≤ 9223372036854775807) (hl : 2048 < n) (w : World) (q : Quad w g (.bool b1) (.slice A n c) (.bool b2) (.slice B m e0)) :
    Calls Tryz.prog 64 #[.slice (some ⟨g, 0, none⟩) 1 1] w fun e w' => e = .returned (.bool true) ∧ Below w.heap.size w w' := by
  have C1 := fun V g' hg => flong_one b1 A n c hn V g' hg
  rw [decide_eq_true (show 2048 < n from hl)] at C1
  have H1 := Hd C1
  have HQ := Hd q
  clear C1 hl q hn
  go_enter Tryz.func64, Tryz.ntmps64
  go_wp2_with fail
  go_loopw [7] (fun s wr => ∃ i : Nat, s = .int .i64 i ∧ i ≤ 0 ∧ Below w.heap.size w wr) (fun s _ => 1 - (intOf s).toNat)
  case atStart => exact ⟨0, rfl, by omega, Below.refl _ _⟩
  case round =>
    obtain ⟨i, rfl, hi, hb⟩ := hrel
    obtain rfl : i = 0 := by omega
    clear hi
    obtain ⟨x0, x1, x2, x3, x4, -, -, -, -⟩ := (HQ.out.below hb).facts
    have HB := Hd hb
    clear hb
    go_wp2_with (first | (go_at_call 94; with_reducible refine (H1.out _ _ (by simp)).mono ?_; rintro e w1 ⟨rfl, hb1⟩; have q4 := ((Quad.new wr (.bool b1) (.slice A n c) (.bool b2) (.slice B m e0)).alloc (.cells #[.bool b1, .slice A n c] 25)).below hb1; have B1 := belowTo ((HB.out.alloc HB.out.size _).alloc (by simp; have := HB.out.size; omega) _) hb1; obtain ⟨l4, y0, y1, y2, y3, -, -, -, -⟩ := q4.facts) | (go_at_call 94; with_reducible refine (H2.out _ _ rfl).mono ?_; rintro e w2 ⟨rfl, hb2⟩; have B2 := belowTo (B1.alloc B1.size _) hb2))
    go_ret
    exact ⟨rfl, B1⟩

theorem ratio_Long_b (b1 b2 : Bool) (A B : Option Addr) (n c m e0 g : Nat) (hn : n ≤ 9223372036854775807) (hm : m ≤ 9223372036854775807) (hl : n ≤ 2048) (hl2 : 2048 < m) (w : World) (q : Quad w g (.bool b1) (.slice A n c) (.bool b2) (.slice B m e0)) :
    Calls Tryz.prog 64 #[.slice (some ⟨g, 0, none⟩) 1 1] w fun e w' => e = .returned (.bool true) ∧ Below w.heap.size w w' := by
  have C1 := fun V g' hg => flong_one b1 A n c hn V g' hg
  rw [decide_eq_false (show ¬ 2048 < n from by omega)] at C1
  have C2 := fun V g' hg => flong_one b2 B m e0 hm V g' hg
  rw [decide_eq_true (show 2048 < m from hl2)] at C2
  have H2 := Hd C2
  clear C2 hl2
  have H1 := Hd C1
  have HQ := Hd q
  clear C1 hl q hn hm
  go_enter Tryz.func64, Tryz.ntmps64
  go_wp2_with fail
  go_loopw [7] (fun s wr => ∃ i : Nat, s = .int .i64 i ∧ i ≤ 0 ∧ Below w.heap.size w wr) (fun s _ => 1 - (intOf s).toNat)
  case atStart => exact ⟨0, rfl, by omega, Below.refl _ _⟩
  case round =>
    obtain ⟨i, rfl, hi, hb⟩ := hrel
    obtain rfl : i = 0 := by omega
    clear hi
    obtain ⟨x0, x1, x2, x3, x4, -, -, -, -⟩ := (HQ.out.below hb).facts
    have HB := Hd hb
    clear hb
    go_wp2_with (first | (go_at_call 94; with_reducible refine (H1.out _ _ (by simp)).mono ?_; rintro e w1 ⟨rfl, hb1⟩; have q4 := ((Quad.new wr (.bool b1) (.slice A n c) (.bool b2) (.slice B m e0)).alloc (.cells #[.bool b1, .slice A n c] 25)).below hb1; have B1 := belowTo ((HB.out.alloc HB.out.size _).alloc (by simp; have := HB.out.size; omega) _) hb1; obtain ⟨l4, y0, y1, y2, y3, -, -, -, -⟩ := q4.facts) | (go_at_call 94; with_reducible refine (H2.out _ _ rfl).mono ?_; rintro e w2 ⟨rfl, hb2⟩; have B2 := belowTo (B1.alloc B1.size _) hb2))
    go_ret
    exact ⟨rfl, B2⟩

theorem ratio_Long_c (b1 b2 : Bool) (A B : Option Addr) (n c m e0 g : Nat) (hn : n ≤ 9223372036854775807) (hm : m ≤ 9223372036854775807) (hl : n ≤ 2048) (hl2 : m ≤ 2048) (w : World) (q : Quad w g (.bool b1) (.slice A n c) (.bool b2) (.slice B m e0)) :
    Calls Tryz.prog 64 #[.slice (some ⟨g, 0, none⟩) 1 1] w fun e w' => e = .returned (.bool false) ∧ Below w.heap.size w w' := by
  have C1 := fun V g' hg => flong_one b1 A n c hn V g' hg
  rw [decide_eq_false (show ¬ 2048 < n from by omega)] at C1
  have C2 := fun V g' hg => flong_one b2 B m e0 hm V g' hg
  rw [decide_eq_false (show ¬ 2048 < m from by omega)] at C2
  have H2 := Hd C2
  clear C2 hl2
  have H1 := Hd C1
  have HQ := Hd q
  clear C1 hl q hn hm
  go_enter Tryz.func64, Tryz.ntmps64
  go_wp2_with fail
  go_loopw [7] (fun s wr => ∃ i : Nat, s = .int .i64 i ∧ i ≤ 1 ∧ Below w.heap.size w wr) (fun s _ => 1 - (intOf s).toNat)
  case atStart => exact ⟨0, rfl, by omega, Below.refl _ _⟩
  case round =>
    obtain ⟨i, rfl, hi, hb⟩ := hrel
    by_cases hlt : i < 1
    · obtain rfl : i = 0 := by omega
      clear hi hlt
      obtain ⟨x0, x1, x2, x3, x4, -, -, -, -⟩ := (HQ.out.below hb).facts
      have HB := Hd hb
      clear hb
      go_wp2_with (first | (go_at_call 94; with_reducible refine (H1.out _ _ (by simp)).mono ?_; rintro e w1 ⟨rfl, hb1⟩; have q4 := ((Quad.new wr (.bool b1) (.slice A n c) (.bool b2) (.slice B m e0)).alloc (.cells #[.bool b1, .slice A n c] 25)).below hb1; have B1 := belowTo ((HB.out.alloc HB.out.size _).alloc (by simp; have := HB.out.size; omega) _) hb1; obtain ⟨l4, y0, y1, y2, y3, -, -, -, -⟩ := q4.facts) | (go_at_call 94; with_reducible refine (H2.out _ _ rfl).mono ?_; rintro e w2 ⟨rfl, hb2⟩; have B2 := belowTo (B1.alloc B1.size _) hb2))
      go_roundw
      case rel => exact ⟨1, by go_num, Nat.le_refl _, B2⟩
      case measure => simp [intOf]
    · obtain rfl : i = 1 := by omega
      have HB := Hd hb
      clear hb hi hlt
      go_wp2_with fail
      go_ret
      exact ⟨rfl, HB.out⟩

theorem ratio_Long_any (b1 b2 : Bool) (A B : Option Addr) (n c m e0 g : Nat) (hn : n ≤ 9223372036854775807) (hm : m ≤ 9223372036854775807) (w : World) (q : Quad w g (.bool b1) (.slice A n c) (.bool b2) (.slice B m e0)) :
    Calls Tryz.prog 64 #[.slice (some ⟨g, 0, none⟩) 1 1] w fun e w' => e = .returned (.bool (decide (2048 < n) || decide (2048 < m))) ∧ Below w.heap.size w w' := by
  by_cases h1 : 2048 < n
  · have := ratio_Long_a b1 b2 A B n c m e0 g hn h1 w q
    simpa [h1] using this
  · by_cases h2 : 2048 < m
    · have := ratio_Long_b b1 b2 A B n c m e0 g hn hm (by omega) h2 w q
      simpa [h1, h2] using this
    · have := ratio_Long_c b1 b2 A B n c m e0 g hn hm (by omega) (by omega) w q
      simpa [h1, h2] using this

theorem ratio_Answer_false (b1 b2 : Bool) (A B : Option Addr) (n c m e0 g : Nat) (hn : n ≤ 9223372036854775807) (hm : m ≤ 9223372036854775807) (hb : (decide (2048 < n) || decide (2048 < m)) = false) (w : World) (q : Quad w g (.bool b1) (.slice A n c) (.bool b2) (.slice B m e0)) :
    Calls Tryz.prog 69 #[.slice (some ⟨g, 0, none⟩) 1 1] w fun e w' => e = .returned (.int .i64 0) ∧ Below w.heap.size w w' := by
  have C := ratio_Long_any b1 b2 A B n c m e0 g hn hm w q
  rw [hb] at C
  have H := Hd C
  clear C hb q
  go_enter Tryz.func69, Tryz.ntmps69
  go_wp2_with (go_at_call 64; with_reducible refine H.out.mono ?_; rintro e w1 ⟨rfl, hb⟩)
  go_ret
  exact ⟨rfl, hb⟩
/- answered of package frac. -/

theorem FracOwn.nought (w : World) (base : Nat) : FracOwn w base (.agg #[.bool false, .slice none 0 0, .bool false, .slice none 0 0]) 0 0 :=
  ⟨none, 0, none, 0, rfl, IntOwn.nought _ _, IntOwn.nought _ _, fun g hg => by cases hg⟩
theorem FracOwn.quad {w : World} {base g : Nat} {v a b c d : Value} {n m : Int} (h : FracOwn w base v n m) (q : Quad w g a b c d) (x y z u : Value) : FracOwn ((((w.setCell ⟨g, 0, none⟩ x).setCell ⟨g, 1, none⟩ y).setCell ⟨g, 2, none⟩ z).setCell ⟨g, 3, none⟩ u) base v n m := by
  obtain ⟨A, k, B, e, h1, h2, h3, h4⟩ := h.form
  have one : ∀ {v : Value} {x' : Int}, IntOwn w base v x' → IntOwn ((((w.setCell ⟨g, 0, none⟩ x).setCell ⟨g, 1, none⟩ y).setCell ⟨g, 2, none⟩ z).setCell ⟨g, 3, none⟩ u) base v x' := fun {v x'} hi => by
    obtain ⟨A', c', a1, a2, a3, a4⟩ := hi.form
    have hne := own_blk_ne a4 q.blk (by decide)
    refine ⟨A', c', a1, a2, a3, a4.1, ?_⟩
    rcases a4.2 with p | ⟨g', cap, cur, p1, p2, p3, p4⟩
    · exact .inl p
    · refine .inr ⟨g', cap, cur, p1, p2, ?_, p4⟩
      have hg : g' ≠ g := fun e => by
        rw [p1] at hne
        exact hne (by simp [Value.ownBlock, e])
      rw [Below.heap_setCell _ ⟨g, 3, none⟩ u g' hg, Below.heap_setCell _ ⟨g, 2, none⟩ z g' hg, Below.heap_setCell _ ⟨g, 1, none⟩ y g' hg, Below.heap_setCell _ ⟨g, 0, none⟩ x g' hg]
      exact p3
  exact ⟨A, k, B, e, h1, one h2, one h3, h4⟩
theorem FracOwn.base {w : World} {b b' : Nat} {v : Value} {n d : Int} (h : FracOwn w b v n d) (hb : b' ≤ b) : FracOwn w b' v n d := by
  obtain ⟨A, k, B, e, h1, h2, h3, h4⟩ := h.form
  exact ⟨A, k, B, e, h1, h2.base hb, h3.base hb, h4⟩
theorem frac_answered_fits (n d : Int) (A B : Option Addr) (c e0 : Nat) (w : World) (h : Raw w A c (natL n.natAbs)) (g : Raw w B e0 (natL d.natAbs)) (hn : lz n ≤ 2048) (hd : lz d ≤ 2048) :
    Calls Tryz.prog 105 #[.agg #[.bool (decide (n < 0)), .slice A (natL n.natAbs).length c, .bool (decide (d < 0)), .slice B (natL d.natAbs).length e0]] w (RetFracOwn2 w.heap.size w n d 0) := by
  have px := (Quad.new w (.bool (decide (n < 0))) (.slice A (natL n.natAbs).length c) (.bool (decide (d < 0))) (.slice B (natL d.natAbs).length e0)).alloc (.cells #[.bool false, .slice none 0 0, .bool false, .slice none 0 0] 27)
  have pr := Quad.new (w.alloc (.cells #[.bool (decide (n < 0)), .slice A (natL n.natAbs).length c, .bool (decide (d < 0)), .slice B (natL d.natAbs).length e0] 27)) (.bool false) (.slice none 0 0) (.bool false) (.slice none 0 0)
  have b0 := ((Below.refl w.heap.size w).alloc (Nat.le_refl _) (.cells #[.bool (decide (n < 0)), .slice A (natL n.natAbs).length c, .bool (decide (d < 0)), .slice B (natL d.natAbs).length e0] 27)).alloc (by simp) (.cells #[.bool false, .slice none 0 0, .bool false, .slice none 0 0] 27)
  simp only [World.size_alloc] at pr
  have hn' : (natL n.natAbs).length ≤ 2048 := hn
  have hd' : (natL d.natAbs).length ≤ 2048 := hd
  have H1 := Hd (fun (V : World) (g' : Nat) (hg : V.heap.size = g') => ratio_Answer_false (decide (n < 0)) (decide (d < 0)) A B (natL n.natAbs).length c (natL d.natAbs).length e0 g' (by omega) (by omega) (by simp; omega) (V.alloc (.cells #[.bool (decide (n < 0)), .slice A (natL n.natAbs).length c, .bool (decide (d < 0)), .slice B (natL d.natAbs).length e0] 27)) (by subst hg; exact Quad.new _ _ _ _ _))
  have H2 := Hd (fun (V : World) (h : Raw V A c (natL n.natAbs)) (g : Raw V B e0 (natL d.natAbs)) => ratio_Copy n d A B c e0 V h g (by omega) (by omega))
  have h1 := h.below b0
  have g1 := g.below b0
  have PX := Hd px
  have PR := Hd pr
  have B0 := Hd b0
  have RX := Hd h1
  have RY := Hd g1
  clear px pr b0 h g h1 g1 hn hd hn' hd'
  go_enter Tryz.func105, Tryz.ntmps105
  go_wp2_with (
    (go_at_call 69; with_reducible refine (H1.out _ _ (by simp)).mono ?_; rintro e w1 ⟨rfl, hb⟩; have px := (PX.out.alloc _).below hb; have pr := (PR.out.alloc _).below hb; have B1 := belowTo (B0.out.alloc B0.out.size _) hb; have rx := (RX.out.alloc _).below hb; have ry := (RY.out.alloc _).below hb; have hl0 := B0.out.size; obtain ⟨l1, x0, x1, x2, x3, -, -, -, -⟩ := px.facts))
  refine (H2.out _ rx ry).mono ?_
  rintro e w2 ⟨v, rfl, hI, hb2⟩
  have pr2 := pr.below hb2
  have B2 := belowTo B1 hb2
  obtain ⟨A1, c1, A2, c2, rfl, -⟩ := hI.form
  obtain ⟨l2, y0, y1, y2, y3, f0, f1, f2, f3⟩ := pr2.facts
  go_wp2_with fail
  have hq := pr2.store (.bool (decide (n < 0))) (.slice A1 (natL n.natAbs).length c1) (.bool (decide (d < 0))) (.slice A2 (natL d.natAbs).length c2)
  obtain ⟨_, k0, k1, k2, k3, _⟩ := hq.facts
  have hsz := B1.size
  exact bodyPost_ret (by simp [results, Tryz.results105, go_sem, k0, k1, k2, k3]) rfl ⟨_, rfl, (hI.quad pr2 _ _ _ _).base hsz, below4 B2 (by omega) _ _ _ _⟩
/- Cmp of package whole and of the references. (Written by wip/exact/genfine.py, cut off by hand.) -/

end Go.Proofs.YtmcnmoljliggfaaGreatDoor
