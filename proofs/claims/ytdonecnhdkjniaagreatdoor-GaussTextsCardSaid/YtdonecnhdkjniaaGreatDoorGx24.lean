/- Several texts in one: FRingPlain, Rat, TreesR, RatOps, TreesZ. -/
import Derived.Test.YtdonecnhdkjniaaGreatDoorGx23
set_option maxRecDepth 100000
set_option maxHeartbeats 8000000
namespace Go.Proofs.YtdonecnhdkjniaaGreatDoor
open Go.RowKit


structure Is (q : Rat) (n d : Int) : Prop where
 num : q.num = n
 den : (q.den : Int) = d
theorem Is.pos {q : Rat} {n d : Int} (h : Is q n d) : 0 < d := by
 have := q.den_pos
 rw [<- h.den]
 omega
theorem Is.low {q : Rat} {n d : Int} (h : Is q n d) : ZL n d = 1 := by
 have := q.reduced
 unfold ZL
 rw [<- h.num, <- h.den, Int.natAbs_natCast]
 exact congrArg (fun k : Nat => (k : Int)) this
theorem Is.eq {q : Rat} {n d : Int} (h : Is q n d) : q = Rat.divInt n d := by
 rw [<- h.num, <- h.den, Rat.num_divInt_den]
theorem Is.one {a b : Rat} {n d m f : Int} (h : Is a n d) (g : Is b m f) : a = b ↔ n = m /\ d = f := by
 constructor
 . rintro rfl
   exact ⟨h.num.symm.trans g.num, h.den.symm.trans g.den⟩
 . rintro ⟨rfl, rfl⟩
   rw [h.eq, g.eq]
theorem Is.uniq {q : Rat} {n d m f : Int} (h : Is q n d) (g : Is q m f) : n = m /\ d = f := (h.one g).1 rfl
theorem is_of {n d : Int} (hd : 0 < d) (hg : ZL n d = 1) : Is (Rat.divInt n d) n d := by
 have hc : Nat.Coprime n.natAbs d.natAbs := by
  unfold ZL at hg
  exact_mod_cast hg
 have e : Rat.divInt n d = ⟨n, d.natAbs, by omega, hc⟩ := by
  rw [Rat.mk_eq_divInt, show ((d.natAbs : Nat) : Int) = d by omega]
 rw [e]
 exact ⟨rfl, by show ((d.natAbs : Nat) : Int) = d; omega⟩
theorem low_neg {n d : Int} (hd : d < 0) : YX n d = YX (-n) (-d) /\ YP n d = YP (-n) (-d) := by
 unfold YX YP
 have eg : ZL (-n) (-d) = ZL n d := by unfold ZL; rw [Int.natAbs_neg, Int.natAbs_neg]
 rw [if_pos hd, if_pos hd, if_neg (by omega), if_neg (by omega), eg, Int.neg_tdiv, Int.neg_tdiv]
 exact ⟨rfl, rfl⟩
theorem is_low (n : Int) {d : Int} (hd : d ≠ 0) : Is (Rat.divInt n d) (YX n d) (YP n d) := by
 have key : ∀ (n : Int) {d : Int}, 0 < d -> Is (Rat.divInt n d) (YX n d) (YP n d) := fun n d hd => by
   have e : Rat.divInt n d = Rat.divInt (YX n d) (YP n d) := by
    have h2 := lowD_pos n hd
    rw [Rat.divInt_eq_divInt_iff (by omega) (by omega)]
    exact (low_cross n hd).symm
   rw [e]
   exact is_of (lowD_pos n hd) (low_one n hd)
 rcases Int.lt_or_gt_of_ne hd with h | h
 . rw [(low_neg h).1, (low_neg h).2, <- Rat.neg_divInt_neg]
   exact key _ (by omega)
 . exact key _ h
section
variable {a b : Rat} {n d m f : Int} (h : Is a n d) (g : Is b m f)
include h g
end
theorem Is.nought {q : Rat} {n d : Int} (h : Is q n d) : n = 0 ↔ q = 0 := by rw [<- Rat.num_eq_zero, h.num]
theorem is_int (z : Int) : Is (z : Rat) z 1 := ⟨rfl, rfl⟩
theorem fine_is {n d : Int} (f : Fine n d) : Is (Rat.divInt n d) n d := is_of f.pos f.low
theorem Is.fine {q : Rat} {n d : Int} (h : Is q n d) (h1 : lz n <= 2048) (h2 : lz d <= 2048) : Fine n d := by
 have f1 : Fit n := h1
 have f2 : Fit d := h2
 refine ⟨?_, h1, h2, h.pos, h.low⟩
 unfold XC mkOk
 rw [f1.ok, f2.ok, YV, YV]
 simp only [Bool.and_self, if_true]
 rw [if_pos ⟨h.pos, h.low⟩]

structure TurnIn (z d : Int) (B : Option Addr) (e0 : Nat) (v : Value) (V : World) : Prop where
 form : ∃ A c, v = .agg #[.bool (decide (z < 0)), .slice A (Za z.natAbs).length c, .bool (decide (d < 0)), .slice B (Za d.natAbs).length e0] /\ Zc V 0 (.agg #[.bool (decide (z < 0)), .slice A (Za z.natAbs).length c]) z

structure Sz (q : Rat) (k : Nat) : Prop where
 num : lz q.num <= k
 den : lz (q.den : Int) <= k
theorem Is.sz {q : Rat} {n d : Int} {k : Nat} (i : Is q n d) (h1 : lz n <= k) (h2 : lz d <= k) : Sz q k := ⟨by rw [i.num]; exact h1, by rw [i.den]; exact h2⟩
theorem Fine.is_ {n d : Int} (f : Fine n d) : Is (Rat.divInt n d) n d /\ Sz (Rat.divInt n d) 2048 := ⟨fine_is f, (fine_is f).sz f.num f.den⟩
section
variable {a b : Rat} {k l : Nat}
end
section
variable {a b : Rat} {n d m f N D : Int}
end

theorem ratio_Plus_z (n d m f : Int) (A B A2 B2 : Option Addr) (c e0 c2 e2 : Nat) (w : World) (h_x : Zm w A c (Za n.natAbs)) (k_x : Zm w B e0 (Za d.natAbs)) (h_y : Zm w A2 c2 (Za m.natAbs)) (k_y : Zm w B2 e2 (Za f.natAbs)) (hn : lz n <= 100000000) (hd : lz d <= 100000000) (hm : lz m <= 100000000) (hf : lz f <= 100000000) (h0 : d = 1) (h1 : f = 1) :
   Calls Tryz.prog 200 #[.agg #[.bool (decide (n < 0)), .slice A (Za n.natAbs).length c, .bool (decide (d < 0)), .slice B (Za d.natAbs).length e0], .agg #[.bool (decide (m < 0)), .slice A2 (Za m.natAbs).length c2, .bool (decide (f < 0)), .slice B2 (Za f.natAbs).length e2]] w (Z3 w.heap.size w (addN n d m f) (addD n d m f)) := by
 obtain ⟨p, hp⟩ : ∃ k : Int, k = n * f := ⟨_, rfl⟩
 obtain ⟨q, hq⟩ : ∃ k : Int, k = m * d := ⟨_, rfl⟩
 have hlp := lz_mul n f
 have hlq := lz_mul m d
 rw [<- hp] at hlp
 rw [<- hq] at hlq
 obtain ⟨s, hs⟩ : ∃ k : Int, k = p + q := ⟨_, rfl⟩
 have hls := lz_add p q
 rw [<- hs] at hls
 obtain ⟨t, ht⟩ : ∃ k : Int, k = d * f := ⟨_, rfl⟩
 have hlt := lz_mul d f
 rw [<- ht] at hlt
 have HT0 := Hd (show t = 1 from by rw [ht, h0, h1]; decide)
 obtain ⟨N, hN⟩ : ∃ k : Int, k = YX s t := ⟨_, rfl⟩
 obtain ⟨D, hD⟩ : ∃ k : Int, k = YP s t := ⟨_, rfl⟩
 have HND := Hd (show addN n d m f = N /\ addD n d m f = D from by rw [hN, hD, hs, ht, hp, hq]; exact ⟨rfl, rfl⟩)
 have HS := Hd hs
 have HTT := Hd ht
 have HP := Hd hp
 have HQ := Hd hq
 clear hp hq
 have HLOW := Hd (And.intro hN hD)
 clear hs ht hN hD h0 h1
 have b0 := ((((Below.refl w.heap.size w).alloc (Nat.le_refl _) (.cells #[.bool (decide (n < 0)), .slice A (Za n.natAbs).length c, .bool (decide (d < 0)), .slice B (Za d.natAbs).length e0] 26)).alloc (by simp) (.cells #[.bool (decide (m < 0)), .slice A2 (Za m.natAbs).length c2, .bool (decide (f < 0)), .slice B2 (Za f.natAbs).length e2] 26)).alloc (by simp; omega) (.cells #[.bool false, .slice none 0 0, .bool false, .slice none 0 0] 26))
 have p0 := ((Zz.new w (.bool (decide (n < 0))) (.slice A (Za n.natAbs).length c) (.bool (decide (d < 0))) (.slice B (Za d.natAbs).length e0)).alloc (.cells #[.bool (decide (m < 0)), .slice A2 (Za m.natAbs).length c2, .bool (decide (f < 0)), .slice B2 (Za f.natAbs).length e2] 26)).alloc (.cells #[.bool false, .slice none 0 0, .bool false, .slice none 0 0] 26)
 have p1 := (Zz.new (w.alloc (.cells #[.bool (decide (n < 0)), .slice A (Za n.natAbs).length c, .bool (decide (d < 0)), .slice B (Za d.natAbs).length e0] 26)) (.bool (decide (m < 0))) (.slice A2 (Za m.natAbs).length c2) (.bool (decide (f < 0))) (.slice B2 (Za f.natAbs).length e2)).alloc (.cells #[.bool false, .slice none 0 0, .bool false, .slice none 0 0] 26)
 have p2 := Zz.new ((w.alloc (.cells #[.bool (decide (n < 0)), .slice A (Za n.natAbs).length c, .bool (decide (d < 0)), .slice B (Za d.natAbs).length e0] 26)).alloc (.cells #[.bool (decide (m < 0)), .slice A2 (Za m.natAbs).length c2, .bool (decide (f < 0)), .slice B2 (Za f.natAbs).length e2] 26)) (.bool false) (.slice none 0 0) (.bool false) (.slice none 0 0)
 simp only [World.size_alloc] at p1 p2
 have V_x := Hd (FV.mk p0 (h_x.below b0) (k_x.below b0))
 have KW_x := Hd k_x
 have V_y := Hd (FV.mk p1 (h_y.below b0) (k_y.below b0))
 have KW_y := Hd k_y
 have P_r0 := Hd p2
 have RW_x := Hd h_x
 have RW_y := Hd h_y
 have HBW := Hd b0
 clear b0 p0 p1 p2 h_x k_x h_y k_y
 go_enter Tryz.func200, Tryz.ntmps200
 obtain ⟨W, E⟩ : ∃ W, W = (((w.alloc (.cells #[.bool (decide (n < 0)), .slice A (Za n.natAbs).length c, .bool (decide (d < 0)), .slice B (Za d.natAbs).length e0] 26)).alloc (.cells #[.bool (decide (m < 0)), .slice A2 (Za m.natAbs).length c2, .bool (decide (f < 0)), .slice B2 (Za f.natAbs).length e2] 26)).alloc (.cells #[.bool false, .slice none 0 0, .bool false, .slice none 0 0] 26)) := ⟨_, rfl⟩
 go_upto_region 1 with fail
 rw [<- E] at V_x V_y P_r0 HBW ⊢
 clear E
 have hsz := P_r0.out.blk.lt
 go_wp2_with fail
 refine Zd [.val (.pointer (some ⟨w.heap.size, 0, none⟩)) [], .val (.agg #[.bool (decide (n < 0)), .slice A (Za n.natAbs).length c]) [], .val (.pointer (some ⟨w.heap.size + 1, 2, none⟩)) [], .val (.agg #[.bool (decide (f < 0)), .slice B2 (Za f.natAbs).length e2]) [], .any false (fun u V => Zc V 0 u p) [], .val (.pointer (some ⟨w.heap.size + 1, 0, none⟩)) [], .val (.agg #[.bool (decide (m < 0)), .slice A2 (Za m.natAbs).length c2]) [], .val (.pointer (some ⟨w.heap.size, 2, none⟩)) [], .val (.agg #[.bool (decide (d < 0)), .slice B (Za d.natAbs).length e0]) [], .any false (fun u V => Zc V 0 u q) [], .any true (fun u V => Zc V w.heap.size u s) [4, 9], .val (.pointer (some ⟨w.heap.size, 2, none⟩)) [], .val (.agg #[.bool (decide (d < 0)), .slice B (Za d.natAbs).length e0]) [], .val (.pointer (some ⟨w.heap.size + 1, 2, none⟩)) [], .val (.agg #[.bool (decide (f < 0)), .slice B2 (Za f.natAbs).length e2]) [], .any true (fun u V => Zc V w.heap.size u t) [], .any false (fun u V => Zl V w.heap.size u N D) [10, 15, 1010015], .old (w.heap.size + 1 + 1) 26 #[.bool false, .slice none 0 0, .bool false, .slice none 0 0] 0 4 16 []] (w.heap.size + 1 + 1) W [26] X6 _ Zf (by omega) (Below.refl _ _) (Zu.refl _ _ _) rfl ?_ ?_ ?_ ?_ ?_ ?_ ?_ ?_ rfl (by simp [ZP]) ?_ ?_ ?_ ?_
 iterate 8 kernel_rfl
 . simp only [Zy, and_true]
   exact ⟨fun u V V' h k => h.kept k (by decide), fun u V V' h k => h.kept k (by decide), fun u V V' h k => h.kept k (by decide), fun u V V' h k => h.kept k (by decide), fun u V V' h k => h.kept k (by decide)⟩
 . simp only [Z5, and_true]
   exact ⟨Nat.le_refl _, P_r0.out.blk.lt, P_r0.out.blk, by simp⟩
 . simp (maxSteps := 4000000) [ZH, YD, Zg, ZF, Zn]
   repeat' (first | apply And.intro | (intro (u : Value)) | (intro (u : Nat)))
   all_goals try exact ⟨_, _, _, rfl, rfl, rfl, rfl, YN⟩
   all_goals first
   | (intro V hV hK
      have qx : Zz V (w.heap.size) _ _ _ _ := ⟨V_x.out.quad.blk.below hV (by omega)⟩
      obtain ⟨-, a_x, b_x, c_x, d_x, -, -, -, -⟩ := qx.facts
      have qy : Zz V (w.heap.size + 1) _ _ _ _ := ⟨V_y.out.quad.blk.below hV (by omega)⟩
      obtain ⟨-, a_y, b_y, c_y, d_y, -, -, -, -⟩ := qy.facts
      have rn_x := Hd (RW_x.out.below (HBW.out.trans (hV.mono (by omega))))
      have rd_x := Hd (KW_x.out.below (HBW.out.trans (hV.mono (by omega))))
      have rn_y := Hd (RW_y.out.below (HBW.out.trans (hV.mono (by omega))))
      have rd_y := Hd (KW_y.out.below (HBW.out.trans (hV.mono (by omega))))
      have hvs : w.heap.size <= V.heap.size := by have := hV.size; have := HBW.out.size; omega
      clear hV hK qx qy
      go_simp
      first
      | exact Below.refl _ _
      | ((with_reducible refine (etimes n f p A B2 c e2 V rn_x.out rd_y.out (by omega) (by omega) HP.out).mono ?_); rintro e w' ⟨v, rfl, hv, hb⟩; first | exact ⟨hv.base (Nat.zero_le _), hb⟩ | exact ⟨hv.base hvs, hb, hv.mine⟩)
      | ((with_reducible refine (etimes m d q A2 B c2 e0 V rn_y.out rd_x.out (by omega) (by omega) HQ.out).mono ?_); rintro e w' ⟨v, rfl, hv, hb⟩; first | exact ⟨hv.base (Nat.zero_le _), hb⟩ | exact ⟨hv.base hvs, hb, hv.mine⟩)
      | ((with_reducible refine (etimes d f t B B2 e0 e2 V rd_x.out rd_y.out (by omega) (by omega) HTT.out).mono ?_); rintro e w' ⟨v, rfl, hv, hb⟩; first | exact ⟨hv.base (Nat.zero_le _), hb⟩ | exact ⟨hv.base hvs, hb, hv.mine⟩)
)
   | (intro V hV hK h1 h2 hq
      obtain ⟨A6, c6, rfl, -⟩ := h1.raw
      obtain ⟨A7, c7, rfl, -⟩ := h2.raw
      have hq2 : ∀ g, (Value.slice A6 (Za s.natAbs).length c6).ownBlock = some g -> (Value.slice A7 (Za t.natAbs).length c7).ownBlock ≠ some g := hq
      have hvs : w.heap.size <= V.heap.size := by have := hV.size; have := HBW.out.size; omega
      clear hV hK
      go_simp
      (with_reducible refine (efreshZ s t A6 A7 c6 c7 w.heap.size V h1 h2 hq2 hvs (by omega) (by omega) HT0.out).mono ?_); rintro e w' ⟨v, rfl, hv, hb⟩; rw [<- HLOW.out.1, <- HLOW.out.2] at hv; exact ⟨hv, hb⟩)
   | (intro V hV hK h1 h2
      obtain ⟨A6, c6, rfl, r6⟩ := h1.raw
      obtain ⟨A7, c7, rfl, r7⟩ := h2.raw
      have hvs : w.heap.size <= V.heap.size := by have := hV.size; have := HBW.out.size; omega
      clear hV hK h1 h2
      go_simp
      (with_reducible refine (eplus p q s A6 A7 c6 c7 V r6 r7 (by omega) (by omega) HS.out).mono ?_); rintro _ _ ⟨_, rfl, x, y⟩; exact ⟨x.base hvs, y, x.mine⟩)
   | exact fun _ _ _ (h : Zl _ _ _ _ _) => h.cells
 . simp [YH, ZK, Zg, ZF, Zn]
   intro u1 u2 u3 u4 u5 V hV hK h1 h2 h3 h4 h5 bq _ _ _
   have HF := Hd h5
   obtain ⟨A6, c6, A7, c7, rfl, -⟩ := h5.form
   simp [Yd, Value.cells] at bq
   have k0 := bq.cell 0
   have k1 := bq.cell 1
   have k2 := bq.cell 2
   have k3 := bq.cell 3
   simp at k0 k1 k2 k3
   have HB9 := Hd (HBW.out.trans (hV.mono (by omega)))
   clear h1 h2 h3 h4 h5 hV hK bq
   go_wp2_with fail
   exact bodyPost_ret (by simp [results, Tryz.results200, go_sem, k0, k1, k2, k3]) rfl ⟨.agg #[.bool (decide (N < 0)), .slice A6 (Za N.natAbs).length c6, .bool (decide (D < 0)), .slice A7 (Za D.natAbs).length c7], rfl, by rw [HND.out.1, HND.out.2]; exact HF.out, HB9.out⟩

theorem ratio_Minus_z (n d m f : Int) (A B A2 B2 : Option Addr) (c e0 c2 e2 : Nat) (w : World) (h_x : Zm w A c (Za n.natAbs)) (k_x : Zm w B e0 (Za d.natAbs)) (h_y : Zm w A2 c2 (Za m.natAbs)) (k_y : Zm w B2 e2 (Za f.natAbs)) (hn : lz n <= 100000000) (hd : lz d <= 100000000) (hm : lz m <= 100000000) (hf : lz f <= 100000000) (h0 : d = 1) (h1 : f = 1) :
   Calls Tryz.prog 201 #[.agg #[.bool (decide (n < 0)), .slice A (Za n.natAbs).length c, .bool (decide (d < 0)), .slice B (Za d.natAbs).length e0], .agg #[.bool (decide (m < 0)), .slice A2 (Za m.natAbs).length c2, .bool (decide (f < 0)), .slice B2 (Za f.natAbs).length e2]] w (Z3 w.heap.size w (subN n d m f) (subD n d m f)) := by
 obtain ⟨p, hp⟩ : ∃ k : Int, k = n * f := ⟨_, rfl⟩
 obtain ⟨q, hq⟩ : ∃ k : Int, k = m * d := ⟨_, rfl⟩
 have hlp := lz_mul n f
 have hlq := lz_mul m d
 rw [<- hp] at hlp
 rw [<- hq] at hlq
 obtain ⟨s, hs⟩ : ∃ k : Int, k = p - q := ⟨_, rfl⟩
 have hls := lz_sub p q
 rw [<- hs] at hls
 obtain ⟨t, ht⟩ : ∃ k : Int, k = d * f := ⟨_, rfl⟩
 have hlt := lz_mul d f
 rw [<- ht] at hlt
 have HT0 := Hd (show t = 1 from by rw [ht, h0, h1]; decide)
 obtain ⟨N, hN⟩ : ∃ k : Int, k = YX s t := ⟨_, rfl⟩
 obtain ⟨D, hD⟩ : ∃ k : Int, k = YP s t := ⟨_, rfl⟩
 have HND := Hd (show subN n d m f = N /\ subD n d m f = D from by rw [hN, hD, hs, ht, hp, hq]; exact ⟨rfl, rfl⟩)
 have HS := Hd hs
 have HTT := Hd ht
 have HP := Hd hp
 have HQ := Hd hq
 clear hp hq
 have HLOW := Hd (And.intro hN hD)
 clear hs ht hN hD h0 h1
 have b0 := ((((Below.refl w.heap.size w).alloc (Nat.le_refl _) (.cells #[.bool (decide (n < 0)), .slice A (Za n.natAbs).length c, .bool (decide (d < 0)), .slice B (Za d.natAbs).length e0] 26)).alloc (by simp) (.cells #[.bool (decide (m < 0)), .slice A2 (Za m.natAbs).length c2, .bool (decide (f < 0)), .slice B2 (Za f.natAbs).length e2] 26)).alloc (by simp; omega) (.cells #[.bool false, .slice none 0 0, .bool false, .slice none 0 0] 26))
 have p0 := ((Zz.new w (.bool (decide (n < 0))) (.slice A (Za n.natAbs).length c) (.bool (decide (d < 0))) (.slice B (Za d.natAbs).length e0)).alloc (.cells #[.bool (decide (m < 0)), .slice A2 (Za m.natAbs).length c2, .bool (decide (f < 0)), .slice B2 (Za f.natAbs).length e2] 26)).alloc (.cells #[.bool false, .slice none 0 0, .bool false, .slice none 0 0] 26)
 have p1 := (Zz.new (w.alloc (.cells #[.bool (decide (n < 0)), .slice A (Za n.natAbs).length c, .bool (decide (d < 0)), .slice B (Za d.natAbs).length e0] 26)) (.bool (decide (m < 0))) (.slice A2 (Za m.natAbs).length c2) (.bool (decide (f < 0))) (.slice B2 (Za f.natAbs).length e2)).alloc (.cells #[.bool false, .slice none 0 0, .bool false, .slice none 0 0] 26)
 have p2 := Zz.new ((w.alloc (.cells #[.bool (decide (n < 0)), .slice A (Za n.natAbs).length c, .bool (decide (d < 0)), .slice B (Za d.natAbs).length e0] 26)).alloc (.cells #[.bool (decide (m < 0)), .slice A2 (Za m.natAbs).length c2, .bool (decide (f < 0)), .slice B2 (Za f.natAbs).length e2] 26)) (.bool false) (.slice none 0 0) (.bool false) (.slice none 0 0)
 simp only [World.size_alloc] at p1 p2
 have V_x := Hd (FV.mk p0 (h_x.below b0) (k_x.below b0))
 have KW_x := Hd k_x
 have V_y := Hd (FV.mk p1 (h_y.below b0) (k_y.below b0))
 have KW_y := Hd k_y
 have P_r0 := Hd p2
 have RW_x := Hd h_x
 have RW_y := Hd h_y
 have HBW := Hd b0
 clear b0 p0 p1 p2 h_x k_x h_y k_y
 go_enter Tryz.func201, Tryz.ntmps201
 obtain ⟨W, E⟩ : ∃ W, W = (((w.alloc (.cells #[.bool (decide (n < 0)), .slice A (Za n.natAbs).length c, .bool (decide (d < 0)), .slice B (Za d.natAbs).length e0] 26)).alloc (.cells #[.bool (decide (m < 0)), .slice A2 (Za m.natAbs).length c2, .bool (decide (f < 0)), .slice B2 (Za f.natAbs).length e2] 26)).alloc (.cells #[.bool false, .slice none 0 0, .bool false, .slice none 0 0] 26)) := ⟨_, rfl⟩
 go_upto_region 1 with fail
 rw [<- E] at V_x V_y P_r0 HBW ⊢
 clear E
 have hsz := P_r0.out.blk.lt
 go_wp2_with fail
 refine Zd [.val (.pointer (some ⟨w.heap.size, 0, none⟩)) [], .val (.agg #[.bool (decide (n < 0)), .slice A (Za n.natAbs).length c]) [], .val (.pointer (some ⟨w.heap.size + 1, 2, none⟩)) [], .val (.agg #[.bool (decide (f < 0)), .slice B2 (Za f.natAbs).length e2]) [], .any false (fun u V => Zc V 0 u p) [], .val (.pointer (some ⟨w.heap.size + 1, 0, none⟩)) [], .val (.agg #[.bool (decide (m < 0)), .slice A2 (Za m.natAbs).length c2]) [], .val (.pointer (some ⟨w.heap.size, 2, none⟩)) [], .val (.agg #[.bool (decide (d < 0)), .slice B (Za d.natAbs).length e0]) [], .any false (fun u V => Zc V 0 u q) [], .any true (fun u V => Zc V w.heap.size u s) [4, 9], .val (.pointer (some ⟨w.heap.size, 2, none⟩)) [], .val (.agg #[.bool (decide (d < 0)), .slice B (Za d.natAbs).length e0]) [], .val (.pointer (some ⟨w.heap.size + 1, 2, none⟩)) [], .val (.agg #[.bool (decide (f < 0)), .slice B2 (Za f.natAbs).length e2]) [], .any true (fun u V => Zc V w.heap.size u t) [], .any false (fun u V => Zl V w.heap.size u N D) [10, 15, 1010015], .old (w.heap.size + 1 + 1) 26 #[.bool false, .slice none 0 0, .bool false, .slice none 0 0] 0 4 16 []] (w.heap.size + 1 + 1) W [26] X6 _ Zf (by omega) (Below.refl _ _) (Zu.refl _ _ _) rfl ?_ ?_ ?_ ?_ ?_ ?_ ?_ ?_ rfl (by simp [ZP]) ?_ ?_ ?_ ?_
 iterate 8 kernel_rfl
 . simp only [Zy, and_true]
   exact ⟨fun u V V' h k => h.kept k (by decide), fun u V V' h k => h.kept k (by decide), fun u V V' h k => h.kept k (by decide), fun u V V' h k => h.kept k (by decide), fun u V V' h k => h.kept k (by decide)⟩
 . simp only [Z5, and_true]
   exact ⟨Nat.le_refl _, P_r0.out.blk.lt, P_r0.out.blk, by simp⟩
 . simp (maxSteps := 4000000) [ZH, YD, Zg, ZF, Zn]
   repeat' (first | apply And.intro | (intro (u : Value)) | (intro (u : Nat)))
   all_goals try exact ⟨_, _, _, rfl, rfl, rfl, rfl, YN⟩
   all_goals first
   | (intro V hV hK
      have qx : Zz V (w.heap.size) _ _ _ _ := ⟨V_x.out.quad.blk.below hV (by omega)⟩
      obtain ⟨-, a_x, b_x, c_x, d_x, -, -, -, -⟩ := qx.facts
      have qy : Zz V (w.heap.size + 1) _ _ _ _ := ⟨V_y.out.quad.blk.below hV (by omega)⟩
      obtain ⟨-, a_y, b_y, c_y, d_y, -, -, -, -⟩ := qy.facts
      have rn_x := Hd (RW_x.out.below (HBW.out.trans (hV.mono (by omega))))
      have rd_x := Hd (KW_x.out.below (HBW.out.trans (hV.mono (by omega))))
      have rn_y := Hd (RW_y.out.below (HBW.out.trans (hV.mono (by omega))))
      have rd_y := Hd (KW_y.out.below (HBW.out.trans (hV.mono (by omega))))
      have hvs : w.heap.size <= V.heap.size := by have := hV.size; have := HBW.out.size; omega
      clear hV hK qx qy
      go_simp
      first
      | exact Below.refl _ _
      | ((with_reducible refine (etimes n f p A B2 c e2 V rn_x.out rd_y.out (by omega) (by omega) HP.out).mono ?_); rintro e w' ⟨v, rfl, hv, hb⟩; first | exact ⟨hv.base (Nat.zero_le _), hb⟩ | exact ⟨hv.base hvs, hb, hv.mine⟩)
      | ((with_reducible refine (etimes m d q A2 B c2 e0 V rn_y.out rd_x.out (by omega) (by omega) HQ.out).mono ?_); rintro e w' ⟨v, rfl, hv, hb⟩; first | exact ⟨hv.base (Nat.zero_le _), hb⟩ | exact ⟨hv.base hvs, hb, hv.mine⟩)
      | ((with_reducible refine (etimes d f t B B2 e0 e2 V rd_x.out rd_y.out (by omega) (by omega) HTT.out).mono ?_); rintro e w' ⟨v, rfl, hv, hb⟩; first | exact ⟨hv.base (Nat.zero_le _), hb⟩ | exact ⟨hv.base hvs, hb, hv.mine⟩)
)
   | (intro V hV hK h1 h2 hq
      obtain ⟨A6, c6, rfl, -⟩ := h1.raw
      obtain ⟨A7, c7, rfl, -⟩ := h2.raw
      have hq2 : ∀ g, (Value.slice A6 (Za s.natAbs).length c6).ownBlock = some g -> (Value.slice A7 (Za t.natAbs).length c7).ownBlock ≠ some g := hq
      have hvs : w.heap.size <= V.heap.size := by have := hV.size; have := HBW.out.size; omega
      clear hV hK
      go_simp
      (with_reducible refine (efreshZ s t A6 A7 c6 c7 w.heap.size V h1 h2 hq2 hvs (by omega) (by omega) HT0.out).mono ?_); rintro e w' ⟨v, rfl, hv, hb⟩; rw [<- HLOW.out.1, <- HLOW.out.2] at hv; exact ⟨hv, hb⟩)
   | (intro V hV hK h1 h2
      obtain ⟨A6, c6, rfl, r6⟩ := h1.raw
      obtain ⟨A7, c7, rfl, r7⟩ := h2.raw
      have hvs : w.heap.size <= V.heap.size := by have := hV.size; have := HBW.out.size; omega
      clear hV hK h1 h2
      go_simp
      (with_reducible refine (eminus p q s A6 A7 c6 c7 V r6 r7 (by omega) (by omega) HS.out).mono ?_); rintro _ _ ⟨_, rfl, x, y⟩; exact ⟨x.base hvs, y, x.mine⟩)
   | exact fun _ _ _ (h : Zl _ _ _ _ _) => h.cells
 . simp [YH, ZK, Zg, ZF, Zn]
   intro u1 u2 u3 u4 u5 V hV hK h1 h2 h3 h4 h5 bq _ _ _
   have HF := Hd h5
   obtain ⟨A6, c6, A7, c7, rfl, -⟩ := h5.form
   simp [Yd, Value.cells] at bq
   have k0 := bq.cell 0
   have k1 := bq.cell 1
   have k2 := bq.cell 2
   have k3 := bq.cell 3
   simp at k0 k1 k2 k3
   have HB9 := Hd (HBW.out.trans (hV.mono (by omega)))
   clear h1 h2 h3 h4 h5 hV hK bq
   go_wp2_with fail
   exact bodyPost_ret (by simp [results, Tryz.results201, go_sem, k0, k1, k2, k3]) rfl ⟨.agg #[.bool (decide (N < 0)), .slice A6 (Za N.natAbs).length c6, .bool (decide (D < 0)), .slice A7 (Za D.natAbs).length c7], rfl, by rw [HND.out.1, HND.out.2]; exact HF.out, HB9.out⟩

theorem ratio_Times_z (n d m f : Int) (A B A2 B2 : Option Addr) (c e0 c2 e2 : Nat) (w : World) (h_x : Zm w A c (Za n.natAbs)) (k_x : Zm w B e0 (Za d.natAbs)) (h_y : Zm w A2 c2 (Za m.natAbs)) (k_y : Zm w B2 e2 (Za f.natAbs)) (hn : lz n <= 100000000) (hd : lz d <= 100000000) (hm : lz m <= 100000000) (hf : lz f <= 100000000) (h0 : d = 1) (h1 : f = 1) :
   Calls Tryz.prog 199 #[.agg #[.bool (decide (n < 0)), .slice A (Za n.natAbs).length c, .bool (decide (d < 0)), .slice B (Za d.natAbs).length e0], .agg #[.bool (decide (m < 0)), .slice A2 (Za m.natAbs).length c2, .bool (decide (f < 0)), .slice B2 (Za f.natAbs).length e2]] w (Z3 w.heap.size w (mulN n d m f) (mulD n d m f)) := by
 obtain ⟨s, hs⟩ : ∃ k : Int, k = n * m := ⟨_, rfl⟩
 have hls := lz_mul n m
 rw [<- hs] at hls
 obtain ⟨t, ht⟩ : ∃ k : Int, k = d * f := ⟨_, rfl⟩
 have hlt := lz_mul d f
 rw [<- ht] at hlt
 have HT0 := Hd (show t = 1 from by rw [ht, h0, h1]; decide)
 obtain ⟨N, hN⟩ : ∃ k : Int, k = YX s t := ⟨_, rfl⟩
 obtain ⟨D, hD⟩ : ∃ k : Int, k = YP s t := ⟨_, rfl⟩
 have HND := Hd (show mulN n d m f = N /\ mulD n d m f = D from by rw [hN, hD, hs, ht]; exact ⟨rfl, rfl⟩)
 have HS := Hd hs
 have HTT := Hd ht
 have HLOW := Hd (And.intro hN hD)
 clear hs ht hN hD h0 h1
 have b0 := ((((Below.refl w.heap.size w).alloc (Nat.le_refl _) (.cells #[.bool (decide (n < 0)), .slice A (Za n.natAbs).length c, .bool (decide (d < 0)), .slice B (Za d.natAbs).length e0] 26)).alloc (by simp) (.cells #[.bool (decide (m < 0)), .slice A2 (Za m.natAbs).length c2, .bool (decide (f < 0)), .slice B2 (Za f.natAbs).length e2] 26)).alloc (by simp; omega) (.cells #[.bool false, .slice none 0 0, .bool false, .slice none 0 0] 26))
 have p0 := ((Zz.new w (.bool (decide (n < 0))) (.slice A (Za n.natAbs).length c) (.bool (decide (d < 0))) (.slice B (Za d.natAbs).length e0)).alloc (.cells #[.bool (decide (m < 0)), .slice A2 (Za m.natAbs).length c2, .bool (decide (f < 0)), .slice B2 (Za f.natAbs).length e2] 26)).alloc (.cells #[.bool false, .slice none 0 0, .bool false, .slice none 0 0] 26)
 have p1 := (Zz.new (w.alloc (.cells #[.bool (decide (n < 0)), .slice A (Za n.natAbs).length c, .bool (decide (d < 0)), .slice B (Za d.natAbs).length e0] 26)) (.bool (decide (m < 0))) (.slice A2 (Za m.natAbs).length c2) (.bool (decide (f < 0))) (.slice B2 (Za f.natAbs).length e2)).alloc (.cells #[.bool false, .slice none 0 0, .bool false, .slice none 0 0] 26)
 have p2 := Zz.new ((w.alloc (.cells #[.bool (decide (n < 0)), .slice A (Za n.natAbs).length c, .bool (decide (d < 0)), .slice B (Za d.natAbs).length e0] 26)).alloc (.cells #[.bool (decide (m < 0)), .slice A2 (Za m.natAbs).length c2, .bool (decide (f < 0)), .slice B2 (Za f.natAbs).length e2] 26)) (.bool false) (.slice none 0 0) (.bool false) (.slice none 0 0)
 simp only [World.size_alloc] at p1 p2
 have V_x := Hd (FV.mk p0 (h_x.below b0) (k_x.below b0))
 have KW_x := Hd k_x
 have V_y := Hd (FV.mk p1 (h_y.below b0) (k_y.below b0))
 have KW_y := Hd k_y
 have P_r0 := Hd p2
 have RW_x := Hd h_x
 have RW_y := Hd h_y
 have HBW := Hd b0
 clear b0 p0 p1 p2 h_x k_x h_y k_y
 go_enter Tryz.func199, Tryz.ntmps199
 obtain ⟨W, E⟩ : ∃ W, W = (((w.alloc (.cells #[.bool (decide (n < 0)), .slice A (Za n.natAbs).length c, .bool (decide (d < 0)), .slice B (Za d.natAbs).length e0] 26)).alloc (.cells #[.bool (decide (m < 0)), .slice A2 (Za m.natAbs).length c2, .bool (decide (f < 0)), .slice B2 (Za f.natAbs).length e2] 26)).alloc (.cells #[.bool false, .slice none 0 0, .bool false, .slice none 0 0] 26)) := ⟨_, rfl⟩
 go_upto_region 1 with fail
 rw [<- E] at V_x V_y P_r0 HBW ⊢
 clear E
 have hsz := P_r0.out.blk.lt
 go_wp2_with fail
 refine Zd [.val (.pointer (some ⟨w.heap.size, 0, none⟩)) [], .val (.agg #[.bool (decide (n < 0)), .slice A (Za n.natAbs).length c]) [], .val (.pointer (some ⟨w.heap.size + 1, 0, none⟩)) [], .val (.agg #[.bool (decide (m < 0)), .slice A2 (Za m.natAbs).length c2]) [], .any true (fun u V => Zc V w.heap.size u s) [], .val (.pointer (some ⟨w.heap.size, 2, none⟩)) [], .val (.agg #[.bool (decide (d < 0)), .slice B (Za d.natAbs).length e0]) [], .val (.pointer (some ⟨w.heap.size + 1, 2, none⟩)) [], .val (.agg #[.bool (decide (f < 0)), .slice B2 (Za f.natAbs).length e2]) [], .any true (fun u V => Zc V w.heap.size u t) [], .any false (fun u V => Zl V w.heap.size u N D) [4, 9, 1004009], .old (w.heap.size + 1 + 1) 26 #[.bool false, .slice none 0 0, .bool false, .slice none 0 0] 0 4 10 []] (w.heap.size + 1 + 1) W [26] X6 _ Zf (by omega) (Below.refl _ _) (Zu.refl _ _ _) rfl ?_ ?_ ?_ ?_ ?_ ?_ ?_ ?_ rfl (by simp [ZP]) ?_ ?_ ?_ ?_
 iterate 8 kernel_rfl
 . simp only [Zy, and_true]
   exact ⟨fun u V V' h k => h.kept k (by decide), fun u V V' h k => h.kept k (by decide), fun u V V' h k => h.kept k (by decide)⟩
 . simp only [Z5, and_true]
   exact ⟨Nat.le_refl _, P_r0.out.blk.lt, P_r0.out.blk, by simp⟩
 . simp (maxSteps := 4000000) [ZH, YD, Zg, ZF, Zn]
   repeat' (first | apply And.intro | (intro (u : Value)) | (intro (u : Nat)))
   all_goals try exact ⟨_, _, _, rfl, rfl, rfl, rfl, YN⟩
   all_goals first
   | (intro V hV hK
      have qx : Zz V (w.heap.size) _ _ _ _ := ⟨V_x.out.quad.blk.below hV (by omega)⟩
      obtain ⟨-, a_x, b_x, c_x, d_x, -, -, -, -⟩ := qx.facts
      have qy : Zz V (w.heap.size + 1) _ _ _ _ := ⟨V_y.out.quad.blk.below hV (by omega)⟩
      obtain ⟨-, a_y, b_y, c_y, d_y, -, -, -, -⟩ := qy.facts
      have rn_x := Hd (RW_x.out.below (HBW.out.trans (hV.mono (by omega))))
      have rd_x := Hd (KW_x.out.below (HBW.out.trans (hV.mono (by omega))))
      have rn_y := Hd (RW_y.out.below (HBW.out.trans (hV.mono (by omega))))
      have rd_y := Hd (KW_y.out.below (HBW.out.trans (hV.mono (by omega))))
      have hvs : w.heap.size <= V.heap.size := by have := hV.size; have := HBW.out.size; omega
      clear hV hK qx qy
      go_simp
      first
      | exact Below.refl _ _
      | ((with_reducible refine (etimes n m s A A2 c c2 V rn_x.out rn_y.out (by omega) (by omega) HS.out).mono ?_); rintro e w' ⟨v, rfl, hv, hb⟩; first | exact ⟨hv.base (Nat.zero_le _), hb⟩ | exact ⟨hv.base hvs, hb, hv.mine⟩)
      | ((with_reducible refine (etimes d f t B B2 e0 e2 V rd_x.out rd_y.out (by omega) (by omega) HTT.out).mono ?_); rintro e w' ⟨v, rfl, hv, hb⟩; first | exact ⟨hv.base (Nat.zero_le _), hb⟩ | exact ⟨hv.base hvs, hb, hv.mine⟩)
)
   | (intro V hV hK h1 h2 hq
      obtain ⟨A6, c6, rfl, -⟩ := h1.raw
      obtain ⟨A7, c7, rfl, -⟩ := h2.raw
      have hq2 : ∀ g, (Value.slice A6 (Za s.natAbs).length c6).ownBlock = some g -> (Value.slice A7 (Za t.natAbs).length c7).ownBlock ≠ some g := hq
      have hvs : w.heap.size <= V.heap.size := by have := hV.size; have := HBW.out.size; omega
      clear hV hK
      go_simp
      (with_reducible refine (efreshZ s t A6 A7 c6 c7 w.heap.size V h1 h2 hq2 hvs (by omega) (by omega) HT0.out).mono ?_); rintro e w' ⟨v, rfl, hv, hb⟩; rw [<- HLOW.out.1, <- HLOW.out.2] at hv; exact ⟨hv, hb⟩)
   | exact fun _ _ _ (h : Zl _ _ _ _ _) => h.cells
 . simp [YH, ZK, Zg, ZF, Zn]
   intro u1 u2 u3 V hV hK h1 h2 h3 bq _ _ _
   have HF := Hd h3
   obtain ⟨A6, c6, A7, c7, rfl, -⟩ := h3.form
   simp [Yd, Value.cells] at bq
   have k0 := bq.cell 0
   have k1 := bq.cell 1
   have k2 := bq.cell 2
   have k3 := bq.cell 3
   simp at k0 k1 k2 k3
   have HB9 := Hd (HBW.out.trans (hV.mono (by omega)))
   clear h1 h2 h3 hV hK bq
   go_wp2_with fail
   exact bodyPost_ret (by simp [results, Tryz.results199, go_sem, k0, k1, k2, k3]) rfl ⟨.agg #[.bool (decide (N < 0)), .slice A6 (Za N.natAbs).length c6, .bool (decide (D < 0)), .slice A7 (Za D.natAbs).length c7], rfl, by rw [HND.out.1, HND.out.2]; exact HF.out, HB9.out⟩

theorem small_z {n d : Int} (hn1 : -9223372036854775808 <= n) (hn2 : n <= 9223372036854775807) (hd1 : -9223372036854775808 <= d) (hd2 : d <= 9223372036854775807) (hd0 : d = 1) (w : World)   :
  Calls Tryz.prog 97 #[.int .i64 n, .int .i64 d] w (Z3 w.heap.size w (YX n d) (YP n d)) := by
 have D1 := fun (V : World) => eof n n rfl hn1 hn2 V
 have D2 := fun (V : World) => eof d d rfl hd1 hd2 V
 have l1 : lz n <= 400000000 := Nat.le_trans (lz_i64 hn1 hn2) (by decide)
 have l2 : lz d <= 400000000 := Nat.le_trans (lz_i64 hd1 hd2) (by decide)
 obtain ⟨N, hN⟩ : ∃ k : Int, k = YX n d := ⟨_, rfl⟩
 obtain ⟨D, hD⟩ : ∃ k : Int, k = YP n d := ⟨_, rfl⟩
 rw [<- hN, <- hD]
 have HLOW := Hd (And.intro hN hD)
 have H1 := Hd D1
 have H2 := Hd D2
 have H0 := Hd hd0
 clear hn1 hn2 hd1 hd2 hd0 D1 D2 hN hD
 go_enter Tryz.func97, Tryz.ntmps97
 go_upto_region 1 with fail
 refine Zp (P := fun W => Code.wp _ _ _ _ W) fun W p0 b0 => ?_
 have PR := Hd (Zz.mk p0)
 have HB := Hd b0
 clear b0 p0
 go_wp2_with fail
 refine (H1.out W).mono ?_
 rintro e wx1 ⟨v, rfl, hI, hb⟩
 obtain ⟨A6, c6, rfl, -⟩ := hI.raw
 have I1 := Hd (hI.base HB.out.size)
 have M1 := Hd (show ∀ g, (Value.slice A6 (Za n.natAbs).length c6).ownBlock = some g -> g < wx1.heap.size from fun g hg => (hI.mine g hg).2)
 clear hI
 have PR := Hd (PR.out.below hb)
 have HB := Hd (Zb HB.out hb)
 clear hb
 go_wp2_with fail
 refine (H2.out wx1).mono ?_
 rintro e wx2 ⟨v, rfl, hI, hb⟩
 obtain ⟨A7, c7, rfl, -⟩ := hI.raw
 have I2 := Hd (hI.base HB.out.size)
 have HQ2 := Hd (show ∀ g, (Value.slice A6 (Za n.natAbs).length c6).ownBlock = some g -> (Value.slice A7 (Za d.natAbs).length c7).ownBlock ≠ some g from fun g hg hg2 => by have a := M1.out g hg; have b := (hI.mine g hg2).1; omega)
 clear hI
 have PR := Hd (PR.out.below hb)
 have I1 := Hd (I1.out.below hb)
 have HB := Hd (Zb HB.out hb)
 clear hb
 go_wp2_with fail
 refine (show Calls Tryz.prog 169 _ _ (Z3 w.heap.size wx2 N D) from by rw [HLOW.out.1, HLOW.out.2]; exact efreshZ n d A6 A7 c6 c7 w.heap.size wx2 I1.out I2.out HQ2.out HB.out.size l1 l2 H0.out).mono ?_
 rintro e w9 ⟨v, rfl, hI, hb⟩
 have HI := Hd hI
 obtain ⟨A6, c6, A7, c7, rfl, -⟩ := hI.form
 have pr := PR.out.below hb
 have hb9 := Zb HB.out hb
 obtain ⟨l_r, r0, r1, r2, r3, f0, f1, f2, f3⟩ := pr.facts
 have HQ := Hd (pr.store (.bool (decide (N < 0))) (.slice A6 (Za N.natAbs).length c6) (.bool (decide (D < 0))) (.slice A7 (Za D.natAbs).length c7))
 have HB9 := Hd (YR hb9 (show w.heap.size <= w.heap.size by omega) (.bool (decide (N < 0))) (.slice A6 (Za N.natAbs).length c6) (.bool (decide (D < 0))) (.slice A7 (Za D.natAbs).length c7))
 have HF := Hd (HI.out.quad pr (.bool (decide (N < 0))) (.slice A6 (Za N.natAbs).length c6) (.bool (decide (D < 0))) (.slice A7 (Za D.natAbs).length c7))
 clear hb hb9 pr hI
 go_wp2_with fail
 obtain ⟨_, k0, k1, k2, k3, _, _, _, _⟩ := HQ.out.facts
 exact bodyPost_ret (by simp [results, Tryz.results97, go_sem, k0, k1, k2, k3]) rfl ⟨_, rfl, HF.out, HB9.out⟩

theorem small_zi {n d : Int} (hn1 : -9223372036854775808 <= n) (hn2 : n <= 9223372036854775807) (hd1 : -9223372036854775808 <= d) (hd2 : d <= 9223372036854775807) (hd0 : d = 1) (w : World)   :
  Calls Tryz.prog 192 #[.int .i64 n, .int .i64 d] w (Ya w (YX n d) (YP n d)) := by
 have D1 := fun (V : World) => rof n n rfl hn1 hn2 V
 have D2 := fun (V : World) => rof d d rfl hd1 hd2 V
 have l1 : lz n <= 30000 := Nat.le_trans (lz_i64 hn1 hn2) (by decide)
 have l2 : lz d <= 30000 := Nat.le_trans (lz_i64 hd1 hd2) (by decide)
 obtain ⟨N, hN⟩ : ∃ k : Int, k = YX n d := ⟨_, rfl⟩
 obtain ⟨D, hD⟩ : ∃ k : Int, k = YP n d := ⟨_, rfl⟩
 rw [<- hN, <- hD]
 have HLOW := Hd (And.intro hN hD)
 have H1 := Hd D1
 have H2 := Hd D2
 have H0 := Hd (show 0 < d by omega)
 clear hn1 hn2 hd1 hd2 hd0 D1 D2 hN hD
 go_enter Tryz.func192, Tryz.ntmps192
 go_upto_region 1 with fail
 refine Zp (P := fun W => Code.wp _ _ _ _ W) fun W p0 b0 => ?_
 have PR := Hd (Zz.mk p0)
 have HB := Hd b0
 clear b0 p0
 go_wp2_with fail
 refine (H1.out W).mono ?_
 rintro e wx1 ⟨v, rfl, hI, hb⟩
 obtain ⟨A6, c6, rfl, -⟩ := hI.raw
 have I1 := Hd (hI.base (Nat.zero_le _))
 clear hI
 have PR := Hd (PR.out.below hb)
 have HB := Hd (Zb HB.out hb)
 clear hb
 go_wp2_with fail
 refine (H2.out wx1).mono ?_
 rintro e wx2 ⟨v, rfl, hI, hb⟩
 obtain ⟨A7, c7, rfl, -⟩ := hI.raw
 have I2 := Hd (hI.base (Nat.zero_le _))
 clear hI
 have PR := Hd (PR.out.below hb)
 have I1 := Hd (I1.out.below hb)
 have HB := Hd (Zb HB.out hb)
 clear hb
 go_wp2_with fail
 refine (show Calls Tryz.prog 189 _ _ (Ya wx2 N D) from by rw [HLOW.out.1, HLOW.out.2]; exact rlowP n d A6 A7 c6 c7 wx2 I1.out.rawAt I2.out.rawAt l1 l2 H0.out).mono ?_
 rintro e w9 ⟨v, rfl, hI, hb⟩
 have HI := Hd hI
 obtain ⟨A6, c6, A7, c7, rfl, -⟩ := hI.form
 have pr := PR.out.below hb
 have hb9 := Zb HB.out hb
 obtain ⟨l_r, r0, r1, r2, r3, f0, f1, f2, f3⟩ := pr.facts
 have HQ := Hd (pr.store (.bool (decide (N < 0))) (.slice A6 (Za N.natAbs).length c6) (.bool (decide (D < 0))) (.slice A7 (Za D.natAbs).length c7))
 have HB9 := Hd (YR hb9 (show w.heap.size <= w.heap.size by omega) (.bool (decide (N < 0))) (.slice A6 (Za N.natAbs).length c6) (.bool (decide (D < 0))) (.slice A7 (Za D.natAbs).length c7))
 have HF := Hd (HI.out.quad pr (.bool (decide (N < 0))) (.slice A6 (Za N.natAbs).length c6) (.bool (decide (D < 0))) (.slice A7 (Za D.natAbs).length c7))
 clear hb hb9 pr hI
 go_wp2_with fail
 obtain ⟨_, k0, k1, k2, k3, _, _, _, _⟩ := HQ.out.facts
 exact bodyPost_ret (by simp [results, Tryz.results192, go_sem, k0, k1, k2, k3]) rfl ⟨_, rfl, HF.out, HB9.out⟩

theorem one_refz {N D : Int} (hN : N = 1) (hD : D = 1) (w : World)   :
  Calls Tryz.prog 191 #[] w (Ya w N D) := by
 have D1 := fun (V : World) => small_zi (n := 1) (d := 1) (by decide) (by decide) (by decide) (by decide) (by decide) V
 rw [show YX 1 1 = 1 by decide +kernel, show YP 1 1 = 1 by decide +kernel] at D1
 have D1 : ∀ V : World, Calls Tryz.prog 192 #[.int .i64 1, .int .i64 1] V (Ya V N D) := by rw [hN, hD]; exact D1
 have H1 := Hd D1
 clear D1 hN hD
 go_enter Tryz.func191, Tryz.ntmps191
 go_upto_region 1 with fail
 refine Zp (P := fun W => Code.wp _ _ _ _ W) fun W p0 b0 => ?_
 have PR := Hd (Zz.mk p0)
 have HB := Hd b0
 clear b0 p0
 go_wp2_with fail
 refine (H1.out W).mono ?_
 rintro e w9 ⟨v, rfl, hI, hb⟩
 have HI := Hd hI
 obtain ⟨A6, c6, A7, c7, rfl, -⟩ := hI.form
 have pr := PR.out.below hb
 have hb9 := Zb HB.out hb
 obtain ⟨l_r, r0, r1, r2, r3, f0, f1, f2, f3⟩ := pr.facts
 have HQ := Hd (pr.store (.bool (decide (N < 0))) (.slice A6 (Za N.natAbs).length c6) (.bool (decide (D < 0))) (.slice A7 (Za D.natAbs).length c7))
 have HB9 := Hd (YR hb9 (show w.heap.size <= w.heap.size by omega) (.bool (decide (N < 0))) (.slice A6 (Za N.natAbs).length c6) (.bool (decide (D < 0))) (.slice A7 (Za D.natAbs).length c7))
 have HF := Hd (HI.out.quad pr (.bool (decide (N < 0))) (.slice A6 (Za N.natAbs).length c6) (.bool (decide (D < 0))) (.slice A7 (Za D.natAbs).length c7))
 clear hb hb9 pr hI
 go_wp2_with fail
 obtain ⟨_, k0, k1, k2, k3, _, _, _, _⟩ := HQ.out.facts
 exact bodyPost_ret (by simp [results, Tryz.results191, go_sem, k0, k1, k2, k3]) rfl ⟨_, rfl, HF.out, HB9.out⟩

theorem low_z (n : Int) : YX n 1 = n /\ YP n 1 = 1 := by
 unfold YX YP
 rw [if_neg (by decide), if_neg (by decide), gcd_unit]
 simp
section
variable {n m N : Int} (l1 : lz n <= 1000) (l2 : lz m <= 1000)
include l1 l2
theorem zplus (hN : N = n + m) : OpR 200 n 1 m 1 N 1 := by
 intro V v1 v2 g1 g2
 obtain ⟨A, c, B, e0, rfl, a1, a2⟩ := g1.form
 obtain ⟨A2, c2, B2, e2, rfl, a3, a4⟩ := g2.form
 have l3 : lz (1 : Int) <= 1 := by decide
 have k := ratio_Plus_z n 1 m 1 A B A2 B2 c e0 c2 e2 V a1 a2 a3 a4 (by omega) (by omega) (by omega) (by omega) rfl rfl
 rw [show addN n 1 m 1 = N by unfold addN; rw [Int.mul_one, Int.mul_one, Int.mul_one, (low_z _).1, hN], show addD n 1 m 1 = 1 by unfold addD; rw [Int.mul_one, Int.mul_one, Int.mul_one, (low_z _).2]] at k
 exact k
theorem zminus (hN : N = n - m) : OpR 201 n 1 m 1 N 1 := by
 intro V v1 v2 g1 g2
 obtain ⟨A, c, B, e0, rfl, a1, a2⟩ := g1.form
 obtain ⟨A2, c2, B2, e2, rfl, a3, a4⟩ := g2.form
 have l3 : lz (1 : Int) <= 1 := by decide
 have k := ratio_Minus_z n 1 m 1 A B A2 B2 c e0 c2 e2 V a1 a2 a3 a4 (by omega) (by omega) (by omega) (by omega) rfl rfl
 rw [show subN n 1 m 1 = N by unfold subN; rw [Int.mul_one, Int.mul_one, Int.mul_one, (low_z _).1, hN], show subD n 1 m 1 = 1 by unfold subD; rw [Int.mul_one, Int.mul_one, Int.mul_one, (low_z _).2]] at k
 exact k
theorem ztimes (hN : N = n * m) : OpR 199 n 1 m 1 N 1 := by
 intro V v1 v2 g1 g2
 obtain ⟨A, c, B, e0, rfl, a1, a2⟩ := g1.form
 obtain ⟨A2, c2, B2, e2, rfl, a3, a4⟩ := g2.form
 have l3 : lz (1 : Int) <= 1 := by decide
 have k := ratio_Times_z n 1 m 1 A B A2 B2 c e0 c2 e2 V a1 a2 a3 a4 (by omega) (by omega) (by omega) (by omega) rfl rfl
 rw [show mulN n 1 m 1 = N by unfold mulN; rw [Int.mul_one, (low_z _).1, hN], show mulD n 1 m 1 = 1 by unfold mulD; rw [Int.mul_one, (low_z _).2]] at k
 exact k
end
end Go.Proofs.YtdonecnhdkjniaaGreatDoor
