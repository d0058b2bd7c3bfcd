/- Several texts in one: FRingPlain, Rat, LowFresh, TreesOwn, TreesR. -/
import Derived.Test.YtdonecnhdkjniaaGreatDoorGy22
set_option maxRecDepth 100000
set_option maxHeartbeats 8000000
namespace Go.Proofs.YtdonecnhdkjniaaGreatDoor
open Go.RowKit


structure Is (q : Rat) (n d : Int) : Prop where
 num : q.num = n
 den : (q.den : Int) = d
theorem Is.pos {q : Rat} {n d : Int} (h : Is q n d) : 0 < d := by
 have := q.den_pos
 rw [<- h.den]
 omega
theorem Is.low {q : Rat} {n d : Int} (h : Is q n d) : ZK n d = 1 := by
 have := q.reduced
 unfold ZK
 rw [<- h.num, <- h.den, Int.natAbs_natCast]
 exact congrArg (fun k : Nat => (k : Int)) this
theorem Is.of (q : Rat) : Is q q.num q.den := ⟨rfl, rfl⟩
theorem Is.eq {q : Rat} {n d : Int} (h : Is q n d) : q = Rat.divInt n d := by
 rw [<- h.num, <- h.den, Rat.num_divInt_den]
theorem Is.one {a b : Rat} {n d m f : Int} (h : Is a n d) (g : Is b m f) : a = b ↔ n = m /\ d = f := by
 constructor
 . rintro rfl
   exact ⟨h.num.symm.trans g.num, h.den.symm.trans g.den⟩
 . rintro ⟨rfl, rfl⟩
   rw [h.eq, g.eq]
theorem Is.uniq {q : Rat} {n d m f : Int} (h : Is q n d) (g : Is q m f) : n = m /\ d = f := (h.one g).1 rfl
theorem is_of {n d : Int} (hd : 0 < d) (hg : ZK n d = 1) : Is (Rat.divInt n d) n d := by
 have hc : Nat.Coprime n.natAbs d.natAbs := by
  unfold ZK at hg
  exact_mod_cast hg
 have e : Rat.divInt n d = ⟨n, d.natAbs, by omega, hc⟩ := by
  rw [Rat.mk_eq_divInt, show ((d.natAbs : Nat) : Int) = d by omega]
 rw [e]
 exact ⟨rfl, by show ((d.natAbs : Nat) : Int) = d; omega⟩
theorem low_neg {n d : Int} (hd : d < 0) : Yx n d = Yx (-n) (-d) /\ Yt n d = Yt (-n) (-d) := by
 unfold Yx Yt
 have eg : ZK (-n) (-d) = ZK n d := by unfold ZK; rw [Int.natAbs_neg, Int.natAbs_neg]
 rw [if_pos hd, if_pos hd, if_neg (by omega), if_neg (by omega), eg, Int.neg_tdiv, Int.neg_tdiv]
 exact ⟨rfl, rfl⟩
theorem is_low (n : Int) {d : Int} (hd : d ≠ 0) : Is (Rat.divInt n d) (Yx n d) (Yt n d) := by
 have key : ∀ (n : Int) {d : Int}, 0 < d -> Is (Rat.divInt n d) (Yx n d) (Yt n d) := fun n d hd => by
   have e : Rat.divInt n d = Rat.divInt (Yx n d) (Yt n d) := by
    have h2 := lowD_pos n hd
    rw [Rat.divInt_eq_divInt_iff (by omega) (by omega)]
    exact (low_cross n hd).symm
   rw [e]
   exact is_of (lowD_pos n hd) (low_one n hd)
 rcases Int.lt_or_gt_of_ne hd with h | h
 . rw [(low_neg h).1, (low_neg h).2, <- Rat.neg_divInt_neg]
   exact key _ (by omega)
 . exact key _ h
section
variable {a b : Rat} {n d m f : Int} (h : Is a n d) (g : Is b m f)
include h g
theorem is_add : Is (a + b) (addN n d m f) (addD n d m f) := by
 have h1 := h.pos
 have h2 := g.pos
 rw [h.eq, g.eq, Rat.divInt_add_divInt _ _ (by omega) (by omega)]
 exact is_low _ (Int.mul_ne_zero (by omega) (by omega))
theorem is_sub : Is (a - b) (subN n d m f) (subD n d m f) := by
 have h1 := h.pos
 have h2 := g.pos
 rw [h.eq, g.eq, Rat.divInt_sub_divInt _ _ (by omega) (by omega)]
 exact is_low _ (Int.mul_ne_zero (by omega) (by omega))
theorem is_mul : Is (a * b) (mulN n d m f) (mulD n d m f) := by
 have h1 := h.pos
 have h2 := g.pos
 rw [h.eq, g.eq, Rat.divInt_mul_divInt]
 exact is_low _ (Int.mul_ne_zero (by omega) (by omega))
end
theorem Is.nought {q : Rat} {n d : Int} (h : Is q n d) : n = 0 ↔ q = 0 := by rw [<- Rat.num_eq_zero, h.num]
theorem is_int (z : Int) : Is (z : Rat) z 1 := ⟨rfl, rfl⟩
theorem fine_is {n d : Int} (f : Jh n d) : Is (Rat.divInt n d) n d := is_of f.pos f.low
theorem Is.fine {q : Rat} {n d : Int} (h : Is q n d) (h1 : lz n <= 2048) (h2 : lz d <= 2048) : Jh n d := by
 have f1 : Fit n := h1
 have f2 : Fit d := h2
 refine ⟨?_, h1, h2, h.pos, h.low⟩
 unfold XU mkOk
 rw [f1.ok, f2.ok, YN, YN]
 simp only [Bool.and_self, if_true]
 rw [if_pos ⟨h.pos, h.low⟩]

theorem efresh_one_neg (n d : Int) (A B : Option Addr) (c e0 b : Nat) (w : World) (h_n : Zr w A c (Za n.natAbs)) (h_d : Zr w B e0 (Za d.natAbs)) (o_n : Zc w b (.agg #[.bool (decide (n < 0)), .slice A (Za n.natAbs).length c]) n) (o_d : Zc w b (.agg #[.bool (decide (d < 0)), .slice B (Za d.natAbs).length e0]) d) (hap : ∀ g, (Value.slice A (Za n.natAbs).length c).ownBlock = some g -> (Value.slice B (Za d.natAbs).length e0).ownBlock ≠ some g) (hbw : b <= w.heap.size) (hn : lz n <= 400000000) (hd : lz d <= 400000000) (hd0 : d ≠ 0) (hs0 : d < 0) (hgc : ZK n d = 1) :
   Calls Tryz.prog 169 #[.agg #[.bool (decide (n < 0)), .slice A (Za n.natAbs).length c], .agg #[.bool (decide (d < 0)), .slice B (Za d.natAbs).length e0]] w (ZE b w (Yx n d) (Yt n d)) := by
 obtain ⟨g, hg⟩ : ∃ k : Int, k = ZK n d := ⟨_, rfl⟩
 obtain ⟨one, hone⟩ : ∃ k : Int, k = 1 := ⟨_, rfl⟩
 obtain ⟨q, hq⟩ : ∃ k : Int, k = n.tdiv g := ⟨_, rfl⟩
 obtain ⟨r, hr⟩ : ∃ k : Int, k = n.tmod g := ⟨_, rfl⟩
 obtain ⟨p, hp⟩ : ∃ k : Int, k = d.tdiv g := ⟨_, rfl⟩
 obtain ⟨s, hs⟩ : ∃ k : Int, k = d.tmod g := ⟨_, rfl⟩
 obtain ⟨q', hq'⟩ : ∃ k : Int, k = -q := ⟨_, rfl⟩
 obtain ⟨p', hp'⟩ : ∃ k : Int, k = -p := ⟨_, rfl⟩
 have hgp := YX (n := n) hd0
 have hgl := XH (n := n) hd0
 rw [<- hg] at hgp hgl hgc
 have hql : lz q <= lz n := by rw [hq]; exact YY n g
 have hpl : lz p <= lz d := by rw [hp]; exact YY d g
 have hps : p.sign = d.sign := by rw [hp, hg]; exact tdiv_sign hd0
 have hol : lz one <= 2 := by rw [hone]; decide
 obtain ⟨sg, hsg⟩ : ∃ k : Int, k = p.sign := ⟨_, rfl⟩
 have HSG := Hd hsg
 have HSN := Hd (show decide (sg < 0) = true from by
   rw [hsg, hps]
   exact decide_eq_true (by rw [Int.sign_eq_neg_one_of_neg hs0]; decide))
 have HG := Hd (show g = ((Nat.gcd n.natAbs d.natAbs : Nat) : Int) from hg)
 have H1 := Hd hone
 have HG0 := Hd (show g ≠ 0 from by omega)
 have HQ := Hd (And.intro hq hr)
 have HP := Hd (And.intro hp hs)
 have HN1 := Hd hq'
 have HN2 := Hd hp'
 have HK := Hd (show (0 : Int) = Xw g one from by rw [hone]; rw [hgc]; decide)
 have HLN := Hd (show Yx n d = q' /\ Yt n d = p' from by
   unfold Yx Yt
   rw [if_pos hs0, if_pos hs0, <- hg, <- hq, <- hp, hq', hp']
   exact ⟨rfl, rfl⟩)
 have HQN := Hd (show q = n /\ p = d from by rw [hq, hp, hgc]; exact ⟨Int.tdiv_one _, Int.tdiv_one _⟩)
 have OW_n := Hd o_n
 have OW_d := Hd o_d
 have HAP := Hd hap
 have _ := hbw
 clear o_n o_d hap
 clear hgc hg hone hq hr hp hs hq' hp' hs0 hsg hps hd0
 have b0 := ((((Below.refl w.heap.size w).alloc (Nat.le_refl _) (.cells #[.bool (decide (n < 0)), .slice A (Za n.natAbs).length c] 24)).alloc (by simp) (.cells #[.bool (decide (d < 0)), .slice B (Za d.natAbs).length e0] 24)).alloc (by simp; omega) (.cells #[.bool false, .slice none 0 0, .bool false, .slice none 0 0] 26))
 have p0 := ((Zp.new w 24 (.bool (decide (n < 0))) (.slice A (Za n.natAbs).length c)).alloc (.cells #[.bool (decide (d < 0)), .slice B (Za d.natAbs).length e0] 24)).alloc (.cells #[.bool false, .slice none 0 0, .bool false, .slice none 0 0] 26)
 have p1 := (Zp.new (w.alloc (.cells #[.bool (decide (n < 0)), .slice A (Za n.natAbs).length c] 24)) 24 (.bool (decide (d < 0))) (.slice B (Za d.natAbs).length e0)).alloc (.cells #[.bool false, .slice none 0 0, .bool false, .slice none 0 0] 26)
 have p2 := Zw.new ((w.alloc (.cells #[.bool (decide (n < 0)), .slice A (Za n.natAbs).length c] 24)).alloc (.cells #[.bool (decide (d < 0)), .slice B (Za d.natAbs).length e0] 24)) (.bool false) (.slice none 0 0) (.bool false) (.slice none 0 0)
 simp only [World.size_alloc] at p1 p2
 have V_n := Hd (NV.of h_n b0 p0)
 have V_d := Hd (NV.of h_d b0 p1)
 have P_r0 := Hd p2
 have RW_n := Hd h_n
 have RW_d := Hd h_d
 have HBW := Hd b0
 clear b0 p0 p1 p2 h_n h_d
 go_enter Tryz.func169, Tryz.ntmps169
 obtain ⟨W, E⟩ : ∃ W, W = (((w.alloc (.cells #[.bool (decide (n < 0)), .slice A (Za n.natAbs).length c] 24)).alloc (.cells #[.bool (decide (d < 0)), .slice B (Za d.natAbs).length e0] 24)).alloc (.cells #[.bool false, .slice none 0 0, .bool false, .slice none 0 0] 26)) := ⟨_, rfl⟩
 go_upto_region 1 with fail
 rw [<- E] at V_n V_d P_r0 HBW ⊢
 clear E
 have hsz := P_r0.out.blk.lt
 have O_n0 := Hd (OW_n.out.below HBW.out)
 have O_d0 := Hd (OW_d.out.below HBW.out)
 clear OW_n OW_d
 obtain ⟨l_n, a_n, b_n, -, -⟩ := V_n.out.pair.facts
 obtain ⟨l_d, a_d, b_d, -, -⟩ := V_d.out.pair.facts
 go_wp2_with fail
 refine (XI n d g A B c e0 W V_n.out.raw V_d.out.raw (by omega) (by omega) HG.out).mono ?_
 rintro e x1 ⟨v, rfl, hI, hb⟩
 obtain ⟨A1, c1, rfl, r1⟩ := hI.raw
 have hIg := hI.base (Nat.zero_le _)
 have hszg := hb.size
 clear l_n a_n b_n l_d a_d b_d
 have V_n := Hd (V_n.out.below hb)
 have V_d := Hd (V_d.out.below hb)
 have P_r0 := Hd (P_r0.out.below hb)
 have O_n0 := Hd (O_n0.out.below hb)
 have O_d0 := Hd (O_d0.out.below hb)
 have HBW := Hd (Zb HBW.out hb)
 have R_g := Hd r1
 clear hb r1
 have O_g := Hd hIg
 clear hI hIg
 go_upto_region 2 with fail
 have ha := ((Below.refl x1.heap.size x1).alloc (Nat.le_refl _) (.cells #[.bool (decide (g < 0)), .slice A1 (Za g.natAbs).length c1] 24))
 have p_g := (Zp.new x1 24 (.bool (decide (g < 0))) (.slice A1 (Za g.natAbs).length c1))
 obtain ⟨y2, E⟩ : ∃ W, W = (x1.alloc (.cells #[.bool (decide (g < 0)), .slice A1 (Za g.natAbs).length c1] 24)) := ⟨_, rfl⟩
 rw [<- E] at ha p_g ⊢
 have V_g := Hd (NV.of R_g.out ha p_g)
 have V_n := Hd (V_n.out.below ha)
 have V_d := Hd (V_d.out.below ha)
 have P_r0 := Hd (P_r0.out.below ha)
 have O_n0 := Hd (O_n0.out.below ha)
 have O_d0 := Hd (O_d0.out.below ha)
 have O_g := Hd (O_g.out.below ha)
 have HBW := Hd (Zb HBW.out ha)
 obtain ⟨g2, hg⟩ : ∃ g, g = x1.heap.size := ⟨_, rfl⟩
 rw [<- hg] at V_g ⊢
 have hge2 : x1.heap.size <= g2 := by omega
 clear E ha hg p_g
 go_wp2_with fail
 obtain ⟨W0, hW⟩ : ∃ W0, W0 = y2 := ⟨_, rfl⟩
 rw [<- hW] at HBW P_r0 O_n0 O_d0 O_g V_n V_d V_g  ⊢
 clear hW
 refine Zf [.val (.agg #[.bool (decide (g < 0)), .slice A1 (Za g.natAbs).length c1]) [], .any false (fun u0 V => YQ V u0 one) [], .val (.int .i64 0) [1], .val (.bool false) []] W0.heap.size W0 [] (fun _ _ => False) _ Zg (Nat.le_refl _) (Below.refl _ _) (Zq.refl _ _ _) rfl ?_ ?_ ?_ ?_ ?_ ?_ ?_ ?_ rfl (by simp [ZH]) ?_ ?_ ?_ ?_
 iterate 8 kernel_rfl
 . simp only [Zu, and_true]
   exact fun u0 V V' h k => h.keptNone k
 . simp only [ZR]
 . simp (maxSteps := 4000000) [Zz, Yj, Zh, ZA, Zl]
   repeat' (first | apply And.intro | (intro (u0 : Value)))
   all_goals first
   | (intro V hV hK
      obtain ⟨-, a_g, b_g, -, -⟩ := (V_g.out.below hV).pair.facts
      have r_g := Hd (V_g.out.below hV).raw
      clear hV hK
      go_simp
      first
      | exact Below.refl _ _
      | exact ⟨by first | rfl | decide | go_num, Below.refl _ _⟩
      | ((with_reducible refine (eof 1 one H1.out (by decide) (by decide) V).mono ?_); rintro _ _ ⟨_, rfl, x, y⟩; exact ⟨x.at_, y⟩))
   | (intro V hV hK hu
      obtain ⟨A', c', rfl, hr⟩ := hu.form
      have r_g := Hd (V_g.out.below hV).raw
      have r' := Hd hr
      clear hV hK hu hr
      go_simp
      (with_reducible refine (ecmp g one 0 A1 A' c1 c' V r_g.out r'.out (by omega) (by omega) HK.out).mono ?_)
      rintro e w' ⟨rfl, hb⟩
      exact ⟨rfl, hb⟩)
 . simp [Yn, ZD, Zh, ZA, Zl]
   intro u1 V hV hK _ _ _ _
   have V_n := Hd (V_n.out.below hV)
   have V_d := Hd (V_d.out.below hV)
   have V_g := Hd (V_g.out.below hV)
   have P_r0 := Hd (P_r0.out.below hV)
   have O_n0 := Hd (O_n0.out.below hV)
   have O_d0 := Hd (O_d0.out.below hV)
   have O_g := Hd (O_g.out.below hV)
   have HBW := Hd (Zb HBW.out hV)
   clear hV hK
   obtain ⟨v3, hV0⟩ : ∃ Y, Y = V := ⟨_, rfl⟩
   rw [<- hV0] at HBW P_r0 O_n0 O_d0 O_g V_n V_d V_g  ⊢
   clear hV0
   obtain ⟨rfl, rfl⟩ := HQN.out
   have hsn := HSN.out
   obtain ⟨l_d, a_d, b_d, -, -⟩ := V_d.out.pair.facts
   go_wp2_with fail
   refine (Jp p sg B e0 v3 V_d.out.raw HSG.out).mono ?_
   rintro e x4 ⟨rfl, hb⟩
   clear l_d a_d b_d
   have V_n := Hd (V_n.out.below hb)
   have V_d := Hd (V_d.out.below hb)
   have V_g := Hd (V_g.out.below hb)
   have P_r0 := Hd (P_r0.out.below hb)
   have O_n0 := Hd (O_n0.out.below hb)
   have O_d0 := Hd (O_d0.out.below hb)
   have O_g := Hd (O_g.out.below hb)
   have HBW := Hd (Zb HBW.out hb)
   clear hb
   go_upto_region 6 with fail
   clear hsn
   go_wp2_with fail
   have hszz := P_r0.out.blk.lt
   refine Zf [.val (.agg #[.bool (decide (q < 0)), .slice A (Za q.natAbs).length c]) [1004], .any true (fun u V => Zc V b u q') [], .val (.agg #[.bool (decide (p < 0)), .slice B (Za p.natAbs).length e0]) [1005], .any true (fun u V => Zc V b u p') [], .old (w.heap.size) 24 #[.bool (decide (q < 0)), .slice A (Za q.natAbs).length c] 0 2 1 [], .old (w.heap.size + 1) 24 #[.bool (decide (p < 0)), .slice B (Za p.natAbs).length e0] 0 2 3 []] w.heap.size x4 [24] Xh _ Zg (by omega) (Below.refl _ _) (Zq.refl _ _ _) rfl ?_ ?_ ?_ ?_ ?_ ?_ ?_ ?_ rfl (by simp [ZH]) ?_ ?_ ?_ ?_
   iterate 8 kernel_rfl
   . simp only [Zu, and_true]
     exact ⟨fun u V V' h k => h.kept k (by decide), fun u V V' h k => h.kept k (by decide)⟩
   . simp only [ZR, and_true]
     exact ⟨⟨by omega, by omega, V_n.out.pair.blk, by simp⟩, by omega, by omega, V_d.out.pair.blk, by simp⟩
   . simp (maxSteps := 4000000) [Zz, Yj, Zh, ZA, Zl]
     repeat' (first | apply And.intro | (intro (u : Value)) | (intro (u : Nat)))
     all_goals try exact ⟨_, _, _, rfl, rfl, rfl, rfl, intInfo⟩
     all_goals first
     | (intro V hV hK hp
        obtain ⟨-, a_p, b_p, -, -⟩ := (Zp.mk hp).facts
        clear hV hK hp
        go_simp
        exact Below.refl _ _)
     | (intro V hV hK
        have rn := Hd ((O_n0.out.kept hK (by decide)).rawAt)
        have rd := Hd ((O_d0.out.kept hK (by decide)).rawAt)
        have hbV : b <= V.heap.size := Nat.le_trans hbw (Nat.le_trans HBW.out.size hV.size)
        clear hV hK
        go_simp
        first
        | ((with_reducible refine (eturned q q' A c V rn.out (by omega) HN1.out).mono ?_); rintro _ _ ⟨_, rfl, x, y⟩; exact ⟨x.base hbV, y, x.mine⟩)
        | ((with_reducible refine (eturned p p' B e0 V rd.out (by omega) HN2.out).mono ?_); rintro _ _ ⟨_, rfl, x, y⟩; exact ⟨x.base hbV, y, x.mine⟩))
     | exact fun _ _ _ (h : Zc _ _ _ _) => h.cells
   . simp [Yn, ZD, Zh, ZA, Zl]
     intro u1 u2 V hV hK h1 h2 p1 p2 hq _ _
     obtain ⟨A6, c6, rfl, r6⟩ := h1.raw
     obtain ⟨A7, c7, rfl, r7⟩ := h2.raw
     simp [Z9, Value.cells] at p1 p2
     have V_n := Hd (show NV V (w.heap.size) q' A6 c6 from ⟨⟨p1⟩, r6⟩)
     have V_d := Hd (show NV V (w.heap.size + 1) p' A7 c7 from ⟨⟨p2⟩, r7⟩)
     have HBW := Hd (HBW.out.trans hV)
     have P_r0 := Hd (show Zw V _ _ _ _ _ from ⟨hK.blk P_r0.out.blk (by decide)⟩)
     have O_n9 := Hd h1
     have O_d9 := Hd h2
     have HAP := Hd (show ∀ g, (Value.slice A6 (Za q'.natAbs).length c6).ownBlock = some g -> (Value.slice A7 (Za p'.natAbs).length c7).ownBlock ≠ some g from fun g => hq 1 3 rfl rfl (by decide) g)
     clear hq hV hK h1 h2 p1 p2 r6 r7
     obtain ⟨l_n, a_n, b_n, -, -⟩ := V_n.out.pair.facts
     obtain ⟨l_d, a_d, b_d, -, -⟩ := V_d.out.pair.facts
     obtain ⟨l_r, c_r0, c_r1, c_r2, c_r3, f_r0, f_r1, f_r2, f_r3⟩ := P_r0.out.facts
     have HQ9 := Hd (P_r0.out.store (.bool (decide (q' < 0))) (.slice A6 (Za q'.natAbs).length c6) (.bool (decide (p' < 0))) (.slice A7 (Za p'.natAbs).length c7))
     have HB9 := Hd (Yc HBW.out (show w.heap.size <= w.heap.size + 1 + 1 by omega) (.bool (decide (q' < 0))) (.slice A6 (Za q'.natAbs).length c6) (.bool (decide (p' < 0))) (.slice A7 (Za p'.natAbs).length c7))
     have HF := Hd (show Ze ((((V.setCell ⟨w.heap.size + 1 + 1, 0, none⟩ (.bool (decide (q' < 0)))).setCell ⟨w.heap.size + 1 + 1, 1, none⟩ (.slice A6 (Za q'.natAbs).length c6)).setCell ⟨w.heap.size + 1 + 1, 2, none⟩ (.bool (decide (p' < 0)))).setCell ⟨w.heap.size + 1 + 1, 3, none⟩ (.slice A7 (Za p'.natAbs).length c7)) b (.agg #[.bool (decide (q' < 0)), .slice A6 (Za q'.natAbs).length c6, .bool (decide (p' < 0)), .slice A7 (Za p'.natAbs).length c7]) q' p' from ⟨_, _, _, _, rfl, O_n9.out.quad P_r0.out _ _ _ _, O_d9.out.quad P_r0.out _ _ _ _, HAP.out⟩)
     go_wp2_with fail
     obtain ⟨_, k0, k1, k2, k3, _⟩ := HQ9.out.facts
     exact bodyPost_ret (by simp [results, Tryz.results169, go_sem, k0, k1, k2, k3]) rfl ⟨.agg #[.bool (decide (q' < 0)), .slice A6 (Za q'.natAbs).length c6, .bool (decide (p' < 0)), .slice A7 (Za p'.natAbs).length c7], rfl, by rw [HLN.out.1, HLN.out.2]; exact HF.out, HB9.out⟩

theorem efresh_one_pos (n d : Int) (A B : Option Addr) (c e0 b : Nat) (w : World) (h_n : Zr w A c (Za n.natAbs)) (h_d : Zr w B e0 (Za d.natAbs)) (o_n : Zc w b (.agg #[.bool (decide (n < 0)), .slice A (Za n.natAbs).length c]) n) (o_d : Zc w b (.agg #[.bool (decide (d < 0)), .slice B (Za d.natAbs).length e0]) d) (hap : ∀ g, (Value.slice A (Za n.natAbs).length c).ownBlock = some g -> (Value.slice B (Za d.natAbs).length e0).ownBlock ≠ some g) (hbw : b <= w.heap.size) (hn : lz n <= 400000000) (hd : lz d <= 400000000) (hd0 : d ≠ 0) (hs0 : ¬ d < 0) (hgc : ZK n d = 1) :
   Calls Tryz.prog 169 #[.agg #[.bool (decide (n < 0)), .slice A (Za n.natAbs).length c], .agg #[.bool (decide (d < 0)), .slice B (Za d.natAbs).length e0]] w (ZE b w (Yx n d) (Yt n d)) := by
 obtain ⟨g, hg⟩ : ∃ k : Int, k = ZK n d := ⟨_, rfl⟩
 obtain ⟨one, hone⟩ : ∃ k : Int, k = 1 := ⟨_, rfl⟩
 obtain ⟨q, hq⟩ : ∃ k : Int, k = n.tdiv g := ⟨_, rfl⟩
 obtain ⟨r, hr⟩ : ∃ k : Int, k = n.tmod g := ⟨_, rfl⟩
 obtain ⟨p, hp⟩ : ∃ k : Int, k = d.tdiv g := ⟨_, rfl⟩
 obtain ⟨s, hs⟩ : ∃ k : Int, k = d.tmod g := ⟨_, rfl⟩
 obtain ⟨q', hq'⟩ : ∃ k : Int, k = -q := ⟨_, rfl⟩
 obtain ⟨p', hp'⟩ : ∃ k : Int, k = -p := ⟨_, rfl⟩
 have hgp := YX (n := n) hd0
 have hgl := XH (n := n) hd0
 rw [<- hg] at hgp hgl hgc
 have hql : lz q <= lz n := by rw [hq]; exact YY n g
 have hpl : lz p <= lz d := by rw [hp]; exact YY d g
 have hps : p.sign = d.sign := by rw [hp, hg]; exact tdiv_sign hd0
 have hol : lz one <= 2 := by rw [hone]; decide
 obtain ⟨sg, hsg⟩ : ∃ k : Int, k = p.sign := ⟨_, rfl⟩
 have HSG := Hd hsg
 have HSN := Hd (show decide (sg < 0) = false from by
   rw [hsg, hps]
   exact decide_eq_false (by have := YZ d; omega))
 have HG := Hd (show g = ((Nat.gcd n.natAbs d.natAbs : Nat) : Int) from hg)
 have H1 := Hd hone
 have HG0 := Hd (show g ≠ 0 from by omega)
 have HQ := Hd (And.intro hq hr)
 have HP := Hd (And.intro hp hs)
 have HN1 := Hd hq'
 have HN2 := Hd hp'
 have HK := Hd (show (0 : Int) = Xw g one from by rw [hone]; rw [hgc]; decide)
 have HLN := Hd (show Yx n d = q /\ Yt n d = p from by
   unfold Yx Yt
   rw [if_neg hs0, if_neg hs0, <- hg, <- hq, <- hp]
   exact ⟨rfl, rfl⟩)
 have HQN := Hd (show q = n /\ p = d from by rw [hq, hp, hgc]; exact ⟨Int.tdiv_one _, Int.tdiv_one _⟩)
 have OW_n := Hd o_n
 have OW_d := Hd o_d
 have HAP := Hd hap
 have _ := hbw
 clear o_n o_d hap
 clear hgc hg hone hq hr hp hs hq' hp' hs0 hsg hps hd0
 have b0 := ((((Below.refl w.heap.size w).alloc (Nat.le_refl _) (.cells #[.bool (decide (n < 0)), .slice A (Za n.natAbs).length c] 24)).alloc (by simp) (.cells #[.bool (decide (d < 0)), .slice B (Za d.natAbs).length e0] 24)).alloc (by simp; omega) (.cells #[.bool false, .slice none 0 0, .bool false, .slice none 0 0] 26))
 have p0 := ((Zp.new w 24 (.bool (decide (n < 0))) (.slice A (Za n.natAbs).length c)).alloc (.cells #[.bool (decide (d < 0)), .slice B (Za d.natAbs).length e0] 24)).alloc (.cells #[.bool false, .slice none 0 0, .bool false, .slice none 0 0] 26)
 have p1 := (Zp.new (w.alloc (.cells #[.bool (decide (n < 0)), .slice A (Za n.natAbs).length c] 24)) 24 (.bool (decide (d < 0))) (.slice B (Za d.natAbs).length e0)).alloc (.cells #[.bool false, .slice none 0 0, .bool false, .slice none 0 0] 26)
 have p2 := Zw.new ((w.alloc (.cells #[.bool (decide (n < 0)), .slice A (Za n.natAbs).length c] 24)).alloc (.cells #[.bool (decide (d < 0)), .slice B (Za d.natAbs).length e0] 24)) (.bool false) (.slice none 0 0) (.bool false) (.slice none 0 0)
 simp only [World.size_alloc] at p1 p2
 have V_n := Hd (NV.of h_n b0 p0)
 have V_d := Hd (NV.of h_d b0 p1)
 have P_r0 := Hd p2
 have RW_n := Hd h_n
 have RW_d := Hd h_d
 have HBW := Hd b0
 clear b0 p0 p1 p2 h_n h_d
 go_enter Tryz.func169, Tryz.ntmps169
 obtain ⟨W, E⟩ : ∃ W, W = (((w.alloc (.cells #[.bool (decide (n < 0)), .slice A (Za n.natAbs).length c] 24)).alloc (.cells #[.bool (decide (d < 0)), .slice B (Za d.natAbs).length e0] 24)).alloc (.cells #[.bool false, .slice none 0 0, .bool false, .slice none 0 0] 26)) := ⟨_, rfl⟩
 go_upto_region 1 with fail
 rw [<- E] at V_n V_d P_r0 HBW ⊢
 clear E
 have hsz := P_r0.out.blk.lt
 have O_n0 := Hd (OW_n.out.below HBW.out)
 have O_d0 := Hd (OW_d.out.below HBW.out)
 clear OW_n OW_d
 obtain ⟨l_n, a_n, b_n, -, -⟩ := V_n.out.pair.facts
 obtain ⟨l_d, a_d, b_d, -, -⟩ := V_d.out.pair.facts
 go_wp2_with fail
 refine (XI n d g A B c e0 W V_n.out.raw V_d.out.raw (by omega) (by omega) HG.out).mono ?_
 rintro e x1 ⟨v, rfl, hI, hb⟩
 obtain ⟨A1, c1, rfl, r1⟩ := hI.raw
 have hIg := hI.base (Nat.zero_le _)
 have hszg := hb.size
 clear l_n a_n b_n l_d a_d b_d
 have V_n := Hd (V_n.out.below hb)
 have V_d := Hd (V_d.out.below hb)
 have P_r0 := Hd (P_r0.out.below hb)
 have O_n0 := Hd (O_n0.out.below hb)
 have O_d0 := Hd (O_d0.out.below hb)
 have HBW := Hd (Zb HBW.out hb)
 have R_g := Hd r1
 clear hb r1
 have O_g := Hd hIg
 clear hI hIg
 go_upto_region 2 with fail
 have ha := ((Below.refl x1.heap.size x1).alloc (Nat.le_refl _) (.cells #[.bool (decide (g < 0)), .slice A1 (Za g.natAbs).length c1] 24))
 have p_g := (Zp.new x1 24 (.bool (decide (g < 0))) (.slice A1 (Za g.natAbs).length c1))
 obtain ⟨y2, E⟩ : ∃ W, W = (x1.alloc (.cells #[.bool (decide (g < 0)), .slice A1 (Za g.natAbs).length c1] 24)) := ⟨_, rfl⟩
 rw [<- E] at ha p_g ⊢
 have V_g := Hd (NV.of R_g.out ha p_g)
 have V_n := Hd (V_n.out.below ha)
 have V_d := Hd (V_d.out.below ha)
 have P_r0 := Hd (P_r0.out.below ha)
 have O_n0 := Hd (O_n0.out.below ha)
 have O_d0 := Hd (O_d0.out.below ha)
 have O_g := Hd (O_g.out.below ha)
 have HBW := Hd (Zb HBW.out ha)
 obtain ⟨g2, hg⟩ : ∃ g, g = x1.heap.size := ⟨_, rfl⟩
 rw [<- hg] at V_g ⊢
 have hge2 : x1.heap.size <= g2 := by omega
 clear E ha hg p_g
 go_wp2_with fail
 obtain ⟨W0, hW⟩ : ∃ W0, W0 = y2 := ⟨_, rfl⟩
 rw [<- hW] at HBW P_r0 O_n0 O_d0 O_g V_n V_d V_g  ⊢
 clear hW
 refine Zf [.val (.agg #[.bool (decide (g < 0)), .slice A1 (Za g.natAbs).length c1]) [], .any false (fun u0 V => YQ V u0 one) [], .val (.int .i64 0) [1], .val (.bool false) []] W0.heap.size W0 [] (fun _ _ => False) _ Zg (Nat.le_refl _) (Below.refl _ _) (Zq.refl _ _ _) rfl ?_ ?_ ?_ ?_ ?_ ?_ ?_ ?_ rfl (by simp [ZH]) ?_ ?_ ?_ ?_
 iterate 8 kernel_rfl
 . simp only [Zu, and_true]
   exact fun u0 V V' h k => h.keptNone k
 . simp only [ZR]
 . simp (maxSteps := 4000000) [Zz, Yj, Zh, ZA, Zl]
   repeat' (first | apply And.intro | (intro (u0 : Value)))
   all_goals first
   | (intro V hV hK
      obtain ⟨-, a_g, b_g, -, -⟩ := (V_g.out.below hV).pair.facts
      have r_g := Hd (V_g.out.below hV).raw
      clear hV hK
      go_simp
      first
      | exact Below.refl _ _
      | exact ⟨by first | rfl | decide | go_num, Below.refl _ _⟩
      | ((with_reducible refine (eof 1 one H1.out (by decide) (by decide) V).mono ?_); rintro _ _ ⟨_, rfl, x, y⟩; exact ⟨x.at_, y⟩))
   | (intro V hV hK hu
      obtain ⟨A', c', rfl, hr⟩ := hu.form
      have r_g := Hd (V_g.out.below hV).raw
      have r' := Hd hr
      clear hV hK hu hr
      go_simp
      (with_reducible refine (ecmp g one 0 A1 A' c1 c' V r_g.out r'.out (by omega) (by omega) HK.out).mono ?_)
      rintro e w' ⟨rfl, hb⟩
      exact ⟨rfl, hb⟩)
 . simp [Yn, ZD, Zh, ZA, Zl]
   intro u1 V hV hK _ _ _ _
   have V_n := Hd (V_n.out.below hV)
   have V_d := Hd (V_d.out.below hV)
   have V_g := Hd (V_g.out.below hV)
   have P_r0 := Hd (P_r0.out.below hV)
   have O_n0 := Hd (O_n0.out.below hV)
   have O_d0 := Hd (O_d0.out.below hV)
   have O_g := Hd (O_g.out.below hV)
   have HBW := Hd (Zb HBW.out hV)
   clear hV hK
   obtain ⟨v3, hV0⟩ : ∃ Y, Y = V := ⟨_, rfl⟩
   rw [<- hV0] at HBW P_r0 O_n0 O_d0 O_g V_n V_d V_g  ⊢
   clear hV0
   obtain ⟨rfl, rfl⟩ := HQN.out
   have hsn := HSN.out
   obtain ⟨l_d, a_d, b_d, -, -⟩ := V_d.out.pair.facts
   go_wp2_with fail
   refine (Jp p sg B e0 v3 V_d.out.raw HSG.out).mono ?_
   rintro e x4 ⟨rfl, hb⟩
   clear l_d a_d b_d
   have V_n := Hd (V_n.out.below hb)
   have V_d := Hd (V_d.out.below hb)
   have V_g := Hd (V_g.out.below hb)
   have P_r0 := Hd (P_r0.out.below hb)
   have O_n0 := Hd (O_n0.out.below hb)
   have O_d0 := Hd (O_d0.out.below hb)
   have O_g := Hd (O_g.out.below hb)
   have HBW := Hd (Zb HBW.out hb)
   clear hb
   go_upto_region 7 with fail
   clear hsn
   obtain ⟨l_n, a_n, b_n, -, -⟩ := V_n.out.pair.facts
   obtain ⟨l_d, a_d, b_d, -, -⟩ := V_d.out.pair.facts
   obtain ⟨l_r, c_r0, c_r1, c_r2, c_r3, f_r0, f_r1, f_r2, f_r3⟩ := P_r0.out.facts
   have HQ9 := Hd (P_r0.out.store (.bool (decide (q < 0))) (.slice A (Za q.natAbs).length c) (.bool (decide (p < 0))) (.slice B (Za p.natAbs).length e0))
   have HB9 := Hd (Yc HBW.out (show w.heap.size <= w.heap.size + 1 + 1 by omega) (.bool (decide (q < 0))) (.slice A (Za q.natAbs).length c) (.bool (decide (p < 0))) (.slice B (Za p.natAbs).length e0))
   have HF := Hd (show Ze ((((x4.setCell ⟨w.heap.size + 1 + 1, 0, none⟩ (.bool (decide (q < 0)))).setCell ⟨w.heap.size + 1 + 1, 1, none⟩ (.slice A (Za q.natAbs).length c)).setCell ⟨w.heap.size + 1 + 1, 2, none⟩ (.bool (decide (p < 0)))).setCell ⟨w.heap.size + 1 + 1, 3, none⟩ (.slice B (Za p.natAbs).length e0)) b (.agg #[.bool (decide (q < 0)), .slice A (Za q.natAbs).length c, .bool (decide (p < 0)), .slice B (Za p.natAbs).length e0]) q p from ⟨_, _, _, _, rfl, O_n0.out.quad P_r0.out _ _ _ _, O_d0.out.quad P_r0.out _ _ _ _, HAP.out⟩)
   go_wp2_with fail
   obtain ⟨_, k0, k1, k2, k3, _⟩ := HQ9.out.facts
   exact bodyPost_ret (by simp [results, Tryz.results169, go_sem, k0, k1, k2, k3]) rfl ⟨.agg #[.bool (decide (q < 0)), .slice A (Za q.natAbs).length c, .bool (decide (p < 0)), .slice B (Za p.natAbs).length e0], rfl, by rw [HLN.out.1, HLN.out.2]; exact HF.out, HB9.out⟩

theorem efresh_more_neg (n d : Int) (A B : Option Addr) (c e0 b : Nat) (w : World) (h_n : Zr w A c (Za n.natAbs)) (h_d : Zr w B e0 (Za d.natAbs)) (o_n : Zc w b (.agg #[.bool (decide (n < 0)), .slice A (Za n.natAbs).length c]) n) (o_d : Zc w b (.agg #[.bool (decide (d < 0)), .slice B (Za d.natAbs).length e0]) d) (hap : ∀ g, (Value.slice A (Za n.natAbs).length c).ownBlock = some g -> (Value.slice B (Za d.natAbs).length e0).ownBlock ≠ some g) (hbw : b <= w.heap.size) (hn : lz n <= 400000000) (hd : lz d <= 400000000) (hd0 : d ≠ 0) (hs0 : d < 0) (hgc : 1 < ZK n d) :
   Calls Tryz.prog 169 #[.agg #[.bool (decide (n < 0)), .slice A (Za n.natAbs).length c], .agg #[.bool (decide (d < 0)), .slice B (Za d.natAbs).length e0]] w (ZE b w (Yx n d) (Yt n d)) := by
 obtain ⟨g, hg⟩ : ∃ k : Int, k = ZK n d := ⟨_, rfl⟩
 obtain ⟨one, hone⟩ : ∃ k : Int, k = 1 := ⟨_, rfl⟩
 obtain ⟨q, hq⟩ : ∃ k : Int, k = n.tdiv g := ⟨_, rfl⟩
 obtain ⟨r, hr⟩ : ∃ k : Int, k = n.tmod g := ⟨_, rfl⟩
 obtain ⟨p, hp⟩ : ∃ k : Int, k = d.tdiv g := ⟨_, rfl⟩
 obtain ⟨s, hs⟩ : ∃ k : Int, k = d.tmod g := ⟨_, rfl⟩
 obtain ⟨q', hq'⟩ : ∃ k : Int, k = -q := ⟨_, rfl⟩
 obtain ⟨p', hp'⟩ : ∃ k : Int, k = -p := ⟨_, rfl⟩
 have hgp := YX (n := n) hd0
 have hgl := XH (n := n) hd0
 rw [<- hg] at hgp hgl hgc
 have hql : lz q <= lz n := by rw [hq]; exact YY n g
 have hpl : lz p <= lz d := by rw [hp]; exact YY d g
 have hps : p.sign = d.sign := by rw [hp, hg]; exact tdiv_sign hd0
 have hol : lz one <= 2 := by rw [hone]; decide
 obtain ⟨sg, hsg⟩ : ∃ k : Int, k = p.sign := ⟨_, rfl⟩
 have HSG := Hd hsg
 have HSN := Hd (show decide (sg < 0) = true from by
   rw [hsg, hps]
   exact decide_eq_true (by rw [Int.sign_eq_neg_one_of_neg hs0]; decide))
 have HG := Hd (show g = ((Nat.gcd n.natAbs d.natAbs : Nat) : Int) from hg)
 have H1 := Hd hone
 have HG0 := Hd (show g ≠ 0 from by omega)
 have HQ := Hd (And.intro hq hr)
 have HP := Hd (And.intro hp hs)
 have HN1 := Hd hq'
 have HN2 := Hd hp'
 have HK := Hd (show (1 : Int) = Xw g one from by rw [hone]; exact (cmpz_gt (by omega)).symm)
 have HLN := Hd (show Yx n d = q' /\ Yt n d = p' from by
   unfold Yx Yt
   rw [if_pos hs0, if_pos hs0, <- hg, <- hq, <- hp, hq', hp']
   exact ⟨rfl, rfl⟩)
 have OW_n := Hd o_n
 have OW_d := Hd o_d
 have HAP := Hd hap
 have _ := hbw
 clear o_n o_d hap
 clear hgc hg hone hq hr hp hs hq' hp' hs0 hsg hps hd0
 have b0 := ((((Below.refl w.heap.size w).alloc (Nat.le_refl _) (.cells #[.bool (decide (n < 0)), .slice A (Za n.natAbs).length c] 24)).alloc (by simp) (.cells #[.bool (decide (d < 0)), .slice B (Za d.natAbs).length e0] 24)).alloc (by simp; omega) (.cells #[.bool false, .slice none 0 0, .bool false, .slice none 0 0] 26))
 have p0 := ((Zp.new w 24 (.bool (decide (n < 0))) (.slice A (Za n.natAbs).length c)).alloc (.cells #[.bool (decide (d < 0)), .slice B (Za d.natAbs).length e0] 24)).alloc (.cells #[.bool false, .slice none 0 0, .bool false, .slice none 0 0] 26)
 have p1 := (Zp.new (w.alloc (.cells #[.bool (decide (n < 0)), .slice A (Za n.natAbs).length c] 24)) 24 (.bool (decide (d < 0))) (.slice B (Za d.natAbs).length e0)).alloc (.cells #[.bool false, .slice none 0 0, .bool false, .slice none 0 0] 26)
 have p2 := Zw.new ((w.alloc (.cells #[.bool (decide (n < 0)), .slice A (Za n.natAbs).length c] 24)).alloc (.cells #[.bool (decide (d < 0)), .slice B (Za d.natAbs).length e0] 24)) (.bool false) (.slice none 0 0) (.bool false) (.slice none 0 0)
 simp only [World.size_alloc] at p1 p2
 have V_n := Hd (NV.of h_n b0 p0)
 have V_d := Hd (NV.of h_d b0 p1)
 have P_r0 := Hd p2
 have RW_n := Hd h_n
 have RW_d := Hd h_d
 have HBW := Hd b0
 clear b0 p0 p1 p2 h_n h_d
 go_enter Tryz.func169, Tryz.ntmps169
 obtain ⟨W, E⟩ : ∃ W, W = (((w.alloc (.cells #[.bool (decide (n < 0)), .slice A (Za n.natAbs).length c] 24)).alloc (.cells #[.bool (decide (d < 0)), .slice B (Za d.natAbs).length e0] 24)).alloc (.cells #[.bool false, .slice none 0 0, .bool false, .slice none 0 0] 26)) := ⟨_, rfl⟩
 go_upto_region 1 with fail
 rw [<- E] at V_n V_d P_r0 HBW ⊢
 clear E
 have hsz := P_r0.out.blk.lt
 have O_n0 := Hd (OW_n.out.below HBW.out)
 have O_d0 := Hd (OW_d.out.below HBW.out)
 clear OW_n OW_d
 obtain ⟨l_n, a_n, b_n, -, -⟩ := V_n.out.pair.facts
 obtain ⟨l_d, a_d, b_d, -, -⟩ := V_d.out.pair.facts
 go_wp2_with fail
 refine (XI n d g A B c e0 W V_n.out.raw V_d.out.raw (by omega) (by omega) HG.out).mono ?_
 rintro e x1 ⟨v, rfl, hI, hb⟩
 obtain ⟨A1, c1, rfl, r1⟩ := hI.raw
 have hIg := hI.base (Nat.zero_le _)
 have hszg := hb.size
 clear l_n a_n b_n l_d a_d b_d
 have V_n := Hd (V_n.out.below hb)
 have V_d := Hd (V_d.out.below hb)
 have P_r0 := Hd (P_r0.out.below hb)
 have O_n0 := Hd (O_n0.out.below hb)
 have O_d0 := Hd (O_d0.out.below hb)
 have HBW := Hd (Zb HBW.out hb)
 have R_g := Hd r1
 clear hb r1
 have O_g := Hd hIg
 clear hI hIg
 go_upto_region 2 with fail
 have ha := ((Below.refl x1.heap.size x1).alloc (Nat.le_refl _) (.cells #[.bool (decide (g < 0)), .slice A1 (Za g.natAbs).length c1] 24))
 have p_g := (Zp.new x1 24 (.bool (decide (g < 0))) (.slice A1 (Za g.natAbs).length c1))
 obtain ⟨y2, E⟩ : ∃ W, W = (x1.alloc (.cells #[.bool (decide (g < 0)), .slice A1 (Za g.natAbs).length c1] 24)) := ⟨_, rfl⟩
 rw [<- E] at ha p_g ⊢
 have V_g := Hd (NV.of R_g.out ha p_g)
 have V_n := Hd (V_n.out.below ha)
 have V_d := Hd (V_d.out.below ha)
 have P_r0 := Hd (P_r0.out.below ha)
 have O_n0 := Hd (O_n0.out.below ha)
 have O_d0 := Hd (O_d0.out.below ha)
 have O_g := Hd (O_g.out.below ha)
 have HBW := Hd (Zb HBW.out ha)
 obtain ⟨g2, hg⟩ : ∃ g, g = x1.heap.size := ⟨_, rfl⟩
 rw [<- hg] at V_g ⊢
 have hge2 : x1.heap.size <= g2 := by omega
 clear E ha hg p_g
 go_wp2_with fail
 obtain ⟨W0, hW⟩ : ∃ W0, W0 = y2 := ⟨_, rfl⟩
 rw [<- hW] at HBW P_r0 O_n0 O_d0 O_g V_n V_d V_g  ⊢
 clear hW
 refine Zf [.val (.agg #[.bool (decide (g < 0)), .slice A1 (Za g.natAbs).length c1]) [], .any false (fun u0 V => YQ V u0 one) [], .val (.int .i64 1) [1], .val (.bool true) []] W0.heap.size W0 [] (fun _ _ => False) _ Zg (Nat.le_refl _) (Below.refl _ _) (Zq.refl _ _ _) rfl ?_ ?_ ?_ ?_ ?_ ?_ ?_ ?_ rfl (by simp [ZH]) ?_ ?_ ?_ ?_
 iterate 8 kernel_rfl
 . simp only [Zu, and_true]
   exact fun u0 V V' h k => h.keptNone k
 . simp only [ZR]
 . simp (maxSteps := 4000000) [Zz, Yj, Zh, ZA, Zl]
   repeat' (first | apply And.intro | (intro (u0 : Value)))
   all_goals first
   | (intro V hV hK
      obtain ⟨-, a_g, b_g, -, -⟩ := (V_g.out.below hV).pair.facts
      have r_g := Hd (V_g.out.below hV).raw
      clear hV hK
      go_simp
      first
      | exact Below.refl _ _
      | exact ⟨by first | rfl | decide | go_num, Below.refl _ _⟩
      | ((with_reducible refine (eof 1 one H1.out (by decide) (by decide) V).mono ?_); rintro _ _ ⟨_, rfl, x, y⟩; exact ⟨x.at_, y⟩))
   | (intro V hV hK hu
      obtain ⟨A', c', rfl, hr⟩ := hu.form
      have r_g := Hd (V_g.out.below hV).raw
      have r' := Hd hr
      clear hV hK hu hr
      go_simp
      (with_reducible refine (ecmp g one 1 A1 A' c1 c' V r_g.out r'.out (by omega) (by omega) HK.out).mono ?_)
      rintro e w' ⟨rfl, hb⟩
      exact ⟨rfl, hb⟩)
 . simp [Yn, ZD, Zh, ZA, Zl]
   intro u1 V hV hK _ _ _ _
   have V_n := Hd (V_n.out.below hV)
   have V_d := Hd (V_d.out.below hV)
   have V_g := Hd (V_g.out.below hV)
   have P_r0 := Hd (P_r0.out.below hV)
   have O_n0 := Hd (O_n0.out.below hV)
   have O_d0 := Hd (O_d0.out.below hV)
   have O_g := Hd (O_g.out.below hV)
   have HBW := Hd (Zb HBW.out hV)
   clear hV hK
   obtain ⟨v3, hV0⟩ : ∃ Y, Y = V := ⟨_, rfl⟩
   rw [<- hV0] at HBW P_r0 O_n0 O_d0 O_g V_n V_d V_g  ⊢
   clear hV0
   obtain ⟨l_n, a_n, b_n, -, -⟩ := V_n.out.pair.facts
   obtain ⟨l_g, a_g, b_g, -, -⟩ := V_g.out.pair.facts
   go_wp2_with fail
   refine (edivide n g q r A A1 c c1 v3 V_n.out.raw V_g.out.raw (by omega) (by omega) HG0.out HQ.out.1 HQ.out.2).mono ?_
   rintro e x4 ⟨v1, v2, rfl, hI, hb⟩
   obtain ⟨A2, c2, rfl, -⟩ := hI.one.raw
   obtain ⟨A3, c3, rfl, -⟩ := hI.two.raw
   have hszb := HBW.out.size
   clear l_n a_n b_n l_g a_g b_g
   have V_n := Hd (V_n.out.below hb)
   have V_d := Hd (V_d.out.below hb)
   have V_g := Hd (V_g.out.below hb)
   have P_r0 := Hd (P_r0.out.below hb)
   have O_n0 := Hd (O_n0.out.below hb)
   have O_d0 := Hd (O_d0.out.below hb)
   have O_g := Hd (O_g.out.below hb)
   have HBW := Hd (Zb HBW.out hb)
   have HTOP := Hd (show ∀ g, (Value.slice A2 (Za q.natAbs).length c2).ownBlock = some g -> g < x4.heap.size from fun g hg => (hI.one.mine g hg).2)
   have O_n := Hd (hI.one.base (Nat.le_trans hbw hszb))
   clear hb hI
   obtain ⟨l_s, a_s, b_s, f_s, g_s⟩ := V_n.out.pair.facts
   have M_n := V_n.out.pair.store (.bool (decide (q < 0))) (.slice A2 (Za q.natAbs).length c2)
   have M_d := V_d.out.pair.far (show w.heap.size + 1 ≠ w.heap.size by omega) (.bool (decide (q < 0))) (.slice A2 (Za q.natAbs).length c2)
   have M_g := V_g.out.pair.far (show g2 ≠ w.heap.size by omega) (.bool (decide (q < 0))) (.slice A2 (Za q.natAbs).length c2)
   have Q_O_d0 := O_d0.out.pairT V_n.out.pair (.bool (decide (q < 0))) (.slice A2 (Za q.natAbs).length c2)
   have Q_O_g := O_g.out.pairT V_n.out.pair (.bool (decide (q < 0))) (.slice A2 (Za q.natAbs).length c2)
   have Q_O_n := O_n.out.pairT V_n.out.pair (.bool (decide (q < 0))) (.slice A2 (Za q.natAbs).length c2)
   have F_P_r0 : Zw _ _ _ _ _ _ := ⟨P_r0.out.blk.far2 (show w.heap.size + 1 + 1 ≠ w.heap.size by omega) (.bool (decide (q < 0))) (.slice A2 (Za q.natAbs).length c2)⟩
   have HB9 := Yh HBW.out (show w.heap.size <= w.heap.size by omega) (.bool (decide (q < 0))) (.slice A2 (Za q.natAbs).length c2)
   have hgrow : x4.heap.size <= (((x4).setCell ⟨w.heap.size, 0, none⟩ (.bool (decide (q < 0)))).setCell ⟨w.heap.size, 1, none⟩ (.slice A2 (Za q.natAbs).length c2)).heap.size := by simp
   go_upto_region 4 with fail
   obtain ⟨y5, E⟩ : ∃ W, W = (((x4).setCell ⟨w.heap.size, 0, none⟩ (.bool (decide (q < 0)))).setCell ⟨w.heap.size, 1, none⟩ (.slice A2 (Za q.natAbs).length c2)) := ⟨_, rfl⟩
   rw [<- E] at M_n M_d M_g Q_O_d0 Q_O_g Q_O_n F_P_r0 HB9 hgrow ⊢
   clear E l_s a_s b_s f_s g_s
   have HBW := Hd HB9
   have O_d0 := Hd Q_O_d0
   have O_g := Hd Q_O_g
   have O_n := Hd Q_O_n
   have V_n := Hd (show NV y5 (w.heap.size) q A2 c2 from ⟨M_n, O_n.out.rawAt⟩)
   have V_d := Hd (show NV y5 (w.heap.size + 1) d B e0 from ⟨M_d, O_d0.out.rawAt⟩)
   have V_g := Hd (show NV y5 (g2) g A1 c1 from ⟨M_g, O_g.out.rawAt⟩)
   have P_r0 := Hd F_P_r0
   clear HB9 M_n M_d M_g Q_O_d0 Q_O_g Q_O_n F_P_r0
   obtain ⟨l_d, a_d, b_d, -, -⟩ := V_d.out.pair.facts
   obtain ⟨l_g, a_g, b_g, -, -⟩ := V_g.out.pair.facts
   go_wp2_with fail
   refine (edivide d g p s B A1 e0 c1 y5 V_d.out.raw V_g.out.raw (by omega) (by omega) HG0.out HP.out.1 HP.out.2).mono ?_
   rintro e x6 ⟨v1, v2, rfl, hI, hb⟩
   obtain ⟨A4, c4, rfl, -⟩ := hI.one.raw
   obtain ⟨A5, c5, rfl, -⟩ := hI.two.raw
   have hszb := HBW.out.size
   clear l_d a_d b_d l_g a_g b_g
   have V_n := Hd (V_n.out.below hb)
   have V_d := Hd (V_d.out.below hb)
   have V_g := Hd (V_g.out.below hb)
   have P_r0 := Hd (P_r0.out.below hb)
   have O_d0 := Hd (O_d0.out.below hb)
   have O_g := Hd (O_g.out.below hb)
   have O_n := Hd (O_n.out.below hb)
   have HBW := Hd (Zb HBW.out hb)
   have HAP := Hd (show ∀ g, (Value.slice A2 (Za q.natAbs).length c2).ownBlock = some g -> (Value.slice A4 (Za p.natAbs).length c4).ownBlock ≠ some g from fun g h1 h2 => by have a1 := HTOP.out g h1; have a2 := (hI.one.mine g h2).1; omega)
   have O_d := Hd (hI.one.base (Nat.le_trans hbw hszb))
   clear hb hI
   obtain ⟨l_s, a_s, b_s, f_s, g_s⟩ := V_d.out.pair.facts
   have M_d := V_d.out.pair.store (.bool (decide (p < 0))) (.slice A4 (Za p.natAbs).length c4)
   have M_n := V_n.out.pair.far (show w.heap.size ≠ w.heap.size + 1 by omega) (.bool (decide (p < 0))) (.slice A4 (Za p.natAbs).length c4)
   have Q_O_d := O_d.out.pairT V_d.out.pair (.bool (decide (p < 0))) (.slice A4 (Za p.natAbs).length c4)
   have Q_O_n := O_n.out.pairT V_d.out.pair (.bool (decide (p < 0))) (.slice A4 (Za p.natAbs).length c4)
   have F_P_r0 : Zw _ _ _ _ _ _ := ⟨P_r0.out.blk.far2 (show w.heap.size + 1 + 1 ≠ w.heap.size + 1 by omega) (.bool (decide (p < 0))) (.slice A4 (Za p.natAbs).length c4)⟩
   have HB9 := Yh HBW.out (show w.heap.size <= w.heap.size + 1 by omega) (.bool (decide (p < 0))) (.slice A4 (Za p.natAbs).length c4)
   have hgrow : x6.heap.size <= (((x6).setCell ⟨w.heap.size + 1, 0, none⟩ (.bool (decide (p < 0)))).setCell ⟨w.heap.size + 1, 1, none⟩ (.slice A4 (Za p.natAbs).length c4)).heap.size := by simp
   go_upto_region 5 with fail
   obtain ⟨y7, E⟩ : ∃ W, W = (((x6).setCell ⟨w.heap.size + 1, 0, none⟩ (.bool (decide (p < 0)))).setCell ⟨w.heap.size + 1, 1, none⟩ (.slice A4 (Za p.natAbs).length c4)) := ⟨_, rfl⟩
   rw [<- E] at M_d M_n Q_O_d Q_O_n F_P_r0 HB9 hgrow ⊢
   clear E l_s a_s b_s f_s g_s
   have HBW := Hd HB9
   have O_d := Hd Q_O_d
   have O_n := Hd Q_O_n
   have V_d := Hd (show NV y7 (w.heap.size + 1) p A4 c4 from ⟨M_d, O_d.out.rawAt⟩)
   have V_n := Hd (show NV y7 (w.heap.size) q A2 c2 from ⟨M_n, O_n.out.rawAt⟩)
   have P_r0 := Hd F_P_r0
   clear HB9 M_d M_n Q_O_d Q_O_n F_P_r0
   clear V_g
   have hsn := HSN.out
   obtain ⟨l_d, a_d, b_d, -, -⟩ := V_d.out.pair.facts
   go_wp2_with fail
   refine (Jp p sg A4 c4 y7 V_d.out.raw HSG.out).mono ?_
   rintro e x8 ⟨rfl, hb⟩
   clear l_d a_d b_d
   have V_n := Hd (V_n.out.below hb)
   have V_d := Hd (V_d.out.below hb)
   have P_r0 := Hd (P_r0.out.below hb)
   have O_n := Hd (O_n.out.below hb)
   have O_d := Hd (O_d.out.below hb)
   have HBW := Hd (Zb HBW.out hb)
   clear hb
   go_upto_region 6 with fail
   clear hsn
   go_wp2_with fail
   have hszz := P_r0.out.blk.lt
   refine Zf [.val (.agg #[.bool (decide (q < 0)), .slice A2 (Za q.natAbs).length c2]) [1004], .any true (fun u V => Zc V b u q') [], .val (.agg #[.bool (decide (p < 0)), .slice A4 (Za p.natAbs).length c4]) [1005], .any true (fun u V => Zc V b u p') [], .old (w.heap.size) 24 #[.bool (decide (q < 0)), .slice A2 (Za q.natAbs).length c2] 0 2 1 [], .old (w.heap.size + 1) 24 #[.bool (decide (p < 0)), .slice A4 (Za p.natAbs).length c4] 0 2 3 []] w.heap.size x8 [24] Xh _ Zg (by omega) (Below.refl _ _) (Zq.refl _ _ _) rfl ?_ ?_ ?_ ?_ ?_ ?_ ?_ ?_ rfl (by simp [ZH]) ?_ ?_ ?_ ?_
   iterate 8 kernel_rfl
   . simp only [Zu, and_true]
     exact ⟨fun u V V' h k => h.kept k (by decide), fun u V V' h k => h.kept k (by decide)⟩
   . simp only [ZR, and_true]
     exact ⟨⟨by omega, by omega, V_n.out.pair.blk, by simp⟩, by omega, by omega, V_d.out.pair.blk, by simp⟩
   . simp (maxSteps := 4000000) [Zz, Yj, Zh, ZA, Zl]
     repeat' (first | apply And.intro | (intro (u : Value)) | (intro (u : Nat)))
     all_goals try exact ⟨_, _, _, rfl, rfl, rfl, rfl, intInfo⟩
     all_goals first
     | (intro V hV hK hp
        obtain ⟨-, a_p, b_p, -, -⟩ := (Zp.mk hp).facts
        clear hV hK hp
        go_simp
        exact Below.refl _ _)
     | (intro V hV hK
        have rn := Hd ((O_n.out.kept hK (by decide)).rawAt)
        have rd := Hd ((O_d.out.kept hK (by decide)).rawAt)
        have hbV : b <= V.heap.size := Nat.le_trans hbw (Nat.le_trans HBW.out.size hV.size)
        clear hV hK
        go_simp
        first
        | ((with_reducible refine (eturned q q' A2 c2 V rn.out (by omega) HN1.out).mono ?_); rintro _ _ ⟨_, rfl, x, y⟩; exact ⟨x.base hbV, y, x.mine⟩)
        | ((with_reducible refine (eturned p p' A4 c4 V rd.out (by omega) HN2.out).mono ?_); rintro _ _ ⟨_, rfl, x, y⟩; exact ⟨x.base hbV, y, x.mine⟩))
     | exact fun _ _ _ (h : Zc _ _ _ _) => h.cells
   . simp [Yn, ZD, Zh, ZA, Zl]
     intro u1 u2 V hV hK h1 h2 p1 p2 hq _ _
     obtain ⟨A6, c6, rfl, r6⟩ := h1.raw
     obtain ⟨A7, c7, rfl, r7⟩ := h2.raw
     simp [Z9, Value.cells] at p1 p2
     have V_n := Hd (show NV V (w.heap.size) q' A6 c6 from ⟨⟨p1⟩, r6⟩)
     have V_d := Hd (show NV V (w.heap.size + 1) p' A7 c7 from ⟨⟨p2⟩, r7⟩)
     have HBW := Hd (HBW.out.trans hV)
     have P_r0 := Hd (show Zw V _ _ _ _ _ from ⟨hK.blk P_r0.out.blk (by decide)⟩)
     have O_n9 := Hd h1
     have O_d9 := Hd h2
     have HAP := Hd (show ∀ g, (Value.slice A6 (Za q'.natAbs).length c6).ownBlock = some g -> (Value.slice A7 (Za p'.natAbs).length c7).ownBlock ≠ some g from fun g => hq 1 3 rfl rfl (by decide) g)
     clear hq hV hK h1 h2 p1 p2 r6 r7
     obtain ⟨l_n, a_n, b_n, -, -⟩ := V_n.out.pair.facts
     obtain ⟨l_d, a_d, b_d, -, -⟩ := V_d.out.pair.facts
     obtain ⟨l_r, c_r0, c_r1, c_r2, c_r3, f_r0, f_r1, f_r2, f_r3⟩ := P_r0.out.facts
     have HQ9 := Hd (P_r0.out.store (.bool (decide (q' < 0))) (.slice A6 (Za q'.natAbs).length c6) (.bool (decide (p' < 0))) (.slice A7 (Za p'.natAbs).length c7))
     have HB9 := Hd (Yc HBW.out (show w.heap.size <= w.heap.size + 1 + 1 by omega) (.bool (decide (q' < 0))) (.slice A6 (Za q'.natAbs).length c6) (.bool (decide (p' < 0))) (.slice A7 (Za p'.natAbs).length c7))
     have HF := Hd (show Ze ((((V.setCell ⟨w.heap.size + 1 + 1, 0, none⟩ (.bool (decide (q' < 0)))).setCell ⟨w.heap.size + 1 + 1, 1, none⟩ (.slice A6 (Za q'.natAbs).length c6)).setCell ⟨w.heap.size + 1 + 1, 2, none⟩ (.bool (decide (p' < 0)))).setCell ⟨w.heap.size + 1 + 1, 3, none⟩ (.slice A7 (Za p'.natAbs).length c7)) b (.agg #[.bool (decide (q' < 0)), .slice A6 (Za q'.natAbs).length c6, .bool (decide (p' < 0)), .slice A7 (Za p'.natAbs).length c7]) q' p' from ⟨_, _, _, _, rfl, O_n9.out.quad P_r0.out _ _ _ _, O_d9.out.quad P_r0.out _ _ _ _, HAP.out⟩)
     go_wp2_with fail
     obtain ⟨_, k0, k1, k2, k3, _⟩ := HQ9.out.facts
     exact bodyPost_ret (by simp [results, Tryz.results169, go_sem, k0, k1, k2, k3]) rfl ⟨.agg #[.bool (decide (q' < 0)), .slice A6 (Za q'.natAbs).length c6, .bool (decide (p' < 0)), .slice A7 (Za p'.natAbs).length c7], rfl, by rw [HLN.out.1, HLN.out.2]; exact HF.out, HB9.out⟩

theorem efresh_more_pos (n d : Int) (A B : Option Addr) (c e0 b : Nat) (w : World) (h_n : Zr w A c (Za n.natAbs)) (h_d : Zr w B e0 (Za d.natAbs)) (o_n : Zc w b (.agg #[.bool (decide (n < 0)), .slice A (Za n.natAbs).length c]) n) (o_d : Zc w b (.agg #[.bool (decide (d < 0)), .slice B (Za d.natAbs).length e0]) d) (hap : ∀ g, (Value.slice A (Za n.natAbs).length c).ownBlock = some g -> (Value.slice B (Za d.natAbs).length e0).ownBlock ≠ some g) (hbw : b <= w.heap.size) (hn : lz n <= 400000000) (hd : lz d <= 400000000) (hd0 : d ≠ 0) (hs0 : ¬ d < 0) (hgc : 1 < ZK n d) :
   Calls Tryz.prog 169 #[.agg #[.bool (decide (n < 0)), .slice A (Za n.natAbs).length c], .agg #[.bool (decide (d < 0)), .slice B (Za d.natAbs).length e0]] w (ZE b w (Yx n d) (Yt n d)) := by
 obtain ⟨g, hg⟩ : ∃ k : Int, k = ZK n d := ⟨_, rfl⟩
 obtain ⟨one, hone⟩ : ∃ k : Int, k = 1 := ⟨_, rfl⟩
 obtain ⟨q, hq⟩ : ∃ k : Int, k = n.tdiv g := ⟨_, rfl⟩
 obtain ⟨r, hr⟩ : ∃ k : Int, k = n.tmod g := ⟨_, rfl⟩
 obtain ⟨p, hp⟩ : ∃ k : Int, k = d.tdiv g := ⟨_, rfl⟩
 obtain ⟨s, hs⟩ : ∃ k : Int, k = d.tmod g := ⟨_, rfl⟩
 obtain ⟨q', hq'⟩ : ∃ k : Int, k = -q := ⟨_, rfl⟩
 obtain ⟨p', hp'⟩ : ∃ k : Int, k = -p := ⟨_, rfl⟩
 have hgp := YX (n := n) hd0
 have hgl := XH (n := n) hd0
 rw [<- hg] at hgp hgl hgc
 have hql : lz q <= lz n := by rw [hq]; exact YY n g
 have hpl : lz p <= lz d := by rw [hp]; exact YY d g
 have hps : p.sign = d.sign := by rw [hp, hg]; exact tdiv_sign hd0
 have hol : lz one <= 2 := by rw [hone]; decide
 obtain ⟨sg, hsg⟩ : ∃ k : Int, k = p.sign := ⟨_, rfl⟩
 have HSG := Hd hsg
 have HSN := Hd (show decide (sg < 0) = false from by
   rw [hsg, hps]
   exact decide_eq_false (by have := YZ d; omega))
 have HG := Hd (show g = ((Nat.gcd n.natAbs d.natAbs : Nat) : Int) from hg)
 have H1 := Hd hone
 have HG0 := Hd (show g ≠ 0 from by omega)
 have HQ := Hd (And.intro hq hr)
 have HP := Hd (And.intro hp hs)
 have HN1 := Hd hq'
 have HN2 := Hd hp'
 have HK := Hd (show (1 : Int) = Xw g one from by rw [hone]; exact (cmpz_gt (by omega)).symm)
 have HLN := Hd (show Yx n d = q /\ Yt n d = p from by
   unfold Yx Yt
   rw [if_neg hs0, if_neg hs0, <- hg, <- hq, <- hp]
   exact ⟨rfl, rfl⟩)
 have OW_n := Hd o_n
 have OW_d := Hd o_d
 have HAP := Hd hap
 have _ := hbw
 clear o_n o_d hap
 clear hgc hg hone hq hr hp hs hq' hp' hs0 hsg hps hd0
 have b0 := ((((Below.refl w.heap.size w).alloc (Nat.le_refl _) (.cells #[.bool (decide (n < 0)), .slice A (Za n.natAbs).length c] 24)).alloc (by simp) (.cells #[.bool (decide (d < 0)), .slice B (Za d.natAbs).length e0] 24)).alloc (by simp; omega) (.cells #[.bool false, .slice none 0 0, .bool false, .slice none 0 0] 26))
 have p0 := ((Zp.new w 24 (.bool (decide (n < 0))) (.slice A (Za n.natAbs).length c)).alloc (.cells #[.bool (decide (d < 0)), .slice B (Za d.natAbs).length e0] 24)).alloc (.cells #[.bool false, .slice none 0 0, .bool false, .slice none 0 0] 26)
 have p1 := (Zp.new (w.alloc (.cells #[.bool (decide (n < 0)), .slice A (Za n.natAbs).length c] 24)) 24 (.bool (decide (d < 0))) (.slice B (Za d.natAbs).length e0)).alloc (.cells #[.bool false, .slice none 0 0, .bool false, .slice none 0 0] 26)
 have p2 := Zw.new ((w.alloc (.cells #[.bool (decide (n < 0)), .slice A (Za n.natAbs).length c] 24)).alloc (.cells #[.bool (decide (d < 0)), .slice B (Za d.natAbs).length e0] 24)) (.bool false) (.slice none 0 0) (.bool false) (.slice none 0 0)
 simp only [World.size_alloc] at p1 p2
 have V_n := Hd (NV.of h_n b0 p0)
 have V_d := Hd (NV.of h_d b0 p1)
 have P_r0 := Hd p2
 have RW_n := Hd h_n
 have RW_d := Hd h_d
 have HBW := Hd b0
 clear b0 p0 p1 p2 h_n h_d
 go_enter Tryz.func169, Tryz.ntmps169
 obtain ⟨W, E⟩ : ∃ W, W = (((w.alloc (.cells #[.bool (decide (n < 0)), .slice A (Za n.natAbs).length c] 24)).alloc (.cells #[.bool (decide (d < 0)), .slice B (Za d.natAbs).length e0] 24)).alloc (.cells #[.bool false, .slice none 0 0, .bool false, .slice none 0 0] 26)) := ⟨_, rfl⟩
 go_upto_region 1 with fail
 rw [<- E] at V_n V_d P_r0 HBW ⊢
 clear E
 have hsz := P_r0.out.blk.lt
 have O_n0 := Hd (OW_n.out.below HBW.out)
 have O_d0 := Hd (OW_d.out.below HBW.out)
 clear OW_n OW_d
 obtain ⟨l_n, a_n, b_n, -, -⟩ := V_n.out.pair.facts
 obtain ⟨l_d, a_d, b_d, -, -⟩ := V_d.out.pair.facts
 go_wp2_with fail
 refine (XI n d g A B c e0 W V_n.out.raw V_d.out.raw (by omega) (by omega) HG.out).mono ?_
 rintro e x1 ⟨v, rfl, hI, hb⟩
 obtain ⟨A1, c1, rfl, r1⟩ := hI.raw
 have hIg := hI.base (Nat.zero_le _)
 have hszg := hb.size
 clear l_n a_n b_n l_d a_d b_d
 have V_n := Hd (V_n.out.below hb)
 have V_d := Hd (V_d.out.below hb)
 have P_r0 := Hd (P_r0.out.below hb)
 have O_n0 := Hd (O_n0.out.below hb)
 have O_d0 := Hd (O_d0.out.below hb)
 have HBW := Hd (Zb HBW.out hb)
 have R_g := Hd r1
 clear hb r1
 have O_g := Hd hIg
 clear hI hIg
 go_upto_region 2 with fail
 have ha := ((Below.refl x1.heap.size x1).alloc (Nat.le_refl _) (.cells #[.bool (decide (g < 0)), .slice A1 (Za g.natAbs).length c1] 24))
 have p_g := (Zp.new x1 24 (.bool (decide (g < 0))) (.slice A1 (Za g.natAbs).length c1))
 obtain ⟨y2, E⟩ : ∃ W, W = (x1.alloc (.cells #[.bool (decide (g < 0)), .slice A1 (Za g.natAbs).length c1] 24)) := ⟨_, rfl⟩
 rw [<- E] at ha p_g ⊢
 have V_g := Hd (NV.of R_g.out ha p_g)
 have V_n := Hd (V_n.out.below ha)
 have V_d := Hd (V_d.out.below ha)
 have P_r0 := Hd (P_r0.out.below ha)
 have O_n0 := Hd (O_n0.out.below ha)
 have O_d0 := Hd (O_d0.out.below ha)
 have O_g := Hd (O_g.out.below ha)
 have HBW := Hd (Zb HBW.out ha)
 obtain ⟨g2, hg⟩ : ∃ g, g = x1.heap.size := ⟨_, rfl⟩
 rw [<- hg] at V_g ⊢
 have hge2 : x1.heap.size <= g2 := by omega
 clear E ha hg p_g
 go_wp2_with fail
 obtain ⟨W0, hW⟩ : ∃ W0, W0 = y2 := ⟨_, rfl⟩
 rw [<- hW] at HBW P_r0 O_n0 O_d0 O_g V_n V_d V_g  ⊢
 clear hW
 refine Zf [.val (.agg #[.bool (decide (g < 0)), .slice A1 (Za g.natAbs).length c1]) [], .any false (fun u0 V => YQ V u0 one) [], .val (.int .i64 1) [1], .val (.bool true) []] W0.heap.size W0 [] (fun _ _ => False) _ Zg (Nat.le_refl _) (Below.refl _ _) (Zq.refl _ _ _) rfl ?_ ?_ ?_ ?_ ?_ ?_ ?_ ?_ rfl (by simp [ZH]) ?_ ?_ ?_ ?_
 iterate 8 kernel_rfl
 . simp only [Zu, and_true]
   exact fun u0 V V' h k => h.keptNone k
 . simp only [ZR]
 . simp (maxSteps := 4000000) [Zz, Yj, Zh, ZA, Zl]
   repeat' (first | apply And.intro | (intro (u0 : Value)))
   all_goals first
   | (intro V hV hK
      obtain ⟨-, a_g, b_g, -, -⟩ := (V_g.out.below hV).pair.facts
      have r_g := Hd (V_g.out.below hV).raw
      clear hV hK
      go_simp
      first
      | exact Below.refl _ _
      | exact ⟨by first | rfl | decide | go_num, Below.refl _ _⟩
      | ((with_reducible refine (eof 1 one H1.out (by decide) (by decide) V).mono ?_); rintro _ _ ⟨_, rfl, x, y⟩; exact ⟨x.at_, y⟩))
   | (intro V hV hK hu
      obtain ⟨A', c', rfl, hr⟩ := hu.form
      have r_g := Hd (V_g.out.below hV).raw
      have r' := Hd hr
      clear hV hK hu hr
      go_simp
      (with_reducible refine (ecmp g one 1 A1 A' c1 c' V r_g.out r'.out (by omega) (by omega) HK.out).mono ?_)
      rintro e w' ⟨rfl, hb⟩
      exact ⟨rfl, hb⟩)
 . simp [Yn, ZD, Zh, ZA, Zl]
   intro u1 V hV hK _ _ _ _
   have V_n := Hd (V_n.out.below hV)
   have V_d := Hd (V_d.out.below hV)
   have V_g := Hd (V_g.out.below hV)
   have P_r0 := Hd (P_r0.out.below hV)
   have O_n0 := Hd (O_n0.out.below hV)
   have O_d0 := Hd (O_d0.out.below hV)
   have O_g := Hd (O_g.out.below hV)
   have HBW := Hd (Zb HBW.out hV)
   clear hV hK
   obtain ⟨v3, hV0⟩ : ∃ Y, Y = V := ⟨_, rfl⟩
   rw [<- hV0] at HBW P_r0 O_n0 O_d0 O_g V_n V_d V_g  ⊢
   clear hV0
   obtain ⟨l_n, a_n, b_n, -, -⟩ := V_n.out.pair.facts
   obtain ⟨l_g, a_g, b_g, -, -⟩ := V_g.out.pair.facts
   go_wp2_with fail
   refine (edivide n g q r A A1 c c1 v3 V_n.out.raw V_g.out.raw (by omega) (by omega) HG0.out HQ.out.1 HQ.out.2).mono ?_
   rintro e x4 ⟨v1, v2, rfl, hI, hb⟩
   obtain ⟨A2, c2, rfl, -⟩ := hI.one.raw
   obtain ⟨A3, c3, rfl, -⟩ := hI.two.raw
   have hszb := HBW.out.size
   clear l_n a_n b_n l_g a_g b_g
   have V_n := Hd (V_n.out.below hb)
   have V_d := Hd (V_d.out.below hb)
   have V_g := Hd (V_g.out.below hb)
   have P_r0 := Hd (P_r0.out.below hb)
   have O_n0 := Hd (O_n0.out.below hb)
   have O_d0 := Hd (O_d0.out.below hb)
   have O_g := Hd (O_g.out.below hb)
   have HBW := Hd (Zb HBW.out hb)
   have HTOP := Hd (show ∀ g, (Value.slice A2 (Za q.natAbs).length c2).ownBlock = some g -> g < x4.heap.size from fun g hg => (hI.one.mine g hg).2)
   have O_n := Hd (hI.one.base (Nat.le_trans hbw hszb))
   clear hb hI
   obtain ⟨l_s, a_s, b_s, f_s, g_s⟩ := V_n.out.pair.facts
   have M_n := V_n.out.pair.store (.bool (decide (q < 0))) (.slice A2 (Za q.natAbs).length c2)
   have M_d := V_d.out.pair.far (show w.heap.size + 1 ≠ w.heap.size by omega) (.bool (decide (q < 0))) (.slice A2 (Za q.natAbs).length c2)
   have M_g := V_g.out.pair.far (show g2 ≠ w.heap.size by omega) (.bool (decide (q < 0))) (.slice A2 (Za q.natAbs).length c2)
   have Q_O_d0 := O_d0.out.pairT V_n.out.pair (.bool (decide (q < 0))) (.slice A2 (Za q.natAbs).length c2)
   have Q_O_g := O_g.out.pairT V_n.out.pair (.bool (decide (q < 0))) (.slice A2 (Za q.natAbs).length c2)
   have Q_O_n := O_n.out.pairT V_n.out.pair (.bool (decide (q < 0))) (.slice A2 (Za q.natAbs).length c2)
   have F_P_r0 : Zw _ _ _ _ _ _ := ⟨P_r0.out.blk.far2 (show w.heap.size + 1 + 1 ≠ w.heap.size by omega) (.bool (decide (q < 0))) (.slice A2 (Za q.natAbs).length c2)⟩
   have HB9 := Yh HBW.out (show w.heap.size <= w.heap.size by omega) (.bool (decide (q < 0))) (.slice A2 (Za q.natAbs).length c2)
   have hgrow : x4.heap.size <= (((x4).setCell ⟨w.heap.size, 0, none⟩ (.bool (decide (q < 0)))).setCell ⟨w.heap.size, 1, none⟩ (.slice A2 (Za q.natAbs).length c2)).heap.size := by simp
   go_upto_region 4 with fail
   obtain ⟨y5, E⟩ : ∃ W, W = (((x4).setCell ⟨w.heap.size, 0, none⟩ (.bool (decide (q < 0)))).setCell ⟨w.heap.size, 1, none⟩ (.slice A2 (Za q.natAbs).length c2)) := ⟨_, rfl⟩
   rw [<- E] at M_n M_d M_g Q_O_d0 Q_O_g Q_O_n F_P_r0 HB9 hgrow ⊢
   clear E l_s a_s b_s f_s g_s
   have HBW := Hd HB9
   have O_d0 := Hd Q_O_d0
   have O_g := Hd Q_O_g
   have O_n := Hd Q_O_n
   have V_n := Hd (show NV y5 (w.heap.size) q A2 c2 from ⟨M_n, O_n.out.rawAt⟩)
   have V_d := Hd (show NV y5 (w.heap.size + 1) d B e0 from ⟨M_d, O_d0.out.rawAt⟩)
   have V_g := Hd (show NV y5 (g2) g A1 c1 from ⟨M_g, O_g.out.rawAt⟩)
   have P_r0 := Hd F_P_r0
   clear HB9 M_n M_d M_g Q_O_d0 Q_O_g Q_O_n F_P_r0
   obtain ⟨l_d, a_d, b_d, -, -⟩ := V_d.out.pair.facts
   obtain ⟨l_g, a_g, b_g, -, -⟩ := V_g.out.pair.facts
   go_wp2_with fail
   refine (edivide d g p s B A1 e0 c1 y5 V_d.out.raw V_g.out.raw (by omega) (by omega) HG0.out HP.out.1 HP.out.2).mono ?_
   rintro e x6 ⟨v1, v2, rfl, hI, hb⟩
   obtain ⟨A4, c4, rfl, -⟩ := hI.one.raw
   obtain ⟨A5, c5, rfl, -⟩ := hI.two.raw
   have hszb := HBW.out.size
   clear l_d a_d b_d l_g a_g b_g
   have V_n := Hd (V_n.out.below hb)
   have V_d := Hd (V_d.out.below hb)
   have V_g := Hd (V_g.out.below hb)
   have P_r0 := Hd (P_r0.out.below hb)
   have O_d0 := Hd (O_d0.out.below hb)
   have O_g := Hd (O_g.out.below hb)
   have O_n := Hd (O_n.out.below hb)
   have HBW := Hd (Zb HBW.out hb)
   have HAP := Hd (show ∀ g, (Value.slice A2 (Za q.natAbs).length c2).ownBlock = some g -> (Value.slice A4 (Za p.natAbs).length c4).ownBlock ≠ some g from fun g h1 h2 => by have a1 := HTOP.out g h1; have a2 := (hI.one.mine g h2).1; omega)
   have O_d := Hd (hI.one.base (Nat.le_trans hbw hszb))
   clear hb hI
   obtain ⟨l_s, a_s, b_s, f_s, g_s⟩ := V_d.out.pair.facts
   have M_d := V_d.out.pair.store (.bool (decide (p < 0))) (.slice A4 (Za p.natAbs).length c4)
   have M_n := V_n.out.pair.far (show w.heap.size ≠ w.heap.size + 1 by omega) (.bool (decide (p < 0))) (.slice A4 (Za p.natAbs).length c4)
   have Q_O_d := O_d.out.pairT V_d.out.pair (.bool (decide (p < 0))) (.slice A4 (Za p.natAbs).length c4)
   have Q_O_n := O_n.out.pairT V_d.out.pair (.bool (decide (p < 0))) (.slice A4 (Za p.natAbs).length c4)
   have F_P_r0 : Zw _ _ _ _ _ _ := ⟨P_r0.out.blk.far2 (show w.heap.size + 1 + 1 ≠ w.heap.size + 1 by omega) (.bool (decide (p < 0))) (.slice A4 (Za p.natAbs).length c4)⟩
   have HB9 := Yh HBW.out (show w.heap.size <= w.heap.size + 1 by omega) (.bool (decide (p < 0))) (.slice A4 (Za p.natAbs).length c4)
   have hgrow : x6.heap.size <= (((x6).setCell ⟨w.heap.size + 1, 0, none⟩ (.bool (decide (p < 0)))).setCell ⟨w.heap.size + 1, 1, none⟩ (.slice A4 (Za p.natAbs).length c4)).heap.size := by simp
   go_upto_region 5 with fail
   obtain ⟨y7, E⟩ : ∃ W, W = (((x6).setCell ⟨w.heap.size + 1, 0, none⟩ (.bool (decide (p < 0)))).setCell ⟨w.heap.size + 1, 1, none⟩ (.slice A4 (Za p.natAbs).length c4)) := ⟨_, rfl⟩
   rw [<- E] at M_d M_n Q_O_d Q_O_n F_P_r0 HB9 hgrow ⊢
   clear E l_s a_s b_s f_s g_s
   have HBW := Hd HB9
   have O_d := Hd Q_O_d
   have O_n := Hd Q_O_n
   have V_d := Hd (show NV y7 (w.heap.size + 1) p A4 c4 from ⟨M_d, O_d.out.rawAt⟩)
   have V_n := Hd (show NV y7 (w.heap.size) q A2 c2 from ⟨M_n, O_n.out.rawAt⟩)
   have P_r0 := Hd F_P_r0
   clear HB9 M_d M_n Q_O_d Q_O_n F_P_r0
   clear V_g
   have hsn := HSN.out
   obtain ⟨l_d, a_d, b_d, -, -⟩ := V_d.out.pair.facts
   go_wp2_with fail
   refine (Jp p sg A4 c4 y7 V_d.out.raw HSG.out).mono ?_
   rintro e x8 ⟨rfl, hb⟩
   clear l_d a_d b_d
   have V_n := Hd (V_n.out.below hb)
   have V_d := Hd (V_d.out.below hb)
   have P_r0 := Hd (P_r0.out.below hb)
   have O_n := Hd (O_n.out.below hb)
   have O_d := Hd (O_d.out.below hb)
   have HBW := Hd (Zb HBW.out hb)
   clear hb
   go_upto_region 7 with fail
   clear hsn
   obtain ⟨l_n, a_n, b_n, -, -⟩ := V_n.out.pair.facts
   obtain ⟨l_d, a_d, b_d, -, -⟩ := V_d.out.pair.facts
   obtain ⟨l_r, c_r0, c_r1, c_r2, c_r3, f_r0, f_r1, f_r2, f_r3⟩ := P_r0.out.facts
   have HQ9 := Hd (P_r0.out.store (.bool (decide (q < 0))) (.slice A2 (Za q.natAbs).length c2) (.bool (decide (p < 0))) (.slice A4 (Za p.natAbs).length c4))
   have HB9 := Hd (Yc HBW.out (show w.heap.size <= w.heap.size + 1 + 1 by omega) (.bool (decide (q < 0))) (.slice A2 (Za q.natAbs).length c2) (.bool (decide (p < 0))) (.slice A4 (Za p.natAbs).length c4))
   have HF := Hd (show Ze ((((x8.setCell ⟨w.heap.size + 1 + 1, 0, none⟩ (.bool (decide (q < 0)))).setCell ⟨w.heap.size + 1 + 1, 1, none⟩ (.slice A2 (Za q.natAbs).length c2)).setCell ⟨w.heap.size + 1 + 1, 2, none⟩ (.bool (decide (p < 0)))).setCell ⟨w.heap.size + 1 + 1, 3, none⟩ (.slice A4 (Za p.natAbs).length c4)) b (.agg #[.bool (decide (q < 0)), .slice A2 (Za q.natAbs).length c2, .bool (decide (p < 0)), .slice A4 (Za p.natAbs).length c4]) q p from ⟨_, _, _, _, rfl, O_n.out.quad P_r0.out _ _ _ _, O_d.out.quad P_r0.out _ _ _ _, HAP.out⟩)
   go_wp2_with fail
   obtain ⟨_, k0, k1, k2, k3, _⟩ := HQ9.out.facts
   exact bodyPost_ret (by simp [results, Tryz.results169, go_sem, k0, k1, k2, k3]) rfl ⟨.agg #[.bool (decide (q < 0)), .slice A2 (Za q.natAbs).length c2, .bool (decide (p < 0)), .slice A4 (Za p.natAbs).length c4], rfl, by rw [HLN.out.1, HLN.out.2]; exact HF.out, HB9.out⟩

theorem efresh (n d : Int) (A B : Option Addr) (c e0 b : Nat) (w : World) (o_n : Zc w b (.agg #[.bool (decide (n < 0)), .slice A (Za n.natAbs).length c]) n) (o_d : Zc w b (.agg #[.bool (decide (d < 0)), .slice B (Za d.natAbs).length e0]) d) (hap : ∀ g, (Value.slice A (Za n.natAbs).length c).ownBlock = some g -> (Value.slice B (Za d.natAbs).length e0).ownBlock ≠ some g) (hbw : b <= w.heap.size) (hn : lz n <= 400000000) (hd : lz d <= 400000000) (hd0 : d ≠ 0) :
   Calls Tryz.prog 169 #[.agg #[.bool (decide (n < 0)), .slice A (Za n.natAbs).length c], .agg #[.bool (decide (d < 0)), .slice B (Za d.natAbs).length e0]] w (ZE b w (Yx n d) (Yt n d)) := by
 have hp := YX (n := n) hd0
 have h := o_n.rawAt
 have g := o_d.rawAt
 rcases (by omega : ZK n d = 1 ∨ 1 < ZK n d) with h1 | h1 <;> by_cases hs : d < 0
 . exact efresh_one_neg n d A B c e0 b w h g o_n o_d hap hbw hn hd hd0 hs h1
 . exact efresh_one_pos n d A B c e0 b w h g o_n o_d hap hbw hn hd hd0 hs h1
 . exact efresh_more_neg n d A B c e0 b w h g o_n o_d hap hbw hn hd hd0 hs h1
 . exact efresh_more_pos n d A B c e0 b w h g o_n o_d hap hbw hn hd hd0 hs h1

theorem ratio_Plus_own (n d m f : Int) (A B A2 B2 : Option Addr) (c e0 c2 e2 : Nat) (w : World) (h_x : Zr w A c (Za n.natAbs)) (k_x : Zr w B e0 (Za d.natAbs)) (h_y : Zr w A2 c2 (Za m.natAbs)) (k_y : Zr w B2 e2 (Za f.natAbs)) (hn : lz n <= 100000000) (hd : lz d <= 100000000) (hm : lz m <= 100000000) (hf : lz f <= 100000000) (h0 : d ≠ 0) (h1 : f ≠ 0) :
   Calls Tryz.prog 200 #[.agg #[.bool (decide (n < 0)), .slice A (Za n.natAbs).length c, .bool (decide (d < 0)), .slice B (Za d.natAbs).length e0], .agg #[.bool (decide (m < 0)), .slice A2 (Za m.natAbs).length c2, .bool (decide (f < 0)), .slice B2 (Za f.natAbs).length e2]] w (ZE w.heap.size w (addN n d m f) (addD n d m f)) := by
 obtain ⟨p, hp⟩ : ∃ k : Int, k = n * f := ⟨_, rfl⟩
 obtain ⟨q, hq⟩ : ∃ k : Int, k = m * d := ⟨_, rfl⟩
 have hlp := Xg n f
 have hlq := Xg m d
 rw [<- hp] at hlp
 rw [<- hq] at hlq
 obtain ⟨s, hs⟩ : ∃ k : Int, k = p + q := ⟨_, rfl⟩
 have hls := lz_add p q
 rw [<- hs] at hls
 obtain ⟨t, ht⟩ : ∃ k : Int, k = d * f := ⟨_, rfl⟩
 have hlt := Xg d f
 rw [<- ht] at hlt
 have HT0 := Hd (show t ≠ 0 from by rw [ht]; exact Int.mul_ne_zero h0 h1)
 obtain ⟨N, hN⟩ : ∃ k : Int, k = Yx s t := ⟨_, rfl⟩
 obtain ⟨D, hD⟩ : ∃ k : Int, k = Yt s t := ⟨_, rfl⟩
 have HND := Hd (show addN n d m f = N /\ addD n d m f = D from by rw [hN, hD, hs, ht, hp, hq]; exact ⟨rfl, rfl⟩)
 have HS := Hd hs
 have HTT := Hd ht
 have HP := Hd hp
 have HQ := Hd hq
 clear hp hq
 have HLOW := Hd (And.intro hN hD)
 clear hs ht hN hD h0 h1
 have b0 := ((((Below.refl w.heap.size w).alloc (Nat.le_refl _) (.cells #[.bool (decide (n < 0)), .slice A (Za n.natAbs).length c, .bool (decide (d < 0)), .slice B (Za d.natAbs).length e0] 26)).alloc (by simp) (.cells #[.bool (decide (m < 0)), .slice A2 (Za m.natAbs).length c2, .bool (decide (f < 0)), .slice B2 (Za f.natAbs).length e2] 26)).alloc (by simp; omega) (.cells #[.bool false, .slice none 0 0, .bool false, .slice none 0 0] 26))
 have p0 := ((Zw.new w (.bool (decide (n < 0))) (.slice A (Za n.natAbs).length c) (.bool (decide (d < 0))) (.slice B (Za d.natAbs).length e0)).alloc (.cells #[.bool (decide (m < 0)), .slice A2 (Za m.natAbs).length c2, .bool (decide (f < 0)), .slice B2 (Za f.natAbs).length e2] 26)).alloc (.cells #[.bool false, .slice none 0 0, .bool false, .slice none 0 0] 26)
 have p1 := (Zw.new (w.alloc (.cells #[.bool (decide (n < 0)), .slice A (Za n.natAbs).length c, .bool (decide (d < 0)), .slice B (Za d.natAbs).length e0] 26)) (.bool (decide (m < 0))) (.slice A2 (Za m.natAbs).length c2) (.bool (decide (f < 0))) (.slice B2 (Za f.natAbs).length e2)).alloc (.cells #[.bool false, .slice none 0 0, .bool false, .slice none 0 0] 26)
 have p2 := Zw.new ((w.alloc (.cells #[.bool (decide (n < 0)), .slice A (Za n.natAbs).length c, .bool (decide (d < 0)), .slice B (Za d.natAbs).length e0] 26)).alloc (.cells #[.bool (decide (m < 0)), .slice A2 (Za m.natAbs).length c2, .bool (decide (f < 0)), .slice B2 (Za f.natAbs).length e2] 26)) (.bool false) (.slice none 0 0) (.bool false) (.slice none 0 0)
 simp only [World.size_alloc] at p1 p2
 have V_x := Hd (FV.mk p0 (h_x.below b0) (k_x.below b0))
 have KW_x := Hd k_x
 have V_y := Hd (FV.mk p1 (h_y.below b0) (k_y.below b0))
 have KW_y := Hd k_y
 have P_r0 := Hd p2
 have RW_x := Hd h_x
 have RW_y := Hd h_y
 have HBW := Hd b0
 clear b0 p0 p1 p2 h_x k_x h_y k_y
 go_enter Tryz.func200, Tryz.ntmps200
 obtain ⟨W, E⟩ : ∃ W, W = (((w.alloc (.cells #[.bool (decide (n < 0)), .slice A (Za n.natAbs).length c, .bool (decide (d < 0)), .slice B (Za d.natAbs).length e0] 26)).alloc (.cells #[.bool (decide (m < 0)), .slice A2 (Za m.natAbs).length c2, .bool (decide (f < 0)), .slice B2 (Za f.natAbs).length e2] 26)).alloc (.cells #[.bool false, .slice none 0 0, .bool false, .slice none 0 0] 26)) := ⟨_, rfl⟩
 go_upto_region 1 with fail
 rw [<- E] at V_x V_y P_r0 HBW ⊢
 clear E
 have hsz := P_r0.out.blk.lt
 go_wp2_with fail
 refine Zf [.val (.pointer (some ⟨w.heap.size, 0, none⟩)) [], .val (.agg #[.bool (decide (n < 0)), .slice A (Za n.natAbs).length c]) [], .val (.pointer (some ⟨w.heap.size + 1, 2, none⟩)) [], .val (.agg #[.bool (decide (f < 0)), .slice B2 (Za f.natAbs).length e2]) [], .any false (fun u V => Zc V 0 u p) [], .val (.pointer (some ⟨w.heap.size + 1, 0, none⟩)) [], .val (.agg #[.bool (decide (m < 0)), .slice A2 (Za m.natAbs).length c2]) [], .val (.pointer (some ⟨w.heap.size, 2, none⟩)) [], .val (.agg #[.bool (decide (d < 0)), .slice B (Za d.natAbs).length e0]) [], .any false (fun u V => Zc V 0 u q) [], .any true (fun u V => Zc V w.heap.size u s) [4, 9], .val (.pointer (some ⟨w.heap.size, 2, none⟩)) [], .val (.agg #[.bool (decide (d < 0)), .slice B (Za d.natAbs).length e0]) [], .val (.pointer (some ⟨w.heap.size + 1, 2, none⟩)) [], .val (.agg #[.bool (decide (f < 0)), .slice B2 (Za f.natAbs).length e2]) [], .any true (fun u V => Zc V w.heap.size u t) [], .any false (fun u V => Ze V w.heap.size u N D) [10, 15, 1010015], .old (w.heap.size + 1 + 1) 26 #[.bool false, .slice none 0 0, .bool false, .slice none 0 0] 0 4 16 []] (w.heap.size + 1 + 1) W [26] Xh _ Zg (by omega) (Below.refl _ _) (Zq.refl _ _ _) rfl ?_ ?_ ?_ ?_ ?_ ?_ ?_ ?_ rfl (by simp [ZH]) ?_ ?_ ?_ ?_
 iterate 8 kernel_rfl
 . simp only [Zu, and_true]
   exact ⟨fun u V V' h k => h.kept k (by decide), fun u V V' h k => h.kept k (by decide), fun u V V' h k => h.kept k (by decide), fun u V V' h k => h.kept k (by decide), fun u V V' h k => h.kept k (by decide)⟩
 . simp only [ZR, and_true]
   exact ⟨Nat.le_refl _, P_r0.out.blk.lt, P_r0.out.blk, by simp⟩
 . simp (maxSteps := 4000000) [Zz, Yj, Zh, ZA, Zl]
   repeat' (first | apply And.intro | (intro (u : Value)) | (intro (u : Nat)))
   all_goals try exact ⟨_, _, _, rfl, rfl, rfl, rfl, YB⟩
   all_goals first
   | (intro V hV hK
      have qx : Zw V (w.heap.size) _ _ _ _ := ⟨V_x.out.quad.blk.below hV (by omega)⟩
      obtain ⟨-, a_x, b_x, c_x, d_x, -, -, -, -⟩ := qx.facts
      have qy : Zw V (w.heap.size + 1) _ _ _ _ := ⟨V_y.out.quad.blk.below hV (by omega)⟩
      obtain ⟨-, a_y, b_y, c_y, d_y, -, -, -, -⟩ := qy.facts
      have rn_x := Hd (RW_x.out.below (HBW.out.trans (hV.mono (by omega))))
      have rd_x := Hd (KW_x.out.below (HBW.out.trans (hV.mono (by omega))))
      have rn_y := Hd (RW_y.out.below (HBW.out.trans (hV.mono (by omega))))
      have rd_y := Hd (KW_y.out.below (HBW.out.trans (hV.mono (by omega))))
      have hvs : w.heap.size <= V.heap.size := by have := hV.size; have := HBW.out.size; omega
      clear hV hK qx qy
      go_simp
      first
      | exact Below.refl _ _
      | ((with_reducible refine (etimes n f p A B2 c e2 V rn_x.out rd_y.out (by omega) (by omega) HP.out).mono ?_); rintro e w' ⟨v, rfl, hv, hb⟩; first | exact ⟨hv.base (Nat.zero_le _), hb⟩ | exact ⟨hv.base hvs, hb, hv.mine⟩)
      | ((with_reducible refine (etimes m d q A2 B c2 e0 V rn_y.out rd_x.out (by omega) (by omega) HQ.out).mono ?_); rintro e w' ⟨v, rfl, hv, hb⟩; first | exact ⟨hv.base (Nat.zero_le _), hb⟩ | exact ⟨hv.base hvs, hb, hv.mine⟩)
      | ((with_reducible refine (etimes d f t B B2 e0 e2 V rd_x.out rd_y.out (by omega) (by omega) HTT.out).mono ?_); rintro e w' ⟨v, rfl, hv, hb⟩; first | exact ⟨hv.base (Nat.zero_le _), hb⟩ | exact ⟨hv.base hvs, hb, hv.mine⟩)
)
   | (intro V hV hK h1 h2 hq
      obtain ⟨A6, c6, rfl, -⟩ := h1.raw
      obtain ⟨A7, c7, rfl, -⟩ := h2.raw
      have hq2 : ∀ g, (Value.slice A6 (Za s.natAbs).length c6).ownBlock = some g -> (Value.slice A7 (Za t.natAbs).length c7).ownBlock ≠ some g := hq
      have hvs : w.heap.size <= V.heap.size := by have := hV.size; have := HBW.out.size; omega
      clear hV hK
      go_simp
      (with_reducible refine (efresh s t A6 A7 c6 c7 w.heap.size V h1 h2 hq2 hvs (by omega) (by omega) HT0.out).mono ?_); rintro e w' ⟨v, rfl, hv, hb⟩; rw [<- HLOW.out.1, <- HLOW.out.2] at hv; exact ⟨hv, hb⟩)
   | (intro V hV hK h1 h2
      obtain ⟨A6, c6, rfl, r6⟩ := h1.raw
      obtain ⟨A7, c7, rfl, r7⟩ := h2.raw
      have hvs : w.heap.size <= V.heap.size := by have := hV.size; have := HBW.out.size; omega
      clear hV hK h1 h2
      go_simp
      (with_reducible refine (eplus p q s A6 A7 c6 c7 V r6 r7 (by omega) (by omega) HS.out).mono ?_); rintro _ _ ⟨_, rfl, x, y⟩; exact ⟨x.base hvs, y, x.mine⟩)
   | exact fun _ _ _ (h : Ze _ _ _ _ _) => h.cells
 . simp [Yn, ZD, Zh, ZA, Zl]
   intro u1 u2 u3 u4 u5 V hV hK h1 h2 h3 h4 h5 bq _ _ _
   have HF := Hd h5
   obtain ⟨A6, c6, A7, c7, rfl, -⟩ := h5.form
   simp [Z9, Value.cells] at bq
   have k0 := bq.cell 0
   have k1 := bq.cell 1
   have k2 := bq.cell 2
   have k3 := bq.cell 3
   simp at k0 k1 k2 k3
   have HB9 := Hd (HBW.out.trans (hV.mono (by omega)))
   clear h1 h2 h3 h4 h5 hV hK bq
   go_wp2_with fail
   exact bodyPost_ret (by simp [results, Tryz.results200, go_sem, k0, k1, k2, k3]) rfl ⟨.agg #[.bool (decide (N < 0)), .slice A6 (Za N.natAbs).length c6, .bool (decide (D < 0)), .slice A7 (Za D.natAbs).length c7], rfl, by rw [HND.out.1, HND.out.2]; exact HF.out, HB9.out⟩

theorem ratio_Minus_own (n d m f : Int) (A B A2 B2 : Option Addr) (c e0 c2 e2 : Nat) (w : World) (h_x : Zr w A c (Za n.natAbs)) (k_x : Zr w B e0 (Za d.natAbs)) (h_y : Zr w A2 c2 (Za m.natAbs)) (k_y : Zr w B2 e2 (Za f.natAbs)) (hn : lz n <= 100000000) (hd : lz d <= 100000000) (hm : lz m <= 100000000) (hf : lz f <= 100000000) (h0 : d ≠ 0) (h1 : f ≠ 0) :
   Calls Tryz.prog 201 #[.agg #[.bool (decide (n < 0)), .slice A (Za n.natAbs).length c, .bool (decide (d < 0)), .slice B (Za d.natAbs).length e0], .agg #[.bool (decide (m < 0)), .slice A2 (Za m.natAbs).length c2, .bool (decide (f < 0)), .slice B2 (Za f.natAbs).length e2]] w (ZE w.heap.size w (subN n d m f) (subD n d m f)) := by
 obtain ⟨p, hp⟩ : ∃ k : Int, k = n * f := ⟨_, rfl⟩
 obtain ⟨q, hq⟩ : ∃ k : Int, k = m * d := ⟨_, rfl⟩
 have hlp := Xg n f
 have hlq := Xg m d
 rw [<- hp] at hlp
 rw [<- hq] at hlq
 obtain ⟨s, hs⟩ : ∃ k : Int, k = p - q := ⟨_, rfl⟩
 have hls := lz_sub p q
 rw [<- hs] at hls
 obtain ⟨t, ht⟩ : ∃ k : Int, k = d * f := ⟨_, rfl⟩
 have hlt := Xg d f
 rw [<- ht] at hlt
 have HT0 := Hd (show t ≠ 0 from by rw [ht]; exact Int.mul_ne_zero h0 h1)
 obtain ⟨N, hN⟩ : ∃ k : Int, k = Yx s t := ⟨_, rfl⟩
 obtain ⟨D, hD⟩ : ∃ k : Int, k = Yt s t := ⟨_, rfl⟩
 have HND := Hd (show subN n d m f = N /\ subD n d m f = D from by rw [hN, hD, hs, ht, hp, hq]; exact ⟨rfl, rfl⟩)
 have HS := Hd hs
 have HTT := Hd ht
 have HP := Hd hp
 have HQ := Hd hq
 clear hp hq
 have HLOW := Hd (And.intro hN hD)
 clear hs ht hN hD h0 h1
 have b0 := ((((Below.refl w.heap.size w).alloc (Nat.le_refl _) (.cells #[.bool (decide (n < 0)), .slice A (Za n.natAbs).length c, .bool (decide (d < 0)), .slice B (Za d.natAbs).length e0] 26)).alloc (by simp) (.cells #[.bool (decide (m < 0)), .slice A2 (Za m.natAbs).length c2, .bool (decide (f < 0)), .slice B2 (Za f.natAbs).length e2] 26)).alloc (by simp; omega) (.cells #[.bool false, .slice none 0 0, .bool false, .slice none 0 0] 26))
 have p0 := ((Zw.new w (.bool (decide (n < 0))) (.slice A (Za n.natAbs).length c) (.bool (decide (d < 0))) (.slice B (Za d.natAbs).length e0)).alloc (.cells #[.bool (decide (m < 0)), .slice A2 (Za m.natAbs).length c2, .bool (decide (f < 0)), .slice B2 (Za f.natAbs).length e2] 26)).alloc (.cells #[.bool false, .slice none 0 0, .bool false, .slice none 0 0] 26)
 have p1 := (Zw.new (w.alloc (.cells #[.bool (decide (n < 0)), .slice A (Za n.natAbs).length c, .bool (decide (d < 0)), .slice B (Za d.natAbs).length e0] 26)) (.bool (decide (m < 0))) (.slice A2 (Za m.natAbs).length c2) (.bool (decide (f < 0))) (.slice B2 (Za f.natAbs).length e2)).alloc (.cells #[.bool false, .slice none 0 0, .bool false, .slice none 0 0] 26)
 have p2 := Zw.new ((w.alloc (.cells #[.bool (decide (n < 0)), .slice A (Za n.natAbs).length c, .bool (decide (d < 0)), .slice B (Za d.natAbs).length e0] 26)).alloc (.cells #[.bool (decide (m < 0)), .slice A2 (Za m.natAbs).length c2, .bool (decide (f < 0)), .slice B2 (Za f.natAbs).length e2] 26)) (.bool false) (.slice none 0 0) (.bool false) (.slice none 0 0)
 simp only [World.size_alloc] at p1 p2
 have V_x := Hd (FV.mk p0 (h_x.below b0) (k_x.below b0))
 have KW_x := Hd k_x
 have V_y := Hd (FV.mk p1 (h_y.below b0) (k_y.below b0))
 have KW_y := Hd k_y
 have P_r0 := Hd p2
 have RW_x := Hd h_x
 have RW_y := Hd h_y
 have HBW := Hd b0
 clear b0 p0 p1 p2 h_x k_x h_y k_y
 go_enter Tryz.func201, Tryz.ntmps201
 obtain ⟨W, E⟩ : ∃ W, W = (((w.alloc (.cells #[.bool (decide (n < 0)), .slice A (Za n.natAbs).length c, .bool (decide (d < 0)), .slice B (Za d.natAbs).length e0] 26)).alloc (.cells #[.bool (decide (m < 0)), .slice A2 (Za m.natAbs).length c2, .bool (decide (f < 0)), .slice B2 (Za f.natAbs).length e2] 26)).alloc (.cells #[.bool false, .slice none 0 0, .bool false, .slice none 0 0] 26)) := ⟨_, rfl⟩
 go_upto_region 1 with fail
 rw [<- E] at V_x V_y P_r0 HBW ⊢
 clear E
 have hsz := P_r0.out.blk.lt
 go_wp2_with fail
 refine Zf [.val (.pointer (some ⟨w.heap.size, 0, none⟩)) [], .val (.agg #[.bool (decide (n < 0)), .slice A (Za n.natAbs).length c]) [], .val (.pointer (some ⟨w.heap.size + 1, 2, none⟩)) [], .val (.agg #[.bool (decide (f < 0)), .slice B2 (Za f.natAbs).length e2]) [], .any false (fun u V => Zc V 0 u p) [], .val (.pointer (some ⟨w.heap.size + 1, 0, none⟩)) [], .val (.agg #[.bool (decide (m < 0)), .slice A2 (Za m.natAbs).length c2]) [], .val (.pointer (some ⟨w.heap.size, 2, none⟩)) [], .val (.agg #[.bool (decide (d < 0)), .slice B (Za d.natAbs).length e0]) [], .any false (fun u V => Zc V 0 u q) [], .any true (fun u V => Zc V w.heap.size u s) [4, 9], .val (.pointer (some ⟨w.heap.size, 2, none⟩)) [], .val (.agg #[.bool (decide (d < 0)), .slice B (Za d.natAbs).length e0]) [], .val (.pointer (some ⟨w.heap.size + 1, 2, none⟩)) [], .val (.agg #[.bool (decide (f < 0)), .slice B2 (Za f.natAbs).length e2]) [], .any true (fun u V => Zc V w.heap.size u t) [], .any false (fun u V => Ze V w.heap.size u N D) [10, 15, 1010015], .old (w.heap.size + 1 + 1) 26 #[.bool false, .slice none 0 0, .bool false, .slice none 0 0] 0 4 16 []] (w.heap.size + 1 + 1) W [26] Xh _ Zg (by omega) (Below.refl _ _) (Zq.refl _ _ _) rfl ?_ ?_ ?_ ?_ ?_ ?_ ?_ ?_ rfl (by simp [ZH]) ?_ ?_ ?_ ?_
 iterate 8 kernel_rfl
 . simp only [Zu, and_true]
   exact ⟨fun u V V' h k => h.kept k (by decide), fun u V V' h k => h.kept k (by decide), fun u V V' h k => h.kept k (by decide), fun u V V' h k => h.kept k (by decide), fun u V V' h k => h.kept k (by decide)⟩
 . simp only [ZR, and_true]
   exact ⟨Nat.le_refl _, P_r0.out.blk.lt, P_r0.out.blk, by simp⟩
 . simp (maxSteps := 4000000) [Zz, Yj, Zh, ZA, Zl]
   repeat' (first | apply And.intro | (intro (u : Value)) | (intro (u : Nat)))
   all_goals try exact ⟨_, _, _, rfl, rfl, rfl, rfl, YB⟩
   all_goals first
   | (intro V hV hK
      have qx : Zw V (w.heap.size) _ _ _ _ := ⟨V_x.out.quad.blk.below hV (by omega)⟩
      obtain ⟨-, a_x, b_x, c_x, d_x, -, -, -, -⟩ := qx.facts
      have qy : Zw V (w.heap.size + 1) _ _ _ _ := ⟨V_y.out.quad.blk.below hV (by omega)⟩
      obtain ⟨-, a_y, b_y, c_y, d_y, -, -, -, -⟩ := qy.facts
      have rn_x := Hd (RW_x.out.below (HBW.out.trans (hV.mono (by omega))))
      have rd_x := Hd (KW_x.out.below (HBW.out.trans (hV.mono (by omega))))
      have rn_y := Hd (RW_y.out.below (HBW.out.trans (hV.mono (by omega))))
      have rd_y := Hd (KW_y.out.below (HBW.out.trans (hV.mono (by omega))))
      have hvs : w.heap.size <= V.heap.size := by have := hV.size; have := HBW.out.size; omega
      clear hV hK qx qy
      go_simp
      first
      | exact Below.refl _ _
      | ((with_reducible refine (etimes n f p A B2 c e2 V rn_x.out rd_y.out (by omega) (by omega) HP.out).mono ?_); rintro e w' ⟨v, rfl, hv, hb⟩; first | exact ⟨hv.base (Nat.zero_le _), hb⟩ | exact ⟨hv.base hvs, hb, hv.mine⟩)
      | ((with_reducible refine (etimes m d q A2 B c2 e0 V rn_y.out rd_x.out (by omega) (by omega) HQ.out).mono ?_); rintro e w' ⟨v, rfl, hv, hb⟩; first | exact ⟨hv.base (Nat.zero_le _), hb⟩ | exact ⟨hv.base hvs, hb, hv.mine⟩)
      | ((with_reducible refine (etimes d f t B B2 e0 e2 V rd_x.out rd_y.out (by omega) (by omega) HTT.out).mono ?_); rintro e w' ⟨v, rfl, hv, hb⟩; first | exact ⟨hv.base (Nat.zero_le _), hb⟩ | exact ⟨hv.base hvs, hb, hv.mine⟩)
)
   | (intro V hV hK h1 h2 hq
      obtain ⟨A6, c6, rfl, -⟩ := h1.raw
      obtain ⟨A7, c7, rfl, -⟩ := h2.raw
      have hq2 : ∀ g, (Value.slice A6 (Za s.natAbs).length c6).ownBlock = some g -> (Value.slice A7 (Za t.natAbs).length c7).ownBlock ≠ some g := hq
      have hvs : w.heap.size <= V.heap.size := by have := hV.size; have := HBW.out.size; omega
      clear hV hK
      go_simp
      (with_reducible refine (efresh s t A6 A7 c6 c7 w.heap.size V h1 h2 hq2 hvs (by omega) (by omega) HT0.out).mono ?_); rintro e w' ⟨v, rfl, hv, hb⟩; rw [<- HLOW.out.1, <- HLOW.out.2] at hv; exact ⟨hv, hb⟩)
   | (intro V hV hK h1 h2
      obtain ⟨A6, c6, rfl, r6⟩ := h1.raw
      obtain ⟨A7, c7, rfl, r7⟩ := h2.raw
      have hvs : w.heap.size <= V.heap.size := by have := hV.size; have := HBW.out.size; omega
      clear hV hK h1 h2
      go_simp
      (with_reducible refine (eminus p q s A6 A7 c6 c7 V r6 r7 (by omega) (by omega) HS.out).mono ?_); rintro _ _ ⟨_, rfl, x, y⟩; exact ⟨x.base hvs, y, x.mine⟩)
   | exact fun _ _ _ (h : Ze _ _ _ _ _) => h.cells
 . simp [Yn, ZD, Zh, ZA, Zl]
   intro u1 u2 u3 u4 u5 V hV hK h1 h2 h3 h4 h5 bq _ _ _
   have HF := Hd h5
   obtain ⟨A6, c6, A7, c7, rfl, -⟩ := h5.form
   simp [Z9, Value.cells] at bq
   have k0 := bq.cell 0
   have k1 := bq.cell 1
   have k2 := bq.cell 2
   have k3 := bq.cell 3
   simp at k0 k1 k2 k3
   have HB9 := Hd (HBW.out.trans (hV.mono (by omega)))
   clear h1 h2 h3 h4 h5 hV hK bq
   go_wp2_with fail
   exact bodyPost_ret (by simp [results, Tryz.results201, go_sem, k0, k1, k2, k3]) rfl ⟨.agg #[.bool (decide (N < 0)), .slice A6 (Za N.natAbs).length c6, .bool (decide (D < 0)), .slice A7 (Za D.natAbs).length c7], rfl, by rw [HND.out.1, HND.out.2]; exact HF.out, HB9.out⟩

theorem ratio_Times_own (n d m f : Int) (A B A2 B2 : Option Addr) (c e0 c2 e2 : Nat) (w : World) (h_x : Zr w A c (Za n.natAbs)) (k_x : Zr w B e0 (Za d.natAbs)) (h_y : Zr w A2 c2 (Za m.natAbs)) (k_y : Zr w B2 e2 (Za f.natAbs)) (hn : lz n <= 100000000) (hd : lz d <= 100000000) (hm : lz m <= 100000000) (hf : lz f <= 100000000) (h0 : d ≠ 0) (h1 : f ≠ 0) :
   Calls Tryz.prog 199 #[.agg #[.bool (decide (n < 0)), .slice A (Za n.natAbs).length c, .bool (decide (d < 0)), .slice B (Za d.natAbs).length e0], .agg #[.bool (decide (m < 0)), .slice A2 (Za m.natAbs).length c2, .bool (decide (f < 0)), .slice B2 (Za f.natAbs).length e2]] w (ZE w.heap.size w (mulN n d m f) (mulD n d m f)) := by
 obtain ⟨s, hs⟩ : ∃ k : Int, k = n * m := ⟨_, rfl⟩
 have hls := Xg n m
 rw [<- hs] at hls
 obtain ⟨t, ht⟩ : ∃ k : Int, k = d * f := ⟨_, rfl⟩
 have hlt := Xg d f
 rw [<- ht] at hlt
 have HT0 := Hd (show t ≠ 0 from by rw [ht]; exact Int.mul_ne_zero h0 h1)
 obtain ⟨N, hN⟩ : ∃ k : Int, k = Yx s t := ⟨_, rfl⟩
 obtain ⟨D, hD⟩ : ∃ k : Int, k = Yt s t := ⟨_, rfl⟩
 have HND := Hd (show mulN n d m f = N /\ mulD n d m f = D from by rw [hN, hD, hs, ht]; exact ⟨rfl, rfl⟩)
 have HS := Hd hs
 have HTT := Hd ht
 have HLOW := Hd (And.intro hN hD)
 clear hs ht hN hD h0 h1
 have b0 := ((((Below.refl w.heap.size w).alloc (Nat.le_refl _) (.cells #[.bool (decide (n < 0)), .slice A (Za n.natAbs).length c, .bool (decide (d < 0)), .slice B (Za d.natAbs).length e0] 26)).alloc (by simp) (.cells #[.bool (decide (m < 0)), .slice A2 (Za m.natAbs).length c2, .bool (decide (f < 0)), .slice B2 (Za f.natAbs).length e2] 26)).alloc (by simp; omega) (.cells #[.bool false, .slice none 0 0, .bool false, .slice none 0 0] 26))
 have p0 := ((Zw.new w (.bool (decide (n < 0))) (.slice A (Za n.natAbs).length c) (.bool (decide (d < 0))) (.slice B (Za d.natAbs).length e0)).alloc (.cells #[.bool (decide (m < 0)), .slice A2 (Za m.natAbs).length c2, .bool (decide (f < 0)), .slice B2 (Za f.natAbs).length e2] 26)).alloc (.cells #[.bool false, .slice none 0 0, .bool false, .slice none 0 0] 26)
 have p1 := (Zw.new (w.alloc (.cells #[.bool (decide (n < 0)), .slice A (Za n.natAbs).length c, .bool (decide (d < 0)), .slice B (Za d.natAbs).length e0] 26)) (.bool (decide (m < 0))) (.slice A2 (Za m.natAbs).length c2) (.bool (decide (f < 0))) (.slice B2 (Za f.natAbs).length e2)).alloc (.cells #[.bool false, .slice none 0 0, .bool false, .slice none 0 0] 26)
 have p2 := Zw.new ((w.alloc (.cells #[.bool (decide (n < 0)), .slice A (Za n.natAbs).length c, .bool (decide (d < 0)), .slice B (Za d.natAbs).length e0] 26)).alloc (.cells #[.bool (decide (m < 0)), .slice A2 (Za m.natAbs).length c2, .bool (decide (f < 0)), .slice B2 (Za f.natAbs).length e2] 26)) (.bool false) (.slice none 0 0) (.bool false) (.slice none 0 0)
 simp only [World.size_alloc] at p1 p2
 have V_x := Hd (FV.mk p0 (h_x.below b0) (k_x.below b0))
 have KW_x := Hd k_x
 have V_y := Hd (FV.mk p1 (h_y.below b0) (k_y.below b0))
 have KW_y := Hd k_y
 have P_r0 := Hd p2
 have RW_x := Hd h_x
 have RW_y := Hd h_y
 have HBW := Hd b0
 clear b0 p0 p1 p2 h_x k_x h_y k_y
 go_enter Tryz.func199, Tryz.ntmps199
 obtain ⟨W, E⟩ : ∃ W, W = (((w.alloc (.cells #[.bool (decide (n < 0)), .slice A (Za n.natAbs).length c, .bool (decide (d < 0)), .slice B (Za d.natAbs).length e0] 26)).alloc (.cells #[.bool (decide (m < 0)), .slice A2 (Za m.natAbs).length c2, .bool (decide (f < 0)), .slice B2 (Za f.natAbs).length e2] 26)).alloc (.cells #[.bool false, .slice none 0 0, .bool false, .slice none 0 0] 26)) := ⟨_, rfl⟩
 go_upto_region 1 with fail
 rw [<- E] at V_x V_y P_r0 HBW ⊢
 clear E
 have hsz := P_r0.out.blk.lt
 go_wp2_with fail
 refine Zf [.val (.pointer (some ⟨w.heap.size, 0, none⟩)) [], .val (.agg #[.bool (decide (n < 0)), .slice A (Za n.natAbs).length c]) [], .val (.pointer (some ⟨w.heap.size + 1, 0, none⟩)) [], .val (.agg #[.bool (decide (m < 0)), .slice A2 (Za m.natAbs).length c2]) [], .any true (fun u V => Zc V w.heap.size u s) [], .val (.pointer (some ⟨w.heap.size, 2, none⟩)) [], .val (.agg #[.bool (decide (d < 0)), .slice B (Za d.natAbs).length e0]) [], .val (.pointer (some ⟨w.heap.size + 1, 2, none⟩)) [], .val (.agg #[.bool (decide (f < 0)), .slice B2 (Za f.natAbs).length e2]) [], .any true (fun u V => Zc V w.heap.size u t) [], .any false (fun u V => Ze V w.heap.size u N D) [4, 9, 1004009], .old (w.heap.size + 1 + 1) 26 #[.bool false, .slice none 0 0, .bool false, .slice none 0 0] 0 4 10 []] (w.heap.size + 1 + 1) W [26] Xh _ Zg (by omega) (Below.refl _ _) (Zq.refl _ _ _) rfl ?_ ?_ ?_ ?_ ?_ ?_ ?_ ?_ rfl (by simp [ZH]) ?_ ?_ ?_ ?_
 iterate 8 kernel_rfl
 . simp only [Zu, and_true]
   exact ⟨fun u V V' h k => h.kept k (by decide), fun u V V' h k => h.kept k (by decide), fun u V V' h k => h.kept k (by decide)⟩
 . simp only [ZR, and_true]
   exact ⟨Nat.le_refl _, P_r0.out.blk.lt, P_r0.out.blk, by simp⟩
 . simp (maxSteps := 4000000) [Zz, Yj, Zh, ZA, Zl]
   repeat' (first | apply And.intro | (intro (u : Value)) | (intro (u : Nat)))
   all_goals try exact ⟨_, _, _, rfl, rfl, rfl, rfl, YB⟩
   all_goals first
   | (intro V hV hK
      have qx : Zw V (w.heap.size) _ _ _ _ := ⟨V_x.out.quad.blk.below hV (by omega)⟩
      obtain ⟨-, a_x, b_x, c_x, d_x, -, -, -, -⟩ := qx.facts
      have qy : Zw V (w.heap.size + 1) _ _ _ _ := ⟨V_y.out.quad.blk.below hV (by omega)⟩
      obtain ⟨-, a_y, b_y, c_y, d_y, -, -, -, -⟩ := qy.facts
      have rn_x := Hd (RW_x.out.below (HBW.out.trans (hV.mono (by omega))))
      have rd_x := Hd (KW_x.out.below (HBW.out.trans (hV.mono (by omega))))
      have rn_y := Hd (RW_y.out.below (HBW.out.trans (hV.mono (by omega))))
      have rd_y := Hd (KW_y.out.below (HBW.out.trans (hV.mono (by omega))))
      have hvs : w.heap.size <= V.heap.size := by have := hV.size; have := HBW.out.size; omega
      clear hV hK qx qy
      go_simp
      first
      | exact Below.refl _ _
      | ((with_reducible refine (etimes n m s A A2 c c2 V rn_x.out rn_y.out (by omega) (by omega) HS.out).mono ?_); rintro e w' ⟨v, rfl, hv, hb⟩; first | exact ⟨hv.base (Nat.zero_le _), hb⟩ | exact ⟨hv.base hvs, hb, hv.mine⟩)
      | ((with_reducible refine (etimes d f t B B2 e0 e2 V rd_x.out rd_y.out (by omega) (by omega) HTT.out).mono ?_); rintro e w' ⟨v, rfl, hv, hb⟩; first | exact ⟨hv.base (Nat.zero_le _), hb⟩ | exact ⟨hv.base hvs, hb, hv.mine⟩)
)
   | (intro V hV hK h1 h2 hq
      obtain ⟨A6, c6, rfl, -⟩ := h1.raw
      obtain ⟨A7, c7, rfl, -⟩ := h2.raw
      have hq2 : ∀ g, (Value.slice A6 (Za s.natAbs).length c6).ownBlock = some g -> (Value.slice A7 (Za t.natAbs).length c7).ownBlock ≠ some g := hq
      have hvs : w.heap.size <= V.heap.size := by have := hV.size; have := HBW.out.size; omega
      clear hV hK
      go_simp
      (with_reducible refine (efresh s t A6 A7 c6 c7 w.heap.size V h1 h2 hq2 hvs (by omega) (by omega) HT0.out).mono ?_); rintro e w' ⟨v, rfl, hv, hb⟩; rw [<- HLOW.out.1, <- HLOW.out.2] at hv; exact ⟨hv, hb⟩)
   | exact fun _ _ _ (h : Ze _ _ _ _ _) => h.cells
 . simp [Yn, ZD, Zh, ZA, Zl]
   intro u1 u2 u3 V hV hK h1 h2 h3 bq _ _ _
   have HF := Hd h3
   obtain ⟨A6, c6, A7, c7, rfl, -⟩ := h3.form
   simp [Z9, Value.cells] at bq
   have k0 := bq.cell 0
   have k1 := bq.cell 1
   have k2 := bq.cell 2
   have k3 := bq.cell 3
   simp at k0 k1 k2 k3
   have HB9 := Hd (HBW.out.trans (hV.mono (by omega)))
   clear h1 h2 h3 hV hK bq
   go_wp2_with fail
   exact bodyPost_ret (by simp [results, Tryz.results199, go_sem, k0, k1, k2, k3]) rfl ⟨.agg #[.bool (decide (N < 0)), .slice A6 (Za N.natAbs).length c6, .bool (decide (D < 0)), .slice A7 (Za D.natAbs).length c7], rfl, by rw [HND.out.1, HND.out.2]; exact HF.out, HB9.out⟩


structure TurnIn (z d : Int) (B : Option Addr) (e0 : Nat) (v : Value) (V : World) : Prop where
 form : ∃ A c, v = .agg #[.bool (decide (z < 0)), .slice A (Za z.natAbs).length c, .bool (decide (d < 0)), .slice B (Za d.natAbs).length e0] /\ Zc V 0 (.agg #[.bool (decide (z < 0)), .slice A (Za z.natAbs).length c]) z
end Go.Proofs.YtdonecnhdkjniaaGreatDoor
