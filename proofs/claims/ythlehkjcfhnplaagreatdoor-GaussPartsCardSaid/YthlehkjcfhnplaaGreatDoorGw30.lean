/- Several texts in one: FieldLaw, LawSum, FracC, GUnit, GUnit2. -/
import Derived.Test.YthlehkjcfhnplaaGreatDoorGw27
set_option maxRecDepth 100000
set_option maxHeartbeats 8000000
/- GaussField, GaussNorms, GaussCircle as laws of rational numbers: nothing is refused. -/
namespace Go.Proofs.YthlehkjcfhnplaaGreatDoor
open Go.RowKit

def ln (q : Rat) : Nat := lz q.num
def ld (q : Rat) : Nat := lz (q.den : Int)
/- sum and times of the laws: nothing is refused. (Written by wip/gauss/genlawsum.py.) -/

abbrev OpS (F : FuncId) (n d m f p q r s N D M E : Int) : Prop := ∀ (V : World) (v1 v2 : Value) (kk : Nat), Zp V v1 n d m f -> Zp V v2 p q r s -> Cell1 V kk 4 (.bool true) -> Calls Tryz.prog F #[v1, v2, .pointer (some ⟨kk, 0, none⟩)] V (ZQ V.heap.size V N D M E)

/- The calls of package frac, and Norm and Conj of gauss, over numbers that may be, where nothing is refused. -/

abbrev OpR2 (F : FuncId) (n d m f N D : Int) : Prop := ∀ (V : World) (v1 v2 : Value), ZX V v1 n d -> ZX V v2 m f -> Calls Tryz.prog F #[v1, v2] V (XX V.heap.size V N D 0)
section
variable {a b : Rat} {n d m f N D : Int}
end
/- Unit of argand. (Written by wip/gauss/genunit.py.) -/

structure XG (z o : Int) (A : Option Addr) (c : Nat) (u : Value) (V : World) : Prop where
 form : ∃ A9 c9, u = .agg #[.bool (decide (z < 0)), .slice A (Za z.natAbs).length c, .bool (decide (o < 0)), .slice A9 (Za o.natAbs).length c9] /\ Ze V 0 (.agg #[.bool (decide (o < 0)), .slice A9 (Za o.natAbs).length c9]) o
theorem XG.kept {z o : Int} {A : Option Addr} {c : Nat} {u : Value} {V V' : World} {B : Nat} {Ts : List TypeId} (h : XG z o A c u V) (k : Zq B Ts V V') (hT : 114 ∉ Ts) : XG z o A c u V' := by
 obtain ⟨A9, c9, h1, h2⟩ := h.form
 exact ⟨A9, c9, h1, h2.kept k hT⟩
theorem XG.cells {z o : Int} {A : Option Addr} {c : Nat} {u : Value} {V : World} (h : XG z o A c u V) : XP u 4 := by
 obtain ⟨A9, c9, rfl, -⟩ := h.form
 exact ⟨rfl, by simp [Value.cells, Value.oneCell']⟩
theorem field_num (V : World) (b1 b2 : Bool) (A B : Option Addr) (n c m e : Nat) : (Instr.field 26 (.agg #[.bool b1, .slice A n c, .bool b2, .slice B m e]) 0).run Tryz.prog V = .ok (.agg #[.bool b1, .slice A n c]) V := by kernel_rfl

theorem argand_Unit {n d i t1 t2 t3 t4 n1 n2 o1 o2 N D M E : Int} (C1 : OpR0 200 i i) (C2 : OpG 191 d i n i d i n i t1 t2 t3 t4) (C3 : OpN 122 d i n i n1 n2) (C4 : OpR 146 i i n1 n2 o1 o2) (C5 : OpGF 199 t1 t2 t3 t4 o1 o2 N D M E) (w : World) (v_t : Value) (g_t : ZX w v_t n d)  :
   Calls Tryz.prog 126 #[v_t] w (ZQ w.heap.size w N D M E) := by
 obtain ⟨At1, ct1, At2, ct2, rfl, -⟩ := g_t.form
 have H1 := Hd C1
 have H2 := Hd C2
 have H3 := Hd C3
 have H4 := Hd C4
 have H5 := Hd C5
 clear C1 C2 C3 C4 C5
 have G_t := Hd g_t
 clear g_t
 go_enter Tryz.func126, Tryz.ntmps126
 go_upto_region 1 with fail
 refine Yp (P := fun W => Code.wp _ _ _ _ W) fun W p0 p1 b0 => ?_
 have P_t := Hd (Zo.mk p0)
 have PR := Hd (Z6.mk p1)
 have HB := Hd b0
 clear b0 p0 p1
 go_wp2_with fail
 refine Zd [.val (.pointer (some ⟨w.heap.size, 0, none⟩)) [], .val (.agg #[.bool (decide (n < 0)), .slice At1 (Za n.natAbs).length ct1]) [], .any false (fun u V => Zj V w.heap.size u i i) [], .any false (fun u V => Ze V 0 u i) [2], .any false (XG n i At1 ct1) [3], .val (.pointer (some ⟨w.heap.size, 2, none⟩)) [], .val (.agg #[.bool (decide (d < 0)), .slice At2 (Za d.natAbs).length ct2]) [], .any false (fun u V => Zj V w.heap.size u i i) [], .any false (fun u V => Ze V 0 u i) [7], .any false (XG d i At2 ct2) [8], .new 26 4, .new 26 4, .put 26 4 10 4 [], .put 26 4 11 9 []] W.heap.size W [26] (fun _ _ => False) _ Zc (Nat.le_refl _) (Below.refl _ _) (Zq.refl _ _ _) rfl (by kernel_rfl) (by kernel_rfl) (by kernel_rfl) (by kernel_rfl) (by kernel_rfl) (by kernel_rfl) (by kernel_rfl) (by kernel_rfl) rfl (by simp [ZK]) ?_ ?_ ?_ ?_
 . simp only [Zr, and_true]
   exact ⟨fun u V V' h k => h.kept k (by decide), fun u V V' h k => h.kept k (by decide), fun u V V' h k => h.kept k (by decide), fun u V V' h k => h.kept k (by decide), fun u V V' h k => h.kept k (by decide), fun u V V' h k => h.kept k (by decide)⟩
 . simp only [ZN]
 . simp (maxSteps := 4000000) [Zz, Z7, Zf, Zs, Zg]
   repeat' (first | apply And.intro | (intro (u : Value)) | (intro (u : Nat)))
   all_goals try exact ⟨_, _, _, rfl, rfl, rfl, rfl, Yo⟩
   all_goals try exact allocFracG rfl
   all_goals first
   | (intro V hV hK
      have hs_t := P_t.out.blk.lt
      have qt : Zo V (w.heap.size) _ _ _ _ := ⟨P_t.out.blk.below hV (by omega)⟩
      obtain ⟨-, a_t0, a_t1, a_t2, a_t3, -, -, -, -⟩ := qt.facts
      have hvb := HB.out.trans (hV.mono (by omega))
      have hvs := hvb.size
      clear hV hK qt
      go_simp
      first
      | exact Below.refl _ _
      | ((with_reducible refine (H1.out V).mono ?_); rintro e w' ⟨v, rfl, hv, hb⟩; exact ⟨hv.base hvs, hb⟩))
   | (intro V hV hK h1
      obtain ⟨A6, c6, A7, c7, rfl, i1, -⟩ := h1.form
      clear hV hK
      go_simp
      exact ⟨i1.base (Nat.zero_le _), Below.refl _ _⟩)
   | (intro V hV hK h1
      obtain ⟨A6, c6, A7, c7, rfl, i1, -⟩ := h1.form
      have e9 := field_num V (decide (i < 0)) (decide (i < 0)) A6 A7 (Za i.natAbs).length c6 (Za i.natAbs).length c7
      clear hV hK
      go_simp
      exact ⟨i1.base (Nat.zero_le _), Below.refl _ _⟩)
   | (intro V hV hK h1
      obtain ⟨A6, c6, rfl, -⟩ := h1.raw
      clear hV hK
      go_simp
      exact ⟨⟨_, _, rfl, h1⟩, Below.refl _ _⟩)
   | exact fun _ _ _ (h : XG _ _ _ _ _ _) => h.cells
   | exact fun _ _ _ (h : XG _ _ _ _ _ _) _ => h.cells
 . simp [Z9, ZB, Zf, Zs, Zg]
   intro u1 u2 u3 u4 u5 u6 bn hbn bd hbd V1 hV hK h1 h2 h3 h4 h5 h6 pn pd _ _ _
   obtain ⟨A3, c3, rfl, i3⟩ := h3.form
   obtain ⟨A4, c4, rfl, i4⟩ := h6.form
   have I3 := Hd i3
   have I4 := Hd i4
   have P_n := Hd (show Zo V1 bn (.bool (decide (n < 0))) (.slice At1 (Za n.natAbs).length ct1) (.bool (decide (i < 0))) (.slice A3 (Za i.natAbs).length c3) from ⟨pn⟩)
   have P_d := Hd (show Zo V1 bd (.bool (decide (d < 0))) (.slice At2 (Za d.natAbs).length ct2) (.bool (decide (i < 0))) (.slice A4 (Za i.natAbs).length c4) from ⟨pd⟩)
   have PR := Hd (PR.out.below hV)
   have HB := Hd (Zb HB.out hV)
   clear hV hK h1 h2 h3 h4 h5 h6 pn pd i3 i4 hbn hbd P_t
   obtain ⟨l_n, n0, n1_, n2_, n3, -, -, -, -⟩ := P_n.out.facts
   obtain ⟨l_d, d0, d1, d2, d3, -, -, -, -⟩ := P_d.out.facts
   have pz := Z6.new V1 28 (.bool (decide (d < 0))) (.slice At2 (Za d.natAbs).length ct2) (.bool (decide (i < 0))) (.slice A4 (Za i.natAbs).length c4) (.bool (decide (n < 0))) (.slice At1 (Za n.natAbs).length ct1) (.bool (decide (i < 0))) (.slice A3 (Za i.natAbs).length c3)
   have ha := (Below.refl V1.heap.size V1).alloc (Nat.le_refl _) (.cells #[.bool (decide (d < 0)), .slice At2 (Za d.natAbs).length ct2, .bool (decide (i < 0)), .slice A4 (Za i.natAbs).length c4, .bool (decide (n < 0)), .slice At1 (Za n.natAbs).length ct1, .bool (decide (i < 0)), .slice A3 (Za i.natAbs).length c3] 28)
   have i3 := I3.out.below ha
   have i4 := I4.out.below ha
   have hb9 := PR.out.below ha
   have hB9 := Zb HB.out ha
   go_upto_region 3 with fail
   obtain ⟨W2, EQ⟩ : ∃ W, W = V1.alloc (.cells #[.bool (decide (d < 0)), .slice At2 (Za d.natAbs).length ct2, .bool (decide (i < 0)), .slice A4 (Za i.natAbs).length c4, .bool (decide (n < 0)), .slice At1 (Za n.natAbs).length ct1, .bool (decide (i < 0)), .slice A3 (Za i.natAbs).length c3] 28) := ⟨_, rfl⟩
   obtain ⟨bz, hq⟩ : ∃ q, q = V1.heap.size := ⟨_, rfl⟩
   have hbz : bz ≠ w.heap.size + 1 := by have := PR.out.blk.lt; omega
   rw [<- EQ] at pz i3 i4 hb9 hB9
   rw [<- EQ]
   rw [<- hq] at pz
   rw [<- hq]
   have P_zz := Hd pz
   have I3 := Hd i3
   have I4 := Hd i4
   have N_zz := Hd hbz
   have PR := Hd hb9
   have HB := Hd hB9
   clear pz i3 i4 hb9 hB9 hbz EQ hq ha l_n n0 n1_ n2_ n3 l_d d0 d1 d2 d3 P_n P_d
   have hsz := PR.out.blk.lt
   go_wp2_with fail
   refine Zd [.val (.agg #[.bool (decide (d < 0)), .slice At2 (Za d.natAbs).length ct2, .bool (decide (i < 0)), .slice A4 (Za i.natAbs).length c4, .bool (decide (n < 0)), .slice At1 (Za n.natAbs).length ct1, .bool (decide (i < 0)), .slice A3 (Za i.natAbs).length c3]) [999], .val (.agg #[.bool (decide (d < 0)), .slice At2 (Za d.natAbs).length ct2, .bool (decide (i < 0)), .slice A4 (Za i.natAbs).length c4, .bool (decide (n < 0)), .slice At1 (Za n.natAbs).length ct1, .bool (decide (i < 0)), .slice A3 (Za i.natAbs).length c3]) [999], .any false (fun u V => Zv V w.heap.size u t1 t2 t3 t4) [], .any false (fun u V => Zj V w.heap.size u i i) [], .val (.agg #[.bool (decide (d < 0)), .slice At2 (Za d.natAbs).length ct2, .bool (decide (i < 0)), .slice A4 (Za i.natAbs).length c4, .bool (decide (n < 0)), .slice At1 (Za n.natAbs).length ct1, .bool (decide (i < 0)), .slice A3 (Za i.natAbs).length c3]) [999], .any false (fun u V => Zj V w.heap.size u n1 n2) [], .any false (fun u V => Zj V w.heap.size u o1 o2) [3, 5], .any false (fun u V => Zv V w.heap.size u N D M E) [2, 6], .old (w.heap.size + 1) 28 #[.bool false, .slice none 0 0, .bool false, .slice none 0 0, .bool false, .slice none 0 0, .bool false, .slice none 0 0] 0 8 7 []] (w.heap.size + 1) W2 [28] (fun _ _ => False) _ Zc (by omega) (Below.refl _ _) (Zq.refl _ _ _) rfl (by kernel_rfl) (by kernel_rfl) (by kernel_rfl) (by kernel_rfl) (by kernel_rfl) (by kernel_rfl) (by kernel_rfl) (by kernel_rfl) rfl (by simp [ZK]) ?_ ?_ ?_ ?_
   . simp only [Zr, and_true]
     exact ⟨fun u V V' h k => h.kept k (by decide), fun u V V' h k => h.kept k (by decide), fun u V V' h k => h.kept k (by decide), fun u V V' h k => h.kept k (by decide), fun u V V' h k => h.kept k (by decide)⟩
   . simp only [ZN, and_true]
     exact ⟨Nat.le_refl _, PR.out.blk.lt, PR.out.blk, by simp⟩
   . simp (maxSteps := 4000000) [Zz, Z7, ZK, Zf, Zs, Zg]
     repeat' (first | apply And.intro | (intro (u : Value)) | (intro (u : Nat)))
     all_goals try exact ⟨_, _, _, rfl, rfl, rfl, rfl, Xl⟩
     all_goals first
     | (intro V hV hK ho
        have qz := Z6.mk ((ho bz P_zz.out.blk.lt N_zz.out).trans P_zz.out.blk)
        obtain ⟨-, z0, z1, z2, z3, z4, z5, z6, z7⟩ := qz.facts
        clear hV hK ho qz
        go_simp
        exact Below.refl _ _)
     | (intro V hV hK
        have hvb := HB.out.trans (hV.mono (by omega))
        have hvs := hvb.size
        have gt := G_t.out.below hvb
        have i3 := I3.out.kept hK (by decide)
        have i4 := I4.out.kept hK (by decide)
        have o_zz : Zp V (.agg #[.bool (decide (d < 0)), .slice At2 (Za d.natAbs).length ct2, .bool (decide (i < 0)), .slice A4 (Za i.natAbs).length c4, .bool (decide (n < 0)), .slice At1 (Za n.natAbs).length ct1, .bool (decide (i < 0)), .slice A3 (Za i.natAbs).length c3]) d i n i := ⟨_, _, _, _, _, _, _, _, rfl, gt.raws.2, i4.rawAt, gt.raws.1, i3.rawAt⟩
        clear hV hK
        go_simp
        first
        | ((with_reducible refine (H2.out V _ _ o_zz o_zz).mono ?_); rintro e w' ⟨v, rfl, hv, hb⟩; exact ⟨hv.base hvs, hb⟩)
        | ((with_reducible refine (H1.out V).mono ?_); rintro e w' ⟨v, rfl, hv, hb⟩; exact ⟨hv.base hvs, hb⟩)
        | ((with_reducible refine (H3.out V _ o_zz).mono ?_); rintro e w' ⟨v, rfl, hv, hb⟩; exact ⟨hv.base hvs, hb⟩))
     | (intro V hV hK h1 h2
        have hvs : w.heap.size <= V.heap.size := by have := hV.size; have := HB.out.size; omega
        clear hV hK
        go_simp
        first
        | ((with_reducible refine (H4.out V _ _ h1.at_ h2.at_).mono ?_); rintro e w' ⟨v, rfl, hv, hb⟩; exact ⟨hv.base hvs, hb⟩)
        | ((with_reducible refine (H5.out V _ _ h1.in_.at_ h2.at_).mono ?_); rintro e w' ⟨v, rfl, hv, hb⟩; exact ⟨hv.base hvs, hb⟩))
     | exact fun _ _ _ (h : Zv _ _ _ _ _ _ _) => h.cells
   . simp [Z9, ZB, Zf, Zs, Zg]
     intro u1 u2 u3 u4 u5 V hV hK h1 h2 h3 h4 h5 bq _ _ _
     have HF := Hd h5
     obtain ⟨A6, c6, A7, c7, A8, c8, A9, c9, rfl, -⟩ := h5.form
     simp [ZU, Value.cells] at bq
     have k0 := bq.cell 0
     have k1 := bq.cell 1
     have k2 := bq.cell 2
     have k3 := bq.cell 3
     have k4 := bq.cell 4
     have k5 := bq.cell 5
     have k6 := bq.cell 6
     have k7 := bq.cell 7
     simp at k0 k1 k2 k3 k4 k5 k6 k7
     have HB9 := Hd (HB.out.trans (hV.mono (by omega)))
     clear h1 h2 h3 h4 h5 hV hK bq
     go_wp2_with fail
     exact bodyPost_ret (by simp [results, Tryz.results126, go_sem, k0, k1, k2, k3, k4, k5, k6, k7]) rfl ⟨_, rfl, HF.out, HB9.out⟩
/- Unit of gauss; OnCircle and Unit of the references: both sides' answers. (Written by wip/gauss/genunit2.py.) -/


theorem gauss_Unit_bad {n1 n2 : Bool} {xs ys : List Nat} (hc : (YU n1 n2 xs ys == 0) = false) (w : World) (v_t : Value) (g_t : Y4 w v_t n1 n2 xs ys)  :
   Calls Tryz.prog 34 #[v_t] w (ZS w.heap.size w 0 0 0 0 1) := by
 obtain ⟨At1, ct1, At2, ct2, rfl, -⟩ := g_t.form
 have D1 := fun (V : World) (g' : Nat) (a1 : Zi V At1 ct1 xs) (a2 : Zi V At2 ct2 ys) (hg : V.heap.size = g') => checks_new n1 n2 At1 At2 ct1 ct2 xs ys V g' a1 a2 hg
 rw [hc] at D1
 have H1 := Hd D1
 clear D1 hc
 have G_t := Hd g_t
 clear g_t
 go_enter Tryz.func34, Tryz.ntmps34
 go_upto_region 1 with fail
 refine Yp (P := fun W => Code.wp _ _ _ _ W) fun W p0 p1 b0 => ?_
 have P_t := Hd (Zo.mk p0)
 have PR := Hd (Z6.mk p1)
 have HB := Hd b0
 clear b0 p0 p1
 obtain ⟨-, t0, t1, t2, t3, -, -, -, -⟩ := P_t.out.facts
 go_wp2_with fail
 obtain ⟨s1, s2⟩ := (G_t.out.below HB.out).raws
 refine (H1.out W _ s1 s2 rfl).mono ?_
 rintro e w1 ⟨rfl, hb⟩
 have hb := ((Below.refl W.heap.size W).alloc (Nat.le_refl _) (.cells #[.bool n1, .slice At1 xs.length ct1, .bool n2, .slice At2 ys.length ct2] 26)).trans (hb.mono (by simp))
 clear t0 t1 t2 t3
 clear s1 s2
 have P_t := Hd (P_t.out.below hb)
 have PR := Hd (PR.out.below hb)
 have HB := Hd (Zb HB.out hb)
 clear hb
 obtain ⟨l_r, r0, r1, r2, r3, r4, r5, r6, r7⟩ := PR.out.facts
 obtain ⟨f0, f1, f2, f3, f4, f5, f6, f7⟩ := PR.out.free
 have HQ := Hd (gzero PR.out HB.out (show w.heap.size <= w.heap.size + 1 by omega))
 go_wp2_with fail
 obtain ⟨_, k0, k1, k2, k3, k4, k5, k6, k7⟩ := HQ.out.1.facts
 exact bodyPost_ret (by simp [results, Tryz.results34, go_sem, k0, k1, k2, k3, k4, k5, k6, k7]) rfl ⟨_, rfl, Zv.nought _ _, HQ.out.2⟩

theorem gauss_Unit_ok {n d T1 T2 T3 T4 N D M E k : Int} (hc : (YU (decide (n < 0)) (decide (d < 0)) (Za n.natAbs) (Za d.natAbs) == 0) = true) (C2 : OpU 126 n d T1 T2 T3 T4) (C3 : JT T1 T2 T3 T4 N D M E k) (w : World) (v_t : Value) (g_t : ZX w v_t n d)  :
   Calls Tryz.prog 34 #[v_t] w (ZS w.heap.size w N D M E k) := by
 obtain ⟨At1, ct1, At2, ct2, rfl, -⟩ := g_t.form
 have D1 := fun (V : World) (g' : Nat) (a1 : Zi V At1 ct1 (Za n.natAbs)) (a2 : Zi V At2 ct2 (Za d.natAbs)) (hg : V.heap.size = g') => checks_new (decide (n < 0)) (decide (d < 0)) At1 At2 ct1 ct2 (Za n.natAbs) (Za d.natAbs) V g' a1 a2 hg
 rw [hc] at D1
 have H1 := Hd D1
 clear D1 hc
 have H2 := Hd C2
 have H3 := Hd C3
 clear C2 C3
 have G_t := Hd g_t
 clear g_t
 go_enter Tryz.func34, Tryz.ntmps34
 go_upto_region 1 with fail
 refine Yp (P := fun W => Code.wp _ _ _ _ W) fun W p0 p1 b0 => ?_
 have P_t := Hd (Zo.mk p0)
 have PR := Hd (Z6.mk p1)
 have HB := Hd b0
 clear b0 p0 p1
 obtain ⟨-, t0, t1, t2, t3, -, -, -, -⟩ := P_t.out.facts
 go_wp2_with fail
 obtain ⟨s1, s2⟩ := (G_t.out.below HB.out).raws
 refine (H1.out W _ s1 s2 rfl).mono ?_
 rintro e w1 ⟨rfl, hb⟩
 have hb := ((Below.refl W.heap.size W).alloc (Nat.le_refl _) (.cells #[.bool (decide (n < 0)), .slice At1 (Za n.natAbs).length ct1, .bool (decide (d < 0)), .slice At2 (Za d.natAbs).length ct2] 26)).trans (hb.mono (by simp))
 clear t0 t1 t2 t3
 clear s1 s2
 have P_t := Hd (P_t.out.below hb)
 have PR := Hd (PR.out.below hb)
 have HB := Hd (Zb HB.out hb)
 clear hb
 obtain ⟨-, t0, t1, t2, t3, -, -, -, -⟩ := P_t.out.facts
 go_wp2_with fail
 refine (H2.out w1 _ (G_t.out.below HB.out)).mono ?_
 rintro e wt ⟨v, rfl, hI, hb⟩
 clear t0 t1 t2 t3
 have HI0 := Hd (hI.base HB.out.size)
 have P_t := Hd (P_t.out.below hb)
 have PR := Hd (PR.out.below hb)
 have HB := Hd (Zb HB.out hb)
 clear hI hb
 go_wp2_with fail
 refine (H3.out wt w.heap.size _ HB.out.size HI0.out).mono ?_
 rintro e w9 ⟨v, rfl, hI, hb⟩
 obtain ⟨A6, c6, A7, c7, A8, c8, A9, c9, rfl, -⟩ := hI.form
 have pr := PR.out.below hb
 have hb9 := Zb HB.out hb
 obtain ⟨l_r, r0, r1, r2, r3, r4, r5, r6, r7⟩ := pr.facts
 obtain ⟨f0, f1, f2, f3, f4, f5, f6, f7⟩ := pr.free
 have H9 := Hd (JD hI pr hb9 (show w.heap.size <= w.heap.size + 1 by omega) (by decide))
 clear hb hb9 pr hI
 go_wp2_with fail
 obtain ⟨_, k0, k1, k2, k3, k4, k5, k6, k7⟩ := H9.out.1.facts
 exact bodyPost_ret (by simp [results, Tryz.results34, go_sem, k0, k1, k2, k3, k4, k5, k6, k7]) rfl ⟨_, rfl, H9.out.2.2, H9.out.2.1⟩

theorem ref03_Unit_bad {n1 n2 : Bool} {xs ys : List Nat} (hc : (YU n1 n2 xs ys == 0) = false) (w : World) (v_t : Value) (g_t : Y4 w v_t n1 n2 xs ys)  :
   Calls Tryz.prog 37 #[v_t] w (YQ w 0 0 0 0 1) := by
 obtain ⟨At1, ct1, At2, ct2, rfl, -⟩ := g_t.form
 have D1 := fun (V : World) (g' : Nat) (a1 : Zi V At1 ct1 xs) (a2 : Zi V At2 ct2 ys) (hg : V.heap.size = g') => rchecks_new n1 n2 At1 At2 ct1 ct2 xs ys V g' a1 a2 hg
 rw [hc] at D1
 have H1 := Hd D1
 clear D1 hc
 have G_t := Hd g_t
 clear g_t
 go_enter Tryz.func37, Tryz.ntmps37
 go_upto_region 1 with fail
 refine Yp (P := fun W => Code.wp _ _ _ _ W) fun W p0 p1 b0 => ?_
 have P_t := Hd (Zo.mk p0)
 have PR := Hd (Z6.mk p1)
 have HB := Hd b0
 clear b0 p0 p1
 obtain ⟨-, t0, t1, t2, t3, -, -, -, -⟩ := P_t.out.facts
 go_wp2_with fail
 obtain ⟨s1, s2⟩ := (G_t.out.below HB.out).raws
 refine (H1.out W _ s1 s2 rfl).mono ?_
 rintro e w1 ⟨rfl, hb⟩
 have hb := ((Below.refl W.heap.size W).alloc (Nat.le_refl _) (.cells #[.bool n1, .slice At1 xs.length ct1, .bool n2, .slice At2 ys.length ct2] 26)).trans (hb.mono (by simp))
 clear t0 t1 t2 t3
 clear s1 s2
 have P_t := Hd (P_t.out.below hb)
 have PR := Hd (PR.out.below hb)
 have HB := Hd (Zb HB.out hb)
 clear hb
 obtain ⟨l_r, r0, r1, r2, r3, r4, r5, r6, r7⟩ := PR.out.facts
 obtain ⟨f0, f1, f2, f3, f4, f5, f6, f7⟩ := PR.out.free
 have HQ := Hd (gzero PR.out HB.out (show w.heap.size <= w.heap.size + 1 by omega))
 go_wp2_with fail
 obtain ⟨_, k0, k1, k2, k3, k4, k5, k6, k7⟩ := HQ.out.1.facts
 exact bodyPost_ret (by simp [results, Tryz.results37, go_sem, k0, k1, k2, k3, k4, k5, k6, k7]) rfl ⟨_, rfl, (Zv.nought _ 0).in_, HQ.out.2⟩

theorem ref03_Unit_ok {n d T1 T2 T3 T4 N D M E k : Int} (hc : (YU (decide (n < 0)) (decide (d < 0)) (Za n.natAbs) (Za d.natAbs) == 0) = true) (C2 : OpUI 131 n d T1 T2 T3 T4) (C3 : AnsIG T1 T2 T3 T4 N D M E k) (w : World) (v_t : Value) (g_t : ZX w v_t n d)  :
   Calls Tryz.prog 37 #[v_t] w (YQ w N D M E k) := by
 obtain ⟨At1, ct1, At2, ct2, rfl, -⟩ := g_t.form
 have D1 := fun (V : World) (g' : Nat) (a1 : Zi V At1 ct1 (Za n.natAbs)) (a2 : Zi V At2 ct2 (Za d.natAbs)) (hg : V.heap.size = g') => rchecks_new (decide (n < 0)) (decide (d < 0)) At1 At2 ct1 ct2 (Za n.natAbs) (Za d.natAbs) V g' a1 a2 hg
 rw [hc] at D1
 have H1 := Hd D1
 clear D1 hc
 have H2 := Hd C2
 have H3 := Hd C3
 clear C2 C3
 have G_t := Hd g_t
 clear g_t
 go_enter Tryz.func37, Tryz.ntmps37
 go_upto_region 1 with fail
 refine Yp (P := fun W => Code.wp _ _ _ _ W) fun W p0 p1 b0 => ?_
 have P_t := Hd (Zo.mk p0)
 have PR := Hd (Z6.mk p1)
 have HB := Hd b0
 clear b0 p0 p1
 obtain ⟨-, t0, t1, t2, t3, -, -, -, -⟩ := P_t.out.facts
 go_wp2_with fail
 obtain ⟨s1, s2⟩ := (G_t.out.below HB.out).raws
 refine (H1.out W _ s1 s2 rfl).mono ?_
 rintro e w1 ⟨rfl, hb⟩
 have hb := ((Below.refl W.heap.size W).alloc (Nat.le_refl _) (.cells #[.bool (decide (n < 0)), .slice At1 (Za n.natAbs).length ct1, .bool (decide (d < 0)), .slice At2 (Za d.natAbs).length ct2] 26)).trans (hb.mono (by simp))
 clear t0 t1 t2 t3
 clear s1 s2
 have P_t := Hd (P_t.out.below hb)
 have PR := Hd (PR.out.below hb)
 have HB := Hd (Zb HB.out hb)
 clear hb
 obtain ⟨-, t0, t1, t2, t3, -, -, -, -⟩ := P_t.out.facts
 go_wp2_with fail
 refine (H2.out w1 _ (G_t.out.below HB.out)).mono ?_
 rintro e wt ⟨v, rfl, hI, hb⟩
 clear t0 t1 t2 t3
 have HI0 := Hd hI
 have P_t := Hd (P_t.out.below hb)
 have PR := Hd (PR.out.below hb)
 have HB := Hd (Zb HB.out hb)
 clear hI hb
 go_wp2_with fail
 refine (H3.out wt _ HI0.out).mono ?_
 rintro e w9 ⟨v, rfl, hI, hb⟩
 obtain ⟨A6, c6, A7, c7, A8, c8, A9, c9, rfl, -⟩ := hI.form
 have pr := PR.out.below hb
 have hb9 := Zb HB.out hb
 obtain ⟨l_r, r0, r1, r2, r3, r4, r5, r6, r7⟩ := pr.facts
 obtain ⟨f0, f1, f2, f3, f4, f5, f6, f7⟩ := pr.free
 have H9 := Hd (istore hI pr hb9 (show w.heap.size <= w.heap.size + 1 by omega) (by decide))
 clear hb hb9 pr hI
 go_wp2_with fail
 obtain ⟨_, k0, k1, k2, k3, k4, k5, k6, k7⟩ := H9.out.1.facts
 exact bodyPost_ret (by simp [results, Tryz.results37, go_sem, k0, k1, k2, k3, k4, k5, k6, k7]) rfl ⟨_, rfl, H9.out.2.2, H9.out.2.1⟩

theorem ref03_OnCircle {n d i q1 q2 e1 e2 m1 m2 p1 p2 N D M E : Int} (C1 : OpI0 208 i i) (C2 : OpI 195 n d n d q1 q2) (C3 : OpI 193 i i q1 q2 e1 e2) (C4 : OpI 194 i i q1 q2 m1 m2) (C5 : OpI 197 m1 m2 e1 e2 N D) (C6 : OpI 193 n d n d p1 p2) (C7 : OpI 197 p1 p2 e1 e2 M E) (w : World) (v_t : Value) (g_t : ZX w v_t n d)  :
   Calls Tryz.prog 131 #[v_t] w (XO w N D M E) := by
 obtain ⟨At1, ct1, At2, ct2, rfl, -⟩ := g_t.form
 have H1 := Hd C1
 have H2 := Hd C2
 have H3 := Hd C3
 have H4 := Hd C4
 have H5 := Hd C5
 have H6 := Hd C6
 have H7 := Hd C7
 clear C1 C2 C3 C4 C5 C6 C7
 have G_t := Hd g_t
 clear g_t
 go_enter Tryz.func131, Tryz.ntmps131
 go_upto_region 1 with fail
 refine Yp (P := fun W => Code.wp _ _ _ _ W) fun W p0 p1 b0 => ?_
 have P_t := Hd (Zo.mk p0)
 have PR := Hd (Z6.mk p1)
 have HB := Hd b0
 clear b0 p0 p1
 go_wp2_with fail
 refine (H1.out W).mono ?_
 rintro e wx1 ⟨v, rfl, hI, hb⟩
 have hi := hI
 obtain ⟨Aone1, cone1, Aone2, cone2, rfl, -⟩ := hI.form
 have ha := (Below.refl wx1.heap.size wx1).alloc (Nat.le_refl _) (.cells #[.bool (decide (i < 0)), .slice Aone1 (Za i.natAbs).length cone1, .bool (decide (i < 0)), .slice Aone2 (Za i.natAbs).length cone2] 26)
 have hq := Zo.new wx1 (.bool (decide (i < 0))) (.slice Aone1 (Za i.natAbs).length cone1) (.bool (decide (i < 0))) (.slice Aone2 (Za i.natAbs).length cone2)
 have hi := hi.below ha
 have P_t := Hd (P_t.out.below hb)
 have PR := Hd (PR.out.below hb)
 have HB := Hd (Zb HB.out hb)
 have P_t := Hd (P_t.out.below ha)
 have PR := Hd (PR.out.below ha)
 have HB := Hd (Zb HB.out ha)
 go_upto_region 2 with fail
 obtain ⟨wy1, E⟩ : ∃ W, W = wx1.alloc (.cells #[.bool (decide (i < 0)), .slice Aone1 (Za i.natAbs).length cone1, .bool (decide (i < 0)), .slice Aone2 (Za i.natAbs).length cone2] 26) := ⟨_, rfl⟩
 obtain ⟨b_one, hbq⟩ : ∃ q, q = wx1.heap.size := ⟨_, rfl⟩
 rw [<- E] at hi P_t PR HB
 rw [<- E, <- hbq] at hq ⊢
 have P_one := Hd hq
 have O_one := Hd hi
 clear hI hi hb ha hq hbq E
 obtain ⟨-, t0, t1, t2, t3, -, -, -, -⟩ := P_t.out.facts
 go_wp2_with fail
 refine (H2.out wy1 _ _ (G_t.out.below HB.out) (G_t.out.below HB.out)).mono ?_
 rintro e wx2 ⟨v, rfl, hI, hb⟩
 clear t0 t1 t2 t3
 have hi := hI
 obtain ⟨Asq1, csq1, Asq2, csq2, rfl, -⟩ := hI.form
 have ha := (Below.refl wx2.heap.size wx2).alloc (Nat.le_refl _) (.cells #[.bool (decide (q1 < 0)), .slice Asq1 (Za q1.natAbs).length csq1, .bool (decide (q2 < 0)), .slice Asq2 (Za q2.natAbs).length csq2] 26)
 have hq := Zo.new wx2 (.bool (decide (q1 < 0))) (.slice Asq1 (Za q1.natAbs).length csq1) (.bool (decide (q2 < 0))) (.slice Asq2 (Za q2.natAbs).length csq2)
 have hi := hi.below ha
 have P_t := Hd (P_t.out.below hb)
 have P_one := Hd (P_one.out.below hb)
 have O_one := Hd (O_one.out.below hb)
 have PR := Hd (PR.out.below hb)
 have HB := Hd (Zb HB.out hb)
 have P_t := Hd (P_t.out.below ha)
 have P_one := Hd (P_one.out.below ha)
 have O_one := Hd (O_one.out.below ha)
 have PR := Hd (PR.out.below ha)
 have HB := Hd (Zb HB.out ha)
 go_upto_region 3 with fail
 obtain ⟨wy2, E⟩ : ∃ W, W = wx2.alloc (.cells #[.bool (decide (q1 < 0)), .slice Asq1 (Za q1.natAbs).length csq1, .bool (decide (q2 < 0)), .slice Asq2 (Za q2.natAbs).length csq2] 26) := ⟨_, rfl⟩
 obtain ⟨b_sq, hbq⟩ : ∃ q, q = wx2.heap.size := ⟨_, rfl⟩
 rw [<- E] at hi P_t P_one O_one PR HB
 rw [<- E, <- hbq] at hq ⊢
 have P_sq := Hd hq
 have O_sq := Hd hi
 clear hI hi hb ha hq hbq E
 obtain ⟨-, a_one0, a_one1, a_one2, a_one3, -, -, -, -⟩ := P_one.out.facts
 obtain ⟨-, a_sq0, a_sq1, a_sq2, a_sq3, -, -, -, -⟩ := P_sq.out.facts
 go_wp2_with fail
 refine (H3.out wy2 _ _ O_one.out.at_ O_sq.out.at_).mono ?_
 rintro e wx3 ⟨v, rfl, hI, hb⟩
 clear a_one0 a_one1 a_one2 a_one3 a_sq0 a_sq1 a_sq2 a_sq3
 have hi := hI
 obtain ⟨Aden1, cden1, Aden2, cden2, rfl, -⟩ := hI.form
 have ha := (Below.refl wx3.heap.size wx3).alloc (Nat.le_refl _) (.cells #[.bool (decide (e1 < 0)), .slice Aden1 (Za e1.natAbs).length cden1, .bool (decide (e2 < 0)), .slice Aden2 (Za e2.natAbs).length cden2] 26)
 have hq := Zo.new wx3 (.bool (decide (e1 < 0))) (.slice Aden1 (Za e1.natAbs).length cden1) (.bool (decide (e2 < 0))) (.slice Aden2 (Za e2.natAbs).length cden2)
 have hi := hi.below ha
 have P_t := Hd (P_t.out.below hb)
 have P_one := Hd (P_one.out.below hb)
 have O_one := Hd (O_one.out.below hb)
 have P_sq := Hd (P_sq.out.below hb)
 have O_sq := Hd (O_sq.out.below hb)
 have PR := Hd (PR.out.below hb)
 have HB := Hd (Zb HB.out hb)
 have P_t := Hd (P_t.out.below ha)
 have P_one := Hd (P_one.out.below ha)
 have O_one := Hd (O_one.out.below ha)
 have P_sq := Hd (P_sq.out.below ha)
 have O_sq := Hd (O_sq.out.below ha)
 have PR := Hd (PR.out.below ha)
 have HB := Hd (Zb HB.out ha)
 go_upto_region 4 with fail
 obtain ⟨wy3, E⟩ : ∃ W, W = wx3.alloc (.cells #[.bool (decide (e1 < 0)), .slice Aden1 (Za e1.natAbs).length cden1, .bool (decide (e2 < 0)), .slice Aden2 (Za e2.natAbs).length cden2] 26) := ⟨_, rfl⟩
 obtain ⟨b_den, hbq⟩ : ∃ q, q = wx3.heap.size := ⟨_, rfl⟩
 rw [<- E] at hi P_t P_one P_sq O_one O_sq PR HB
 rw [<- E, <- hbq] at hq ⊢
 have P_den := Hd hq
 have O_den := Hd hi
 clear hI hi hb ha hq hbq E
 have hsz := PR.out.blk.lt
 go_wp2_with fail
 refine Zd [.val (.agg #[.bool (decide (i < 0)), .slice Aone1 (Za i.natAbs).length cone1, .bool (decide (i < 0)), .slice Aone2 (Za i.natAbs).length cone2]) [], .val (.agg #[.bool (decide (q1 < 0)), .slice Asq1 (Za q1.natAbs).length csq1, .bool (decide (q2 < 0)), .slice Asq2 (Za q2.natAbs).length csq2]) [], .any false (fun u V => ZG V 0 u m1 m2) [], .val (.agg #[.bool (decide (e1 < 0)), .slice Aden1 (Za e1.natAbs).length cden1, .bool (decide (e2 < 0)), .slice Aden2 (Za e2.natAbs).length cden2]) [], .any false (fun u V => ZG V 0 u N D) [2], .val (.agg #[.bool (decide (n < 0)), .slice At1 (Za n.natAbs).length ct1, .bool (decide (d < 0)), .slice At2 (Za d.natAbs).length ct2]) [], .val (.agg #[.bool (decide (n < 0)), .slice At1 (Za n.natAbs).length ct1, .bool (decide (d < 0)), .slice At2 (Za d.natAbs).length ct2]) [], .any false (fun u V => ZG V 0 u p1 p2) [], .val (.agg #[.bool (decide (e1 < 0)), .slice Aden1 (Za e1.natAbs).length cden1, .bool (decide (e2 < 0)), .slice Aden2 (Za e2.natAbs).length cden2]) [], .any false (fun u V => ZG V 0 u M E) [7], .any false (fun u V => Z8 V u N D M E) [4, 9], .old (w.heap.size + 1) 28 #[.bool false, .slice none 0 0, .bool false, .slice none 0 0, .bool false, .slice none 0 0, .bool false, .slice none 0 0] 0 8 10 []] (w.heap.size + 1) wy3 [28] (fun _ _ => False) _ Zc (by omega) (Below.refl _ _) (Zq.refl _ _ _) rfl (by kernel_rfl) (by kernel_rfl) (by kernel_rfl) (by kernel_rfl) (by kernel_rfl) (by kernel_rfl) (by kernel_rfl) (by kernel_rfl) rfl (by simp [ZK]) ?_ ?_ ?_ ?_
 . simp only [Zr, and_true]
   exact ⟨fun u V V' h k => h.kept k (by decide), fun u V V' h k => h.kept k (by decide), fun u V V' h k => h.kept k (by decide), fun u V V' h k => h.kept k (by decide), fun u V V' h k => h.kept k (by decide)⟩
 . simp only [ZN, and_true]
   exact ⟨Nat.le_refl _, PR.out.blk.lt, PR.out.blk, by simp⟩
 . simp (maxSteps := 4000000) [Zz, Z7, Zf, Zs, Zg]
   repeat' (first | apply And.intro | (intro (u : Value)) | (intro (u : Nat)))
   all_goals try exact ⟨_, _, _, rfl, rfl, rfl, rfl, Xl⟩
   all_goals first
   | (intro V hV hK
      have qt : Zo V (w.heap.size) _ _ _ _ := ⟨P_t.out.blk.below hV (by omega)⟩
      obtain ⟨-, t0, t1, t2, t3, -, -, -, -⟩ := qt.facts
      have qone := Zo.mk (hK.blk P_one.out.blk (by decide))
      obtain ⟨-, a_one0, a_one1, a_one2, a_one3, -, -, -, -⟩ := qone.facts
      have o_one := Hd (O_one.out.kept hK (by decide))
      have qsq := Zo.mk (hK.blk P_sq.out.blk (by decide))
      obtain ⟨-, a_sq0, a_sq1, a_sq2, a_sq3, -, -, -, -⟩ := qsq.facts
      have o_sq := Hd (O_sq.out.kept hK (by decide))
      have qden := Zo.mk (hK.blk P_den.out.blk (by decide))
      obtain ⟨-, a_den0, a_den1, a_den2, a_den3, -, -, -, -⟩ := qden.facts
      have o_den := Hd (O_den.out.kept hK (by decide))
      have hvb := HB.out.trans (hV.mono (by omega))
      have hvs := hvb.size
      have g_t := Hd (G_t.out.below hvb)
      clear hV hK qt qone qsq qden
      go_simp
      first
      | exact Below.refl _ _
      | ((with_reducible refine (H4.out V _ _ o_one.out.at_ o_sq.out.at_).mono ?_); rintro e w' ⟨v, rfl, hv, hb⟩; exact ⟨hv, hb⟩)
      | ((with_reducible refine (H6.out V _ _ g_t.out g_t.out).mono ?_); rintro e w' ⟨v, rfl, hv, hb⟩; exact ⟨hv, hb⟩))
   | (intro V hV hK h1
      have qt : Zo V (w.heap.size) _ _ _ _ := ⟨P_t.out.blk.below hV (by omega)⟩
      obtain ⟨-, t0, t1, t2, t3, -, -, -, -⟩ := qt.facts
      have qone := Zo.mk (hK.blk P_one.out.blk (by decide))
      obtain ⟨-, a_one0, a_one1, a_one2, a_one3, -, -, -, -⟩ := qone.facts
      have o_one := Hd (O_one.out.kept hK (by decide))
      have qsq := Zo.mk (hK.blk P_sq.out.blk (by decide))
      obtain ⟨-, a_sq0, a_sq1, a_sq2, a_sq3, -, -, -, -⟩ := qsq.facts
      have o_sq := Hd (O_sq.out.kept hK (by decide))
      have qden := Zo.mk (hK.blk P_den.out.blk (by decide))
      obtain ⟨-, a_den0, a_den1, a_den2, a_den3, -, -, -, -⟩ := qden.facts
      have o_den := Hd (O_den.out.kept hK (by decide))
      have hvb := HB.out.trans (hV.mono (by omega))
      have hvs := hvb.size
      have g_t := Hd (G_t.out.below hvb)
      clear hV hK qt qone qsq qden
      go_simp
      ((with_reducible refine (H5.out V _ _ h1.at_ o_den.out.at_).mono ?_); rintro e w' ⟨v, rfl, hv, hb⟩; exact ⟨hv, hb⟩))
   | (intro V hV hK h1
      have qt : Zo V (w.heap.size) _ _ _ _ := ⟨P_t.out.blk.below hV (by omega)⟩
      obtain ⟨-, t0, t1, t2, t3, -, -, -, -⟩ := qt.facts
      have qone := Zo.mk (hK.blk P_one.out.blk (by decide))
      obtain ⟨-, a_one0, a_one1, a_one2, a_one3, -, -, -, -⟩ := qone.facts
      have o_one := Hd (O_one.out.kept hK (by decide))
      have qsq := Zo.mk (hK.blk P_sq.out.blk (by decide))
      obtain ⟨-, a_sq0, a_sq1, a_sq2, a_sq3, -, -, -, -⟩ := qsq.facts
      have o_sq := Hd (O_sq.out.kept hK (by decide))
      have qden := Zo.mk (hK.blk P_den.out.blk (by decide))
      obtain ⟨-, a_den0, a_den1, a_den2, a_den3, -, -, -, -⟩ := qden.facts
      have o_den := Hd (O_den.out.kept hK (by decide))
      have hvb := HB.out.trans (hV.mono (by omega))
      have hvs := hvb.size
      have g_t := Hd (G_t.out.below hvb)
      clear hV hK qt qone qsq qden
      go_simp
      ((with_reducible refine (H7.out V _ _ h1.at_ o_den.out.at_).mono ?_); rintro e w' ⟨v, rfl, hv, hb⟩; exact ⟨hv, hb⟩))
   | (intro V hV hK h1 h2
      obtain ⟨A1, c1, B1, e1, rfl, -, -⟩ := h1.form
      obtain ⟨A2, c2, B2, e2, rfl, -, -⟩ := h2.form
      clear hV hK
      go_simp
      exact ⟨⟨_, _, _, _, _, _, _, _, rfl, h1, h2⟩, Below.refl _ _⟩)
   | exact fun _ _ _ (h : Z8 _ _ _ _ _ _) => h.cells
 . simp [Z9, ZB, Zf, Zs, Zg]
   intro u1 u2 u3 u4 u5 V hV hK h1 h2 h3 h4 h5 bq _ _ _
   have HF := Hd h5
   obtain ⟨A6, c6, A7, c7, A8, c8, A9, c9, rfl, -⟩ := h5.form
   simp [ZU, Value.cells] at bq
   have k0 := bq.cell 0
   have k1 := bq.cell 1
   have k2 := bq.cell 2
   have k3 := bq.cell 3
   have k4 := bq.cell 4
   have k5 := bq.cell 5
   have k6 := bq.cell 6
   have k7 := bq.cell 7
   simp at k0 k1 k2 k3 k4 k5 k6 k7
   have HB9 := Hd (HB.out.trans (hV.mono (by omega)))
   clear h1 h2 h3 h4 h5 hV hK bq
   go_wp2_with fail
   exact bodyPost_ret (by simp [results, Tryz.results131, go_sem, k0, k1, k2, k3, k4, k5, k6, k7]) rfl ⟨_, rfl, HF.out, HB9.out⟩

theorem circle_eq {x y : Rat} (hx : x ≠ 0) (hs : x * x + y * y ≠ 0) : (x * x - y * y) * (1 / (x * x + y * y)) = (1 - y / x * (y / x)) / (1 + y / x * (y / x)) /\ (x * y + y * x) * (1 / (x * x + y * y)) = (y / x + y / x) / (1 + y / x * (y / x)) := by
 obtain ⟨t, ht⟩ : ∃ t, t = y / x := ⟨_, rfl⟩
 have e : y = t * x := by rw [ht, Rat.div_mul_cancel hx]
 rw [<- ht]
 clear ht
 subst e
 have h1 : 1 + t * t ≠ 0 := fun k => by have := sq_nonneg t; grind
 constructor <;> grind
theorem unit_u {n d N D M E : Int} (f1 : Fine n d) (h1 : Is ((1 - Rat.divInt n d * Rat.divInt n d) / (1 + Rat.divInt n d * Rat.divInt n d)) N D) (h2 : Is ((Rat.divInt n d + Rat.divInt n d) / (1 + Rat.divInt n d * Rat.divInt n d)) M E) : OpU 126 n d N D M E := by
 have hd : ((d : Int) : Rat) ≠ 0 := fun k => by have := f1.pos; have := (Rat.intCast_eq_zero_iff).1 k; omega
 have hs : (d : Rat) * d + n * n ≠ 0 := fun k => hd (sq_sum k).1
 have e := circle_eq hd hs
 rw [<- Rat.divInt_eq_div] at e
 have sd : Sz (d : Rat) 2048 := (JC d).sz f1.den (by decide +kernel)
 have sn : Sz (n : Rat) 2048 := (JC n).sz f1.num (by decide +kernel)
 have up : ∀ {q : Rat} {k l : Nat}, Sz q k -> k <= l -> Sz q l := fun h k => h.mono k
 have s1 := sz_sub (Xy sd sd) (Xy sn sn)
 have s2 := sz_add (Xy sd sn) (Xy sn sd)
 have s3 := sz_add (Xy sd sd) (Xy sn sn)
 have s4 := sz_quo sz_one s3 hs
 exact fun V v g => argand_Unit one_r (times_g (JC d) (JC n) (JC d) (JC n) (up sd (by omega)) (up sn (by omega)) (up sd (by omega)) (up sn (by omega)) (Is.of _) (Is.of _)) (norm_g (JC d) (JC n) (up sd (by omega)) (up sn (by omega)) (Is.of _)) (over_r is_unit (Is.of _) (Is.of _) (up sz_one (by omega)) (up s3 (by omega)) hs)
   (scaled_g (Is.of _) (Is.of _) (Is.of _) (up s1 (by omega)) (up s2 (by omega)) (up s4 (by omega)) (by rw [e.1]; exact h1) (by rw [e.2]; exact h2)) V v g
theorem unit_ui {n d N D M E : Int} (f1 : Fine n d) (h1 : Is ((1 - Rat.divInt n d * Rat.divInt n d) / (1 + Rat.divInt n d * Rat.divInt n d)) N D) (h2 : Is ((Rat.divInt n d + Rat.divInt n d) / (1 + Rat.divInt n d * Rat.divInt n d)) M E) : OpUI 131 n d N D M E := by
 obtain ⟨i1, z1⟩ := f1.is_
 generalize Rat.divInt n d = t at i1 z1 h1 h2
 have up : ∀ {q : Rat} {k l : Nat}, Sz q k -> k <= l -> Sz q l := fun h k => h.mono k
 have h3 : 1 + t * t ≠ 0 := fun k => by have := sq_nonneg t; grind
 have s1 := Xy z1 z1
 have s2 := sz_add sz_one s1
 have s3 := sz_sub sz_one s1
 have s4 := sz_add z1 z1
 have O : OpI0 208 1 1 := one_ref rfl rfl
 exact fun V v g => ref03_OnCircle O (times_i i1 i1 (Is.of _) (up z1 (by omega)) (up z1 (by omega))) (plus_i is_unit (Is.of _) (Is.of _) (up sz_one (by omega)) (up s1 (by omega))) (minus_i is_unit (Is.of _) (Is.of _) (up sz_one (by omega)) (up s1 (by omega))) (over_i (Is.of _) (Is.of _) h1 (up s3 (by omega)) (up s2 (by omega)) h3)
   (plus_i i1 i1 (Is.of _) (up z1 (by omega)) (up z1 (by omega))) (over_i (Is.of _) (Is.of _) h2 (up s4 (by omega)) (up s2 (by omega)) h3) V v g
theorem unit_spec (n1 n2 : Bool) (xs ys : List Nat) (hx1 : Zk xs) (hx2 : Zk ys) : ∃ N D M E k, (lz N <= 2048 /\ lz D <= 2048 /\ lz M <= 2048 /\ lz E <= 2048) /\
   (∀ (V : World) (v : Value), Y4 V v n1 n2 xs ys -> Calls Tryz.prog 34 #[v] V (ZS V.heap.size V N D M E k)) /\
   (∀ (V : World) (v : Value), Y4 V v n1 n2 xs ys -> Calls Tryz.prog 37 #[v] V (YQ V N D M E k)) := by
 cases hc : (YU n1 n2 xs ys == 0) with
 | false => exact ⟨0, 0, 0, 0, 1, by decide +kernel, fun V v g => gauss_Unit_bad hc V v g, fun V v g => ref03_Unit_bad hc V v g⟩
 | true =>
   obtain ⟨n, d, f1, rfl, rfl, rfl, rfl⟩ := fine_of hx1 hx2 (by simpa using hc)
   have h1 := Is.of ((1 - Rat.divInt n d * Rat.divInt n d) / (1 + Rat.divInt n d * Rat.divInt n d))
   have h2 := Is.of ((Rat.divInt n d + Rat.divInt n d) / (1 + Rat.divInt n d * Rat.divInt n d))
   obtain ⟨N, D, M, E, k, hz, h3, h4⟩ := ans_g ((1 - Rat.divInt n d * Rat.divInt n d) / (1 + Rat.divInt n d * Rat.divInt n d)).num ((1 - Rat.divInt n d * Rat.divInt n d) / (1 + Rat.divInt n d * Rat.divInt n d)).den ((Rat.divInt n d + Rat.divInt n d) / (1 + Rat.divInt n d * Rat.divInt n d)).num ((Rat.divInt n d + Rat.divInt n d) / (1 + Rat.divInt n d * Rat.divInt n d)).den
   exact ⟨N, D, M, E, k, hz, fun V v g => gauss_Unit_ok hc (unit_u f1 h1 h2) h3 V v ⟨g.form⟩, fun V v g => ref03_Unit_ok hc (unit_ui f1 h1 h2) h4 V v ⟨g.form⟩⟩
end Go.Proofs.YthlehkjcfhnplaaGreatDoor
