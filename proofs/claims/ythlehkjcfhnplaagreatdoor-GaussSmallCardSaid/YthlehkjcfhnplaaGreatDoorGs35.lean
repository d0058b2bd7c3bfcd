/- Several texts in one: GAlive, GLaw, GBig, BookFree. -/
import Derived.Test.YthlehkjcfhnplaaGreatDoorGs34
import Derived.Test.YthlehkjcfhnplaaGreatDoorGsHd
import Derived.Test.YthlehkjcfhnplaaGreatDoorGs31
import Derived.Test.YthlehkjcfhnplaaGreatDoorGs27
import Derived.Test.YthlehkjcfhnplaaGreatDoorGs33
import Derived.Test.YthlehkjcfhnplaaGreatDoorGs23
import Derived.Test.YthlehkjcfhnplaaGreatDoorGs16
set_option maxRecDepth 100000
set_option maxHeartbeats 8000000
/- alive of the laws of chapter 03. (Written by wip/gauss/genalive.py.) -/
namespace Go.Proofs.YthlehkjcfhnplaaGreatDoor
open Go.RowKit

theorem dig_r {n d : Int} (hn : Fit n) (hd : Fit d) : DigF 147 n d ⟨(fracText n d).toArray⟩ := by
  intro V v ht g
  obtain ⟨A, c, B, e0, rfl, h1, h2⟩ := g.form
  exact ratio_Digits n d A B c e0 V h1 h2 ht hn hd

theorem alive_walk {a1 a2 b1 b2 c1 c2 z0 k0 o : Int} (C1 : ∀ V : World, Calls Tryz.prog 11 #[.int .i64 3, .int .i64 (-4)] V (RetGaussOwn V.heap.size V a1 o a2 o)) (C2 : ∀ V : World, Calls Tryz.prog 11 #[.int .i64 1, .int .i64 2] V (RetGaussOwn V.heap.size V b1 o b2 o))
    (C3 : OpG2 104 a1 o a2 o b1 o b2 o c1 o c2 o 0) (C4 : ∀ (V : World) (v : Value), powTab V → GaussAt V v c1 o c2 o → Calls Tryz.prog 49 #[v] V fun e w' => e = .returned (.tuple #[.string ⟨#[49, 49, 43, 50, 105]⟩, .int .i64 0]) ∧ Below V.heap.size V w')
    (C5 : ∀ V : World, Calls Tryz.prog 11 #[.int .i64 0, .int .i64 0] V (RetGaussOwn V.heap.size V z0 o z0 o)) (C6 : OpG2 29 c1 o c2 o z0 o z0 o k0 k0 k0 k0 3) (w : World)  (htab : powTab w) :
    Calls Tryz.prog 17 #[] w fun e w' => e = .returned (.bool true) ∧ Below w.heap.size w w' := by
  have HT := Hd htab
  clear htab
  have H1 := Hd C1
  have H2 := Hd C2
  have H3 := Hd C3
  have H4 := Hd C4
  have H5 := Hd C5
  have H6 := Hd C6
  clear C1 C2 C3 C4 C5 C6
  go_enter Tryz.func17, Tryz.ntmps17
  have HB := Hd (Below.refl w.heap.size w)
  go_wp2_with fail
  refine (H1.out w).mono ?_
  rintro e wx1 ⟨v1, rfl, hI, hb⟩
  have G1 := Hd hI.in_.at_
  clear hI
  have HB := Hd (belowTo HB.out hb)
  clear hb
  go_wp2_with fail
  refine (H2.out wx1).mono ?_
  rintro e wx2 ⟨v2, rfl, hI, hb⟩
  have G2 := Hd hI.in_.at_
  clear hI
  have G1 := Hd (G1.out.below hb)
  have HB := Hd (belowTo HB.out hb)
  clear hb
  go_wp2_with fail
  refine (H3.out wx2 _ _ G1.out G2.out).mono ?_
  rintro e wx3 ⟨v, rfl, hI, hb⟩
  have hi := hI.in_
  obtain ⟨Azz1, czz1, Azz2, czz2, Azz3, czz3, Azz4, czz4, rfl, -⟩ := hI.form
  have ha := (Below.refl wx3.heap.size wx3).alloc (Nat.le_refl _) (.cells #[.bool (decide (c1 < 0)), .slice Azz1 (natL c1.natAbs).length czz1, .bool (decide (o < 0)), .slice Azz2 (natL o.natAbs).length czz2, .bool (decide (c2 < 0)), .slice Azz3 (natL c2.natAbs).length czz3, .bool (decide (o < 0)), .slice Azz4 (natL o.natAbs).length czz4] 28)
  have hq := Oct.new wx3 28 (.bool (decide (c1 < 0))) (.slice Azz1 (natL c1.natAbs).length czz1) (.bool (decide (o < 0))) (.slice Azz2 (natL o.natAbs).length czz2) (.bool (decide (c2 < 0))) (.slice Azz3 (natL c2.natAbs).length czz3) (.bool (decide (o < 0))) (.slice Azz4 (natL o.natAbs).length czz4)
  have hi := hi.below ha
  have HB := Hd (belowTo HB.out hb)
  have HB := Hd (belowTo HB.out ha)
  go_upto_region 2 with fail
  obtain ⟨wy3, E⟩ : ∃ W, W = wx3.alloc (.cells #[.bool (decide (c1 < 0)), .slice Azz1 (natL c1.natAbs).length czz1, .bool (decide (o < 0)), .slice Azz2 (natL o.natAbs).length czz2, .bool (decide (c2 < 0)), .slice Azz3 (natL c2.natAbs).length czz3, .bool (decide (o < 0)), .slice Azz4 (natL o.natAbs).length czz4] 28) := ⟨_, rfl⟩
  obtain ⟨b_zz, hbq⟩ : ∃ q, q = wx3.heap.size := ⟨_, rfl⟩
  rw [← E] at hi HB
  rw [← E, ← hbq] at hq ⊢
  have P_zz := Hd hq
  have O_zz := Hd hi
  clear hI hi hb ha hq hbq E
  clear G1 G2 H1 H2 H3
  obtain ⟨-, a_zz0, a_zz1, a_zz2, a_zz3, a_zz4, a_zz5, a_zz6, a_zz7⟩ := P_zz.out.facts
  go_wp2_with fail
  refine (H4.out wy3 _ (HT.out.below2 HB.out) O_zz.out.at_).mono ?_
  rintro e wx4 ⟨rfl, hb⟩
  clear a_zz0 a_zz1 a_zz2 a_zz3 a_zz4 a_zz5 a_zz6 a_zz7
  have P_zz := Hd (P_zz.out.below hb)
  have O_zz := Hd (O_zz.out.below hb)
  have HB := Hd (belowTo HB.out hb)
  clear hb
  go_wp2_with fail
  refine wp_region_free [.val (.agg #[.bool (decide (c1 < 0)), .slice Azz1 (natL c1.natAbs).length czz1, .bool (decide (o < 0)), .slice Azz2 (natL o.natAbs).length czz2, .bool (decide (c2 < 0)), .slice Azz3 (natL c2.natAbs).length czz3, .bool (decide (o < 0)), .slice Azz4 (natL o.natAbs).length czz4]) [], .any false (fun u V => GaussOwn V w.heap.size u z0 o z0 o) [], .any false (fun u V => TupG V w.heap.size u k0 k0 k0 k0 3) [1], .any false (fun u V => TupG V w.heap.size u k0 k0 k0 k0 3) [2], .any false (fun u V => GaussOwn V w.heap.size u k0 k0 k0 k0) [3], .val (.int .i64 3) [3], .new 28 8, .put 28 8 6 4 [], .val (.int .i64 3) []] wx4.heap.size wx4 [28] blkFrac _ mixedOrders2 (Nat.le_refl _) (Below.refl _ _) (KeptV.refl _ _ _) rfl (by kernel_rfl) (by kernel_rfl) (by kernel_rfl) (by kernel_rfl) (by kernel_rfl) (by kernel_rfl) (by kernel_rfl) (by kernel_rfl) rfl (by simp [oldsF]) ?_ ?_ ?_ ?_
  · simp only [StableF, and_true]
    exact ⟨fun u V V' h k => h.kept k (by decide), fun u V V' h k => h.kept k (by decide), fun u V V' h k => h.kept k (by decide), fun u V V' h k => h.kept k (by decide)⟩
  · simp only [OldsF]
  · simp (maxSteps := 4000000) [StepsF, DepF, freeAct, fill, pairs]
    repeat' (first | apply And.intro | (intro (u : Value)) | (intro (u : Nat)))
    all_goals try exact ⟨_, _, _, rfl, rfl, rfl, rfl, gaussInfo⟩
    all_goals try exact allocGauss rfl
    all_goals first
    | (intro V hV hK
       have hs_0 := HB.out.size
       have qzz := P_zz.out.below hV
       obtain ⟨-, a_zz0, a_zz1, a_zz2, a_zz3, a_zz4, a_zz5, a_zz6, a_zz7⟩ := qzz.facts
       have o_zz := Hd (O_zz.out.below hV)
       have hvb := HB.out.trans (hV.mono (by omega))
       have hvs := hvb.size
       clear hV hK qzz
       go_simp
       first
       | exact Below.refl _ _
       | ((with_reducible refine (H5.out V).mono ?_); rintro e w' ⟨v, rfl, hv, hb⟩; exact ⟨hv.base hvs, hb⟩))
    | (intro V hV hK h1
       have hs_0 := HB.out.size
       have qzz := P_zz.out.below hV
       obtain ⟨-, a_zz0, a_zz1, a_zz2, a_zz3, a_zz4, a_zz5, a_zz6, a_zz7⟩ := qzz.facts
       have o_zz := Hd (O_zz.out.below hV)
       have hvb := HB.out.trans (hV.mono (by omega))
       have hvs := hvb.size
       clear hV hK qzz
       go_simp
       ((with_reducible refine (H6.out V _ _ o_zz.out.at_ h1.in_.at_).mono ?_); rintro e w' ⟨v, rfl, hv, hb⟩; exact ⟨⟨v, rfl, hv.base hvs⟩, hb⟩))
    | (intro V hV hK h1
       obtain ⟨v, rfl, hv⟩ := h1.form
       clear hV hK
       go_simp
       first
       | exact ⟨hv, Below.refl _ _⟩
       | exact ⟨⟨_, rfl, hv⟩, Below.refl _ _⟩
       | exact Below.refl _ _)
    | exact fun _ _ _ (h : GaussOwn _ _ _ _ _ _ _) => h.cells
    | exact fun _ _ _ (h : GaussOwn _ _ _ _ _ _ _) _ => h.cells
  · simp [EndF, FactsF, freeAct, fill, pairs]
    intro u1 u2 u3 u4 b_qq hb_qq V5 hV hK h1 h2 h3 h4 p_qq _ _ _
    have O_qq := Hd h4.in_
    obtain ⟨Aqq1, cqq1, Aqq2, cqq2, Aqq3, cqq3, Aqq4, cqq4, rfl, -⟩ := h4.form
    have P_qq := Hd (show Oct V5 b_qq 28 _ _ _ _ _ _ _ _ from ⟨p_qq⟩)
    have P_zz := Hd (P_zz.out.below hV)
    have O_zz := Hd (O_zz.out.below hV)
    have HB := Hd (belowTo HB.out hV)
    clear hV hK h1 h2 h3 h4 p_qq hb_qq
    go_wp2_with fail
    go_ret
    exact ⟨rfl, HB.out⟩

theorem GIs.re_same {a b a' b' : Rat} {n d m f : Int} (x : GIs a b n d m f) (h1 : a' = a) (h2 : b' = b) : GIs a' b' n d m f := by rw [h1, h2]; exact x
theorem itoa_eleven : Lib.itoa 11 = [49, 49] := by
  rw [show (11 : Int) = ((11 : Nat) : Int) from rfl, Lib.itoa_nonneg, Lib.decDigits_two (by omega) (by omega)]; rfl
theorem itoa_two : Lib.itoa 2 = [50] := by
  rw [show (2 : Int) = ((2 : Nat) : Int) from rfl, Lib.itoa_nonneg, Lib.decDigits_one (by omega)]; rfl
theorem alive_true (w : World) (htab : powTab w) : Calls Tryz.prog 17 #[] w fun e w' => e = .returned (.bool true) ∧ Below w.heap.size w w' := by
  have x1 := gis_int 3 (-4) (by decide) (by decide) (by decide) (by decide)
  have x2 := gis_int 1 2 (by decide) (by decide) (by decide) (by decide)
  have x3 := gis_int 11 2 (by decide) (by decide) (by decide) (by decide)
  have x0 := gis_int 0 0 (by decide) (by decide) (by decide) (by decide)
  have x3' : GIs (((3 : Int) : Rat) * ((1 : Int) : Rat) - ((-4 : Int) : Rat) * ((2 : Int) : Rat)) (((3 : Int) : Rat) * ((2 : Int) : Rat) + ((-4 : Int) : Rat) * ((1 : Int) : Rat)) 11 1 2 1 := x3.re_same (by grind) (by grind)
  refine alive_walk (a1 := 3) (a2 := -4) (b1 := 1) (b2 := 2) (c1 := 11) (c2 := 2) (z0 := 0) (k0 := 0) (o := 1) (of_g 1 rfl (by decide) (by decide) (by decide) (by decide)) (of_g 1 rfl (by decide) (by decide) (by decide) (by decide)) (gmul_c x1 x2 x3') ?_ (of_g 1 rfl (by decide) (by decide) (by decide) (by decide)) (gquo_zero x3 x0 ⟨rfl, rfl⟩) w htab
  intro V v ht g
  have e1 : fracText 11 1 = [49, 49] := by unfold fracText; rw [if_pos rfl, itoa_eleven]
  have e2 : fracText 2 1 = [50] := by unfold fracText; rw [if_pos rfl, itoa_two]
  have d1 := dig_r (n := 11) (d := 1) (by decide +kernel) (by decide +kernel)
  have d2 := dig_r (n := 2) (d := 1) (by decide +kernel) (by decide +kernel)
  rw [e1] at d1
  rw [e2] at d2
  have d3 : DigF 148 2 1 ⟨#[50, 105]⟩ := fun V v ht g => gauss_second_more (t := ⟨#[50]⟩) (u := ⟨#[50, 105]⟩) d2 (by decide) (by decide) (by decide) rfl V v g ht
  exact gauss_Text_Bp (t1 := ⟨#[49, 49]⟩) (t2 := ⟨#[50, 105]⟩) (s0 := 1) (s1 := 1) x3.may (sgn_r x3.re) (sgn_r x3.im) (by decide) (by decide) (by decide) d1 d3 rfl (by decide) (by decide) (by decide) (by decide) V v g ht
/- GaussCost, TwinGauss, LeftGauss, SameGauss of the laws; May and Check of the numbers of chapter 03. (Written by wip/gauss/genglaw.py.) -/

theorem sameGauss_true {n d m f : Int}  (w : World) (v_x v_y : Value) (g_x : GaussAt w v_x n d m f) (g_y : GaussAt w v_y n d m f)  :
    Calls Tryz.prog 12 #[v_x, v_y] w fun e w' => e = .returned (.bool true) ∧ Below w.heap.size w w' := by
  obtain ⟨Ax1, cx1, Ax2, cx2, Ax3, cx3, Ax4, cx4, rfl, -⟩ := g_x.form
  obtain ⟨Ay1, cy1, Ay2, cy2, Ay3, cy3, Ay4, cy4, rfl, -⟩ := g_y.form
  have G_x := Hd g_x
  have G_y := Hd g_y
  clear g_x g_y
  go_enter Tryz.func12, Tryz.ntmps12
  go_upto_region 1 with fail
  refine boxes2 (P := fun W => Code.wp _ _ _ _ W) fun W p0 p1 b0 => ?_
  have P_x := Hd (Oct.mk p0)
  have P_y := Hd (Oct.mk p1)
  have HB := Hd b0
  clear b0 p0 p1
  obtain ⟨-, a_x0, a_x1, a_x2, a_x3, a_x4, a_x5, a_x6, a_x7⟩ := P_x.out.facts
  obtain ⟨-, a_y0, a_y1, a_y2, a_y3, a_y4, a_y5, a_y6, a_y7⟩ := P_y.out.facts
  go_wp2_with fail
  refine (sameFrac_true _ _ n d W (G_x.out.below HB.out).re (G_y.out.below HB.out).re).mono ?_
  rintro e wx1 ⟨rfl, hb⟩
  clear a_x0 a_x1 a_x2 a_x3 a_x4 a_x5 a_x6 a_x7 a_y0 a_y1 a_y2 a_y3 a_y4 a_y5 a_y6 a_y7
  have P_x := Hd (P_x.out.below hb)
  have P_y := Hd (P_y.out.below hb)
  have HB := Hd (belowTo HB.out hb)
  clear hb
  obtain ⟨-, a_x0, a_x1, a_x2, a_x3, a_x4, a_x5, a_x6, a_x7⟩ := P_x.out.facts
  obtain ⟨-, a_y0, a_y1, a_y2, a_y3, a_y4, a_y5, a_y6, a_y7⟩ := P_y.out.facts
  go_wp2_with fail
  refine (sameFrac_true _ _ m f wx1 (G_x.out.below HB.out).im (G_y.out.below HB.out).im).mono ?_
  rintro e wx2 ⟨rfl, hb⟩
  clear a_x0 a_x1 a_x2 a_x3 a_x4 a_x5 a_x6 a_x7 a_y0 a_y1 a_y2 a_y3 a_y4 a_y5 a_y6 a_y7
  have P_x := Hd (P_x.out.below hb)
  have P_y := Hd (P_y.out.below hb)
  have HB := Hd (belowTo HB.out hb)
  clear hb
  go_wp2_with fail
  go_ret
  exact ⟨rfl, HB.out⟩
/- GaussSize, big of the laws; Check of gauss and of the references. (Written by wip/gauss/genbig.py.) -/

structure GLoc where
  re : FLoc
  im : FLoc
def GLoc.cells (q : GLoc) : List Value := q.re.cells ++ q.im.cells
def GLoc.size (q : GLoc) : Nat := 1 + q.re.n + (1 + q.re.m) + (1 + q.im.n + (1 + q.im.m))
def cellsGL (l : List GLoc) : List Value := l.flatMap GLoc.cells
def lens4 (xs ys us vs : List Nat) : Prop := (xs.length ≤ 1152921504606846975 ∧ ys.length ≤ 1152921504606846975) ∧ us.length ≤ 1152921504606846975 ∧ vs.length ≤ 1152921504606846975

theorem gauss_Check_true {n1 n2 n3 n4 : Bool} {xs ys us vs : List Nat} (C1 : MayG 55 n1 n2 n3 n4 xs ys us vs true) (w : World) (v_x : Value) (g_x : GaussRaw w v_x n1 n2 n3 n4 xs ys us vs)  :
    Calls Tryz.prog 14 #[v_x] w fun e w' => e = .returned (.int .i64 0) ∧ Below w.heap.size w w' := by
  obtain ⟨Ax1, cx1, Ax2, cx2, Ax3, cx3, Ax4, cx4, rfl, -⟩ := g_x.form
  have H1 := Hd C1
  clear C1
  have G_x := Hd g_x
  clear g_x
  go_enter Tryz.func14, Tryz.ntmps14
  go_upto_region 1 with fail
  refine boxes1 (P := fun W => Code.wp _ _ _ _ W) fun W p0 b0 => ?_
  have P_x := Hd (Oct.mk p0)
  have HB := Hd b0
  clear b0 p0
  obtain ⟨-, a_x0, a_x1, a_x2, a_x3, a_x4, a_x5, a_x6, a_x7⟩ := P_x.out.facts
  go_wp2_with fail
  refine (H1.out W _ (G_x.out.below HB.out)).mono ?_
  rintro e wx1 ⟨rfl, hb⟩
  clear a_x0 a_x1 a_x2 a_x3 a_x4 a_x5 a_x6 a_x7
  have P_x := Hd (P_x.out.below hb)
  have HB := Hd (belowTo HB.out hb)
  clear hb
  go_wp2_with fail
  go_ret
  exact ⟨rfl, HB.out⟩

/- Apart over a list of rows none of which lies in another's memory, wherever they lie. -/

structure RowsFree (w : World) (lo : Nat) (vs : List Value) : Prop where
  row : ∀ j, j < vs.length → ∃ n X, n ≤ 1073741824 ∧ w.ownsRow lo tLimb 1 (vs.getD j nilS) n X
  apart : ∀ j k, j < k → k < vs.length → ∀ g, (vs.getD j nilS).ownBlock = some g → (vs.getD k nilS).ownBlock ≠ some g
theorem RowsFree.nil (w : World) (lo : Nat) : RowsFree w lo [] := ⟨fun j hj => by simp at hj, fun j k _ hk => by simp at hk⟩
theorem RowsFree.below {w w' : World} {lo : Nat} {vs : List Value} (h : RowsFree w lo vs) (hb : Below w.heap.size w w') : RowsFree w' lo vs :=
  ⟨fun j hj => by obtain ⟨n, X, a1, a2⟩ := h.row j hj; exact ⟨n, X, a1, own_below a2 hb⟩, h.apart⟩
structure Far (b : Nat) (w V : World) : Prop where
  blk : ∀ g T cs, T ≠ tHeld → g ≠ b → Blk w g T cs → Blk V g T cs
theorem Far.refl (b : Nat) (w : World) : Far b w w := ⟨fun _ _ _ _ _ h => h⟩
theorem Far.trans {b : Nat} {w V X : World} (h : Far b w V) (k : Far b V X) : Far b w X := ⟨fun g T cs hT hg hb => k.blk g T cs hT hg (h.blk g T cs hT hg hb)⟩
theorem Far.of_below {b : Nat} {w V : World} (h : Below w.heap.size w V) : Far b w V := ⟨fun _ _ _ _ _ hb => hb.below h hb.lt⟩
theorem Far.below {b : Nat} {w V X : World} (h : Far b w V) (k : Below V.heap.size V X) : Far b w X := h.trans (.of_below k)
theorem Far.set {b : Nat} {w V : World} (h : Far b w V) (k : Nat) (u : Value) : Far b w (V.setCell ⟨b, k, none⟩ u) := ⟨fun g T cs hT hg hb => by
  have := h.blk g T cs hT hg hb
  unfold Blk at this ⊢
  rw [Below.heap_setCell _ ⟨b, k, none⟩ _ g hg]
  exact this⟩
theorem Far.grown {b : Nat} {w V X : World} (h : Far b w V) {base size n : Nat} {v : Value} {xs : List Value} (ho : V.ownsRow base tHeld size v n xs) (hg : V.grownBy X v.ownBlock) : Far b w X := ⟨fun g T cs hT hgb hb =>
  (h.blk g T cs hT hgb hb).grown hg (Ne.symm (own_blk_ne ho (h.blk g T cs hT hgb hb) hT.symm))⟩
theorem RowsFree.far {b : Nat} {w V : World} {lo : Nat} {vs : List Value} (h : RowsFree w lo vs) (k : Far b w V) {cs : Array Value} (hb : Blk w b tBook cs) : RowsFree V lo vs := by
  refine ⟨fun j hj => ?_, h.apart⟩
  obtain ⟨n, X, a1, a2⟩ := h.row j hj
  refine ⟨n, X, a1, a2.1, ?_⟩
  have e1 := own_blk_ne a2 hb (by decide)
  rcases a2.2 with h5 | ⟨g, cap, cur, k1, k2, k3, k4⟩
  · exact .inl h5
  · exact .inr ⟨g, cap, cur, k1, k2, k.blk g tLimb cur (by decide) (fun e => e1 (by rw [k1, e]; rfl)) k3, k4⟩
theorem apart_free (b B0 : Nat) (vs : List Value) (lims : Value) (w0 w : World) (hne : vs ≠ []) (hlen : vs.length ≤ 1000) (hk : Keep w b vs.length (fun j => vs.getD j nilS) lims) (hr : RowsFree w B0 vs) (hB : B0 ≤ b) (hl : Below B0 w0 w) :
    Calls Tryz.prog 16 #[.pointer (some ⟨b, 0, none⟩)] w fun e w' => e = .returned (.bool true) ∧ Below B0 w0 w' := by
  have hpos : 0 < vs.length := List.length_pos_iff.2 hne
  have hrow := hk.row
  rcases hrow.2 with ⟨-, h2⟩ | ⟨g0, cap, cur, h1, h2, h3, h4, h5, h6, h7⟩
  · omega
  · subst h1
    have hn : ∀ j, j < vs.length → ∃ X, w.ownsRow B0 tLimb 1 (vs.getD j nilS) (lenOf (vs.getD j nilS)) X ∧ lenOf (vs.getD j nilS) ≤ 1073741824 := fun j hj => by
      obtain ⟨n, X, a1, a2⟩ := hr.row j hj
      obtain ⟨A, c, hv⟩ := own_form (by omega) a2
      have : lenOf (vs.getD j nilS) = n := by rw [hv]; rfl
      rw [this]; exact ⟨X, a2, a1⟩
    let X : Nat → List Value := fun j => if h : j < vs.length then Classical.choose (hn j h) else []
    have hX : ∀ j, j < vs.length → w.ownsRow B0 tLimb 1 (vs.getD j nilS) (lenOf (vs.getD j nilS)) (X j) := fun j hj => by
      show w.ownsRow B0 tLimb 1 (vs.getD j nilS) (lenOf (vs.getD j nilS)) (if h : j < vs.length then Classical.choose (hn j h) else [])
      rw [dif_pos hj]; exact (Classical.choose_spec (hn j hj)).1
    have hcells : ∀ j, cur[j]? = if j < vs.length * 3 then (heldCells (fun j => vs.getD j nilS) vs.length)[j]? else cur[j]? := fun j => by
      split
      · rename_i h
        rw [← h7, List.getElem?_take, if_pos h]; simp
      · rfl
    refine apart_true b g0 cap vs.length B0 (fun j => vs.getD j nilS) (fun j => lenOf (vs.getD j nilS)) X w0 w ⟨hB, by omega, hlen, fun j hj => (Classical.choose_spec (hn j hj)).2, fun j hj => ?_, fun j k hj hk hjk => ?_⟩ ⟨hk.book, ⟨cur, h3, fun j hj => ?_⟩, hX, hl⟩
    · obtain ⟨n, X, a1, a2⟩ := hr.row j hj
      have e1 := own_blk_ne a2 hk.book (by decide)
      have e2 := own_blk_ne a2 h3 (by decide)
      exact fun g hg => ⟨fun e => e1 (by rw [hg, e]), fun e => e2 (by rw [hg, e])⟩
    · intro g hg hg2
      rcases Nat.lt_or_ge j k with h | h
      · exact hr.apart j k h hk g hg hg2
      · exact hr.apart k j (by omega) hj g hg2 hg
    · obtain ⟨a1, a2, a3⟩ := heldCells_at (fun j => vs.getD j nilS) vs.length j hj
      rw [hcells, if_pos (by omega), hcells (j * 3 + 1), if_pos (by omega), hcells (j * 3 + 2), if_pos (by omega)]
      exact ⟨a1, a2, a3⟩
theorem keep_all (b m : Nat) (l : Nat → Value) (lims : Value) (vA : Option Addr) (vn vc : Nat) (hm : m ≤ 1000) (w : World) (h : Keep w b m l lims) :
    Calls Tryz.prog 209 #[.pointer (some ⟨b, 0, none⟩), .slice vA vn vc] w fun e w' => e = .returned (.tuple #[]) ∧ ∃ lims', Keep w' b (m + 1) (updV l m (.slice vA vn vc)) lims' ∧ Below b w w' ∧ Far b w w' := by
  obtain ⟨i0, hi, hz0, hz1, hz2⟩ := info_parts heldInfo
  have hb := h.book
  have hrow := h.row
  have hlt := hb.lt
  have c0 := hb.cell 0
  have f0 := hb.frozen 0
  simp at c0
  have hadd : IntKind.i64.wrap ((m : Int) + 1) = ((m + 1 : Nat) : Int) := by rw [IntWalk.i64_in _ (by omega)]; omega
  clear h
  have HB := Hd hb
  have HR := Hd hrow
  clear hb hrow
  go_enter Tryz.func209, Tryz.ntmps209
  go_wp2_with fail
  have hW : Blk (w.setCell ⟨b, 0, none⟩ (.int .i64 ((m : Int) + 1))) b tBook #[.int .i64 ((m : Int) + 1), lims, nilS, nilS, nilS, nilS, nilS, nilS, nilS, nilS, nilS, nilS, nilS, nilS, nilS, nilS, nilS] := HB.out.set_ 0 _
  have hrW := ownsRow_setCell_below HR.out (a := ⟨b, 0, none⟩) (Nat.lt_succ_self b) (.int .i64 ((m : Int) + 1))
  have hbW : Below b w (w.setCell ⟨b, 0, none⟩ (.int .i64 ((m : Int) + 1))) := (Below.refl b w).setCell (p := ⟨b, 0, none⟩) (Nat.le_refl _) _
  have hgW : Far b w (w.setCell ⟨b, 0, none⟩ (.int .i64 ((m : Int) + 1))) := (Far.refl b w).set 0 _
  obtain ⟨W, E⟩ : ∃ W, W = w.setCell ⟨b, 0, none⟩ (.int .i64 ((m : Int) + 1)) := ⟨_, rfl⟩
  rw [← E] at hW hrW hbW hgW ⊢
  clear E HB HR c0 f0
  have hltW := hW.lt
  have HW := Hd hW
  have HR := Hd hrW
  have HB := Hd hbW
  have HG := Hd hgW
  clear hW hrW hbW hgW hadd
  refine wp_region_stepsB [.val (.pointer (some ⟨b, 0, none⟩)), .val (.pointer (some ⟨b, 0, none⟩)), .val (.pointer (some ⟨b, 0, none⟩)), .val (.pointer (some ⟨b, 1, none⟩)), .val lims, .val (.slice vA vn vc), .val (.pointer (some ⟨b, 0, none⟩)), .val (.pointer (some ⟨b, 0, none⟩)), .val (.pointer (some ⟨b, 0, none⟩)), .val (.int .i64 ((m : Int) + 1)), .val (.agg #[.slice vA vn vc, nilS, .int .i64 ((m : Int) + 1)]), .step, .step, .step, .step, .step] 4 5 (b + 1) W (by omega)
    (fun us V => match us with
      | [] => V.ownsRow (b + 1) tHeld 3 lims m (heldCells l m) ∧ Far b w V
      | [u0] => V.ownsRow (b + 1) tHeld 3 lims m (heldCells l m) ∧ Far b w V ∧ ∃ g, u0 = .slice (some ⟨g, 0, none⟩) 1 1 ∧ Reads V V.heap.size 3 (some ⟨g, 0, none⟩) 1 [.slice vA vn vc, nilS, .int .i64 ((m : Int) + 1)]
      | [_, u1] => V.ownsRow (b + 1) tHeld 3 u1 (m + 1) (heldCells (updV l m (.slice vA vn vc)) (m + 1)) ∧ Far b w V
      | [_, u1, u2] => u2 = .pointer (some ⟨b, 0, none⟩) ∧ V.ownsRow (b + 1) tHeld 3 u1 (m + 1) (heldCells (updV l m (.slice vA vn vc)) (m + 1)) ∧ Far b w V
      | [_, u1, _, u3] => u3 = .pointer (some ⟨b, 1, none⟩) ∧ V.ownsRow (b + 1) tHeld 3 u1 (m + 1) (heldCells (updV l m (.slice vA vn vc)) (m + 1)) ∧ Far b w V
      | _ => False)
    (fun _ V => ∃ lims', Keep V b (m + 1) (updV l m (.slice vA vn vc)) lims' ∧ Below b w V ∧ Far b w V)
    _ mixedOrders2 (by kernel_rfl) (by kernel_rfl) (by kernel_rfl) (by kernel_rfl) (by kernel_rfl) (by kernel_rfl) (by kernel_rfl) (by kernel_rfl) (by kernel_rfl) rfl ?_ (Below.refl _ _) ⟨HR.out.drew, HG.out.below (Below.refl _ _).drew⟩ ?_ ?_ ?_
  · intro us V V' hg hb
    match us, hg with
    | [], hg => exact ⟨own_below hg.1 hb, hg.2.below hb⟩
    | [u0], ⟨h1, h0, g, h2, h3⟩ => exact ⟨own_below h1 hb, h0.below hb, g, h2, (h3.below hb).more hb.size⟩
    | [_, u1], hg => exact ⟨own_below hg.1 hb, hg.2.below hb⟩
    | [_, u1, u2], hg => exact ⟨hg.1, own_below hg.2.1 hb, hg.2.2.below hb⟩
    | [_, u1, u2, u3], hg => exact ⟨hg.1, own_below hg.2.1 hb, hg.2.2.below hb⟩
  · simp [ValsOk, chainAct, fill, pairs, valAt]
    repeat' apply And.intro
    all_goals
      intro V hV
      have hx := HW.out.below hV (Nat.lt_succ_self b)
      have c0 := hx.cell 0
      have c1 := hx.cell 1
      simp at c0 c1
      clear hV hx
      go_simp
      try exact Below.refl _ _
  · simp [StepsOk, chainAct, fill, pairs, valAt, stepNo, List.filter, Stp.isStep]
    refine ⟨fun V hV hr hx0 => ?_, fun u0 => ⟨fun V hV hr hx0 g hu hrd => ?_, fun u1 => ⟨fun V hV hr hx0 => ?_, fun u2 => ⟨fun V hV hu2 hr hx0 => ?_, fun u3 V hV hu3 hr hx0 => ?_⟩⟩⟩⟩
    · go_simp
      exact ⟨hV.alloc (by have := hV.size; omega) _, own_below hr ((Below.refl _ _).alloc (Nat.le_refl _) _), hx0.below ((Below.refl _ _).alloc (Nat.le_refl _) _), Reads.new1 V _ 3 _ rfl⟩
    · subst hu
      have hsz := hV.size
      refine wp_append_any V (.tmp 15) (.tmp 22) _ rfl (b + 1) tHeld i0 _ 3 56 Tryz.underlying33 hi hz0 hz1 hz2 rfl (by omega) lims m (heldCells l m) rfl hr V.heap.size (some ⟨g, 0, none⟩) 1 1 [.slice vA vn vc, nilS, .int .i64 ((m : Int) + 1)] rfl hrd (by simp [Value.oneCell']) (by unfold maxLen; omega) (by omega) (by omega) ?_
      intro v' w' ho hg hat
      refine ⟨v', rfl, hV.grown hg (by omega) (fun k hk => (hr.lt k hk).1), ?_⟩
      rw [heldCells_more, show ((m + 1 : Nat) : Int) = (m : Int) + 1 by omega]
      exact ⟨ho, hx0.grown hr hg⟩
    · go_simp
      try exact ⟨hV, hr, hx0⟩
    · subst hu2
      go_simp
      try exact ⟨hV, hr, hx0⟩
    · subst hu3
      obtain ⟨A1, k1, rfl⟩ := own_form (by omega) hr
      have hx := HW.out.below hV (Nat.lt_succ_self b)
      have c1 := hx.cell 1
      have f1 := hx.frozen 1
      simp at c1
      go_simp
      refine ⟨⟨.slice A1 (m + 1) k1, ?_, ?_⟩, (HB.out.trans (hV.mono (Nat.le_succ b))).setCell (p := ⟨b, 1, none⟩) (Nat.le_refl _) _, hx0.set 1 _⟩
      · have := hx.set_ 1 (.slice A1 (m + 1) k1)
        exact this
      · exact ownsRow_setCell_below hr (a := ⟨b, 1, none⟩) (Nat.lt_succ_self b) _
  · intro us V hus hF
    simp only [show ¬ (5 ≤ 4) by decide, if_false] at hF
    have HF := Hd hF
    obtain ⟨u0, u1, u2, u3, u4, rfl⟩ : ∃ u0 u1 u2 u3 u4, us = [u0, u1, u2, u3, u4] := by
      match us, hus with
      | [u0, u1, u2, u3, u4], _ => exact ⟨u0, u1, u2, u3, u4, rfl⟩
    simp [chainAct, fill, pairs, valAt, stepNo, List.filter, Stp.isStep]
    clear hF HW HR HB HG
    go_wp2_with fail
    exact bodyPost_end (v := .tuple #[]) (by simp [results, Tryz.results209, go_sem]) rfl ⟨rfl, HF.out⟩

theorem book_Int_all (b m : Nat) (l : Nat → Value) (lims : Value) (neg : Bool) (vA : Option Addr) (vn vc : Nat) (hm : m ≤ 1000) (w : World) (h : Keep w b m l lims) :
    Calls Tryz.prog 134 #[.pointer (some ⟨b, 0, none⟩), .agg #[.bool neg, .slice vA vn vc]] w fun e w' => e = .returned (.tuple #[]) ∧ ∃ lims', Keep w' b (m + 1) (updV l m (.slice vA vn vc)) lims' ∧ Below b w w' ∧ Far b w w' := by
  have hlt := h.book.lt
  have C := Hd (keep_all b m l lims vA vn vc hm _ (h.below ((Below.refl _ _).alloc (Nat.le_refl _) (.cells #[.bool neg, .slice vA vn vc] 24))))
  have hfa := Hd (Far.of_below (b := b) ((Below.refl w.heap.size w).alloc (Nat.le_refl _) (.cells #[.bool neg, .slice vA vn vc] 24)))
  have hb := Hd (((Below.refl w.heap.size w).alloc (Nat.le_refl _) (.cells #[.bool neg, .slice vA vn vc] 24)).mono (Nat.le_of_lt hlt))
  clear h
  go_enter Tryz.func134, Tryz.ntmps134
  go_wp2_with fail
  refine C.out.mono ?_
  rintro e w' ⟨rfl, lims', hk, hb2, hx⟩
  have HF := Hd (⟨lims', hk, hb.out.trans hb2, hfa.out.trans hx⟩ : ∃ lims', Keep w' b (m + 1) (updV l m (.slice vA vn vc)) lims' ∧ Below b w w' ∧ Far b w w')
  clear C hb hk hb2 hx hfa
  go_wp2_with fail
  exact bodyPost_end (v := .tuple #[]) (by simp [results, Tryz.results134, go_sem]) rfl ⟨rfl, HF.out⟩
theorem book_Frac_all (b m : Nat) (l : Nat → Value) (lims : Value) (n1 n2 : Bool) (A B : Option Addr) (an ac bn bc : Nat) (hm : m + 1 ≤ 1000) (w : World) (h : Keep w b m l lims) :
    Calls Tryz.prog 40 #[.pointer (some ⟨b, 0, none⟩), .agg #[.bool n1, .slice A an ac, .bool n2, .slice B bn bc]] w fun e w' => e = .returned (.tuple #[]) ∧ ∃ lims', Keep w' b (m + 2) (updV (updV l m (.slice A an ac)) (m + 1) (.slice B bn bc)) lims' ∧ Below b w w' ∧ Far b w w' := by
  have hlt := h.book.lt
  have px := Quad.new w (.bool n1) (.slice A an ac) (.bool n2) (.slice B bn bc)
  have hb := Hd (((Below.refl w.heap.size w).alloc (Nat.le_refl _) (.cells #[.bool n1, .slice A an ac, .bool n2, .slice B bn bc] 26)).mono (Nat.le_of_lt hlt))
  have C1 := Hd (book_Int_all b m l lims n1 A an ac (by omega) _ (h.below ((Below.refl _ _).alloc (Nat.le_refl _) (.cells #[.bool n1, .slice A an ac, .bool n2, .slice B bn bc] 26))))
  have hfa := Hd (Far.of_below (b := b) ((Below.refl w.heap.size w).alloc (Nat.le_refl _) (.cells #[.bool n1, .slice A an ac, .bool n2, .slice B bn bc] 26)))
  have hne : w.heap.size ≠ b := by omega
  have PX := Hd px
  clear h px
  obtain ⟨-, x0, x1, x2, x3, -, -, -, -⟩ := PX.out.facts
  go_enter Tryz.func40, Tryz.ntmps40
  go_wp2_with fail
  refine C1.out.mono ?_
  rintro e w1 ⟨rfl, lims1, hk, hb1, hxf⟩
  have hx := hxf.blk _ _ _ (by decide) hne PX.out.blk
  have HFA := Hd (hfa.out.trans hxf)
  have C2 := Hd (book_Int_all b (m + 1) (updV l m (.slice A an ac)) lims1 n2 B bn bc hm w1 hk)
  obtain ⟨-, y0, y1, y2, y3, -, -, -, -⟩ := (Quad.mk hx).facts
  have HB := Hd (hb.out.trans hb1)
  clear C1 hb hk hb1 hx hxf hfa hne x0 x1 x2 x3
  go_wp2_with fail
  refine C2.out.mono ?_
  rintro e w2 ⟨rfl, lims2, hk2, hb2, hx2⟩
  have HF := Hd (⟨lims2, hk2, HB.out.trans hb2, HFA.out.trans hx2⟩ : ∃ lims', Keep w2 b (m + 2) (updV (updV l m (.slice A an ac)) (m + 1) (.slice B bn bc)) lims' ∧ Below b w w2 ∧ Far b w w2)
  clear C2 HB HFA hk2 hb2 hx2 y0 y1 y2 y3
  go_wp2_with fail
  exact bodyPost_end (v := .tuple #[]) (by simp [results, Tryz.results40, go_sem]) rfl ⟨rfl, HF.out⟩
end Go.Proofs.YthlehkjcfhnplaaGreatDoor
