/- Several texts in one: GAlive, FieldLaw, LawSum, FracC. -/
import Derived.Test.YthlehkjcfhnplaaGreatDoorGc34
import Derived.Test.YthlehkjcfhnplaaGreatDoorGcHd
import Derived.Test.YthlehkjcfhnplaaGreatDoorGc33
import Derived.Test.YthlehkjcfhnplaaGreatDoorGc30
set_option maxRecDepth 100000
set_option maxHeartbeats 8000000
/- alive of the laws of chapter 03. (Written by wip/gauss/genalive.py.) -/
namespace Go.Proofs.YthlehkjcfhnplaaGreatDoor
open Go.RowKit

theorem dig_r {n d : Int} (hn : Fit n) (hd : Fit d) : DigF 147 n d ⟨(fracText n d).toArray⟩ := by
  intro V v ht g
  obtain ⟨A, c, B, e0, rfl, h1, h2⟩ := g.form
  exact ratio_Digits n d A B c e0 V h1 h2 ht hn hd

theorem alive_walk {a1 a2 b1 b2 c1 c2 z0 k0 o : Int} (C1 : ∀ V : World, Calls Tryz.prog 11 #[.int .i64 3, .int .i64 (-4)] V (RetGaussOwn V.heap.size V a1 o a2 o)) (C2 : ∀ V : World, Calls Tryz.prog 11 #[.int .i64 1, .int .i64 2] V (RetGaussOwn V.heap.size V b1 o b2 o))
    (C3 : OpG2 104 a1 o a2 o b1 o b2 o c1 o c2 o 0) (C4 : ∀ (V : World) (v : Value), powTab V → GaussAt V v c1 o c2 o → Calls Tryz.prog 49 #[v] V fun e w' => e = .returned (.tuple #[.string ⟨#[49, 49, 43, 50, 105]⟩, .int .i64 0]) ∧ Below V.heap.size V w')
    (C5 : ∀ V : World, Calls Tryz.prog 11 #[.int .i64 0, .int .i64 0] V (RetGaussOwn V.heap.size V z0 o z0 o)) (C6 : OpG2 29 c1 o c2 o z0 o z0 o k0 k0 k0 k0 3) (w : World)  (htab : powTab w) :
    Calls Tryz.prog 17 #[] w fun e w' => e = .returned (.bool true) ∧ Below w.heap.size w w' := by
  have HT := Hd htab
  clear htab
  have H1 := Hd C1
  have H2 := Hd C2
  have H3 := Hd C3
  have H4 := Hd C4
  have H5 := Hd C5
  have H6 := Hd C6
  clear C1 C2 C3 C4 C5 C6
  go_enter Tryz.func17, Tryz.ntmps17
  have HB := Hd (Below.refl w.heap.size w)
  go_wp2_with fail
  refine (H1.out w).mono ?_
  rintro e wx1 ⟨v1, rfl, hI, hb⟩
  have G1 := Hd hI.in_.at_
  clear hI
  have HB := Hd (belowTo HB.out hb)
  clear hb
  go_wp2_with fail
  refine (H2.out wx1).mono ?_
  rintro e wx2 ⟨v2, rfl, hI, hb⟩
  have G2 := Hd hI.in_.at_
  clear hI
  have G1 := Hd (G1.out.below hb)
  have HB := Hd (belowTo HB.out hb)
  clear hb
  go_wp2_with fail
  refine (H3.out wx2 _ _ G1.out G2.out).mono ?_
  rintro e wx3 ⟨v, rfl, hI, hb⟩
  have hi := hI.in_
  obtain ⟨Azz1, czz1, Azz2, czz2, Azz3, czz3, Azz4, czz4, rfl, -⟩ := hI.form
  have ha := (Below.refl wx3.heap.size wx3).alloc (Nat.le_refl _) (.cells #[.bool (decide (c1 < 0)), .slice Azz1 (natL c1.natAbs).length czz1, .bool (decide (o < 0)), .slice Azz2 (natL o.natAbs).length czz2, .bool (decide (c2 < 0)), .slice Azz3 (natL c2.natAbs).length czz3, .bool (decide (o < 0)), .slice Azz4 (natL o.natAbs).length czz4] 28)
  have hq := Oct.new wx3 28 (.bool (decide (c1 < 0))) (.slice Azz1 (natL c1.natAbs).length czz1) (.bool (decide (o < 0))) (.slice Azz2 (natL o.natAbs).length czz2) (.bool (decide (c2 < 0))) (.slice Azz3 (natL c2.natAbs).length czz3) (.bool (decide (o < 0))) (.slice Azz4 (natL o.natAbs).length czz4)
  have hi := hi.below ha
  have HB := Hd (belowTo HB.out hb)
  have HB := Hd (belowTo HB.out ha)
  go_upto_region 2 with fail
  obtain ⟨wy3, E⟩ : ∃ W, W = wx3.alloc (.cells #[.bool (decide (c1 < 0)), .slice Azz1 (natL c1.natAbs).length czz1, .bool (decide (o < 0)), .slice Azz2 (natL o.natAbs).length czz2, .bool (decide (c2 < 0)), .slice Azz3 (natL c2.natAbs).length czz3, .bool (decide (o < 0)), .slice Azz4 (natL o.natAbs).length czz4] 28) := ⟨_, rfl⟩
  obtain ⟨b_zz, hbq⟩ : ∃ q, q = wx3.heap.size := ⟨_, rfl⟩
  rw [← E] at hi HB
  rw [← E, ← hbq] at hq ⊢
  have P_zz := Hd hq
  have O_zz := Hd hi
  clear hI hi hb ha hq hbq E
  clear G1 G2 H1 H2 H3
  obtain ⟨-, a_zz0, a_zz1, a_zz2, a_zz3, a_zz4, a_zz5, a_zz6, a_zz7⟩ := P_zz.out.facts
  go_wp2_with fail
  refine (H4.out wy3 _ (HT.out.below2 HB.out) O_zz.out.at_).mono ?_
  rintro e wx4 ⟨rfl, hb⟩
  clear a_zz0 a_zz1 a_zz2 a_zz3 a_zz4 a_zz5 a_zz6 a_zz7
  have P_zz := Hd (P_zz.out.below hb)
  have O_zz := Hd (O_zz.out.below hb)
  have HB := Hd (belowTo HB.out hb)
  clear hb
  go_wp2_with fail
  refine wp_region_free [.val (.agg #[.bool (decide (c1 < 0)), .slice Azz1 (natL c1.natAbs).length czz1, .bool (decide (o < 0)), .slice Azz2 (natL o.natAbs).length czz2, .bool (decide (c2 < 0)), .slice Azz3 (natL c2.natAbs).length czz3, .bool (decide (o < 0)), .slice Azz4 (natL o.natAbs).length czz4]) [], .any false (fun u V => GaussOwn V w.heap.size u z0 o z0 o) [], .any false (fun u V => TupG V w.heap.size u k0 k0 k0 k0 3) [1], .any false (fun u V => TupG V w.heap.size u k0 k0 k0 k0 3) [2], .any false (fun u V => GaussOwn V w.heap.size u k0 k0 k0 k0) [3], .val (.int .i64 3) [3], .new 28 8, .put 28 8 6 4 [], .val (.int .i64 3) []] wx4.heap.size wx4 [28] blkFrac _ mixedOrders2 (Nat.le_refl _) (Below.refl _ _) (KeptV.refl _ _ _) rfl (by kernel_rfl) (by kernel_rfl) (by kernel_rfl) (by kernel_rfl) (by kernel_rfl) (by kernel_rfl) (by kernel_rfl) (by kernel_rfl) rfl (by simp [oldsF]) ?_ ?_ ?_ ?_
  · simp only [StableF, and_true]
    exact ⟨fun u V V' h k => h.kept k (by decide), fun u V V' h k => h.kept k (by decide), fun u V V' h k => h.kept k (by decide), fun u V V' h k => h.kept k (by decide)⟩
  · simp only [OldsF]
  · simp (maxSteps := 4000000) [StepsF, DepF, freeAct, fill, pairs]
    repeat' (first | apply And.intro | (intro (u : Value)) | (intro (u : Nat)))
    all_goals try exact ⟨_, _, _, rfl, rfl, rfl, rfl, gaussInfo⟩
    all_goals try exact allocGauss rfl
    all_goals first
    | (intro V hV hK
       have hs_0 := HB.out.size
       have qzz := P_zz.out.below hV
       obtain ⟨-, a_zz0, a_zz1, a_zz2, a_zz3, a_zz4, a_zz5, a_zz6, a_zz7⟩ := qzz.facts
       have o_zz := Hd (O_zz.out.below hV)
       have hvb := HB.out.trans (hV.mono (by omega))
       have hvs := hvb.size
       clear hV hK qzz
       go_simp
       first
       | exact Below.refl _ _
       | ((with_reducible refine (H5.out V).mono ?_); rintro e w' ⟨v, rfl, hv, hb⟩; exact ⟨hv.base hvs, hb⟩))
    | (intro V hV hK h1
       have hs_0 := HB.out.size
       have qzz := P_zz.out.below hV
       obtain ⟨-, a_zz0, a_zz1, a_zz2, a_zz3, a_zz4, a_zz5, a_zz6, a_zz7⟩ := qzz.facts
       have o_zz := Hd (O_zz.out.below hV)
       have hvb := HB.out.trans (hV.mono (by omega))
       have hvs := hvb.size
       clear hV hK qzz
       go_simp
       ((with_reducible refine (H6.out V _ _ o_zz.out.at_ h1.in_.at_).mono ?_); rintro e w' ⟨v, rfl, hv, hb⟩; exact ⟨⟨v, rfl, hv.base hvs⟩, hb⟩))
    | (intro V hV hK h1
       obtain ⟨v, rfl, hv⟩ := h1.form
       clear hV hK
       go_simp
       first
       | exact ⟨hv, Below.refl _ _⟩
       | exact ⟨⟨_, rfl, hv⟩, Below.refl _ _⟩
       | exact Below.refl _ _)
    | exact fun _ _ _ (h : GaussOwn _ _ _ _ _ _ _) => h.cells
    | exact fun _ _ _ (h : GaussOwn _ _ _ _ _ _ _) _ => h.cells
  · simp [EndF, FactsF, freeAct, fill, pairs]
    intro u1 u2 u3 u4 b_qq hb_qq V5 hV hK h1 h2 h3 h4 p_qq _ _ _
    have O_qq := Hd h4.in_
    obtain ⟨Aqq1, cqq1, Aqq2, cqq2, Aqq3, cqq3, Aqq4, cqq4, rfl, -⟩ := h4.form
    have P_qq := Hd (show Oct V5 b_qq 28 _ _ _ _ _ _ _ _ from ⟨p_qq⟩)
    have P_zz := Hd (P_zz.out.below hV)
    have O_zz := Hd (O_zz.out.below hV)
    have HB := Hd (belowTo HB.out hV)
    clear hV hK h1 h2 h3 h4 p_qq hb_qq
    go_wp2_with fail
    go_ret
    exact ⟨rfl, HB.out⟩

theorem GIs.re_same {a b a' b' : Rat} {n d m f : Int} (x : GIs a b n d m f) (h1 : a' = a) (h2 : b' = b) : GIs a' b' n d m f := by rw [h1, h2]; exact x
theorem itoa_eleven : Lib.itoa 11 = [49, 49] := by
  rw [show (11 : Int) = ((11 : Nat) : Int) from rfl, Lib.itoa_nonneg, Lib.decDigits_two (by omega) (by omega)]; rfl
theorem itoa_two : Lib.itoa 2 = [50] := by
  rw [show (2 : Int) = ((2 : Nat) : Int) from rfl, Lib.itoa_nonneg, Lib.decDigits_one (by omega)]; rfl
theorem alive_true (w : World) (htab : powTab w) : Calls Tryz.prog 17 #[] w fun e w' => e = .returned (.bool true) ∧ Below w.heap.size w w' := by
  have x1 := gis_int 3 (-4) (by decide) (by decide) (by decide) (by decide)
  have x2 := gis_int 1 2 (by decide) (by decide) (by decide) (by decide)
  have x3 := gis_int 11 2 (by decide) (by decide) (by decide) (by decide)
  have x0 := gis_int 0 0 (by decide) (by decide) (by decide) (by decide)
  have x3' : GIs (((3 : Int) : Rat) * ((1 : Int) : Rat) - ((-4 : Int) : Rat) * ((2 : Int) : Rat)) (((3 : Int) : Rat) * ((2 : Int) : Rat) + ((-4 : Int) : Rat) * ((1 : Int) : Rat)) 11 1 2 1 := x3.re_same (by grind) (by grind)
  refine alive_walk (a1 := 3) (a2 := -4) (b1 := 1) (b2 := 2) (c1 := 11) (c2 := 2) (z0 := 0) (k0 := 0) (o := 1) (of_g 1 rfl (by decide) (by decide) (by decide) (by decide)) (of_g 1 rfl (by decide) (by decide) (by decide) (by decide)) (gmul_c x1 x2 x3') ?_ (of_g 1 rfl (by decide) (by decide) (by decide) (by decide)) (gquo_zero x3 x0 ⟨rfl, rfl⟩) w htab
  intro V v ht g
  have e1 : fracText 11 1 = [49, 49] := by unfold fracText; rw [if_pos rfl, itoa_eleven]
  have e2 : fracText 2 1 = [50] := by unfold fracText; rw [if_pos rfl, itoa_two]
  have d1 := dig_r (n := 11) (d := 1) (by decide +kernel) (by decide +kernel)
  have d2 := dig_r (n := 2) (d := 1) (by decide +kernel) (by decide +kernel)
  rw [e1] at d1
  rw [e2] at d2
  have d3 : DigF 148 2 1 ⟨#[50, 105]⟩ := fun V v ht g => gauss_second_more (t := ⟨#[50]⟩) (u := ⟨#[50, 105]⟩) d2 (by decide) (by decide) (by decide) rfl V v g ht
  exact gauss_Text_Bp (t1 := ⟨#[49, 49]⟩) (t2 := ⟨#[50, 105]⟩) (s0 := 1) (s1 := 1) x3.may (sgn_r x3.re) (sgn_r x3.im) (by decide) (by decide) (by decide) d1 d3 rfl (by decide) (by decide) (by decide) (by decide) V v g ht
/- GaussField, GaussNorms, GaussCircle as laws of rational numbers: nothing is refused. -/

def ln (q : Rat) : Nat := lz q.num
def ld (q : Rat) : Nat := lz (q.den : Int)
theorem ln_add (a b : Rat) : ln (a + b) ≤ max (ln a + ld b) (ln b + ld a) + 1 ∧ ld (a + b) ≤ ld a + ld b := by
  have i := is_add (Is.of a) (Is.of b)
  have h := lz_addN a.num a.den b.num b.den
  unfold ln ld
  rw [i.num, i.den]
  exact h
theorem ln_sub (a b : Rat) : ln (a - b) ≤ max (ln a + ld b) (ln b + ld a) + 1 ∧ ld (a - b) ≤ ld a + ld b := by
  have i := is_sub (Is.of a) (Is.of b)
  have h := lz_subN a.num a.den b.num b.den
  unfold ln ld
  rw [i.num, i.den]
  exact h
theorem ln_mul (a b : Rat) : ln (a * b) ≤ ln a + ln b ∧ ld (a * b) ≤ ld a + ld b := by
  have i := is_mul (Is.of a) (Is.of b)
  have h := lz_mulN a.num a.den b.num b.den
  unfold ln ld
  rw [i.num, i.den]
  exact h
theorem ln_quo (a b : Rat) (hb : b ≠ 0) : ln (a / b) ≤ ln a + ld b ∧ ld (a / b) ≤ ld a + ln b := by
  have i := is_quo (Is.of a) (Is.of b) hb
  have h := lz_quoN a.num a.den b.num b.den
  unfold ln ld
  rw [i.num, i.den]
  exact h
theorem Is.len {q : Rat} {n d : Int} (h : Is q n d) : ln q = lz n ∧ ld q = lz d := by
  unfold ln ld
  rw [h.num, h.den]
  exact ⟨rfl, rfl⟩
theorem GIs.re_eq {a b a' b' : Rat} {n d m f : Int} (x : GIs a b n d m f) (h1 : a' = a) (h2 : b' = b) : GIs a' b' n d m f := by rw [h1, h2]; exact x
theorem circle_one (t : Rat) : ((1 - t * t) / (1 + t * t)) * ((1 - t * t) / (1 + t * t)) + ((t + t) / (1 + t * t)) * ((t + t) / (1 + t * t)) = 1 := by
  have h : 1 + t * t ≠ 0 := fun k => by have := sq_nonneg t; grind
  grind
theorem circle_two (s t : Rat) (h : 1 - s * t ≠ 0) : ((1 - s * s) / (1 + s * s)) * ((1 - t * t) / (1 + t * t)) - ((s + s) / (1 + s * s)) * ((t + t) / (1 + t * t)) = (1 - ((s + t) / (1 - s * t)) * ((s + t) / (1 - s * t))) / (1 + ((s + t) / (1 - s * t)) * ((s + t) / (1 - s * t))) ∧
    ((1 - s * s) / (1 + s * s)) * ((t + t) / (1 + t * t)) + ((s + s) / (1 + s * s)) * ((1 - t * t) / (1 + t * t)) = ((s + t) / (1 - s * t) + (s + t) / (1 - s * t)) / (1 + ((s + t) / (1 - s * t)) * ((s + t) / (1 - s * t))) := by
  have h1 : 1 + s * s ≠ 0 := fun k => by have := sq_nonneg s; grind
  have h2 : 1 + t * t ≠ 0 := fun k => by have := sq_nonneg t; grind
  have h12 : (1 + s * s) * (1 + t * t) ≠ 0 := fun k => (Rat.mul_eq_zero.1 k).elim h1 h2
  obtain ⟨u, hu⟩ : ∃ u, u = (s + t) / (1 - s * t) := ⟨_, rfl⟩
  rw [← hu]
  have h3 : 1 + u * u ≠ 0 := fun k => by have := sq_nonneg u; grind
  have e : u * (1 - s * t) = s + t := by rw [hu]; exact Rat.div_mul_cancel h
  clear hu
  obtain ⟨w, hw⟩ : ∃ w, w = 1 - s * t := ⟨_, rfl⟩
  rw [← hw] at e h
  have e3 : u * w * (u * w) = (s + t) * (s + t) := by rw [e]
  have eA : (1 - s * s) * (1 - t * t) - (s + s) * (t + t) = w * w * (1 - u * u) := by
    have : (1 - s * s) * (1 - t * t) - (s + s) * (t + t) = w * w - (s + t) * (s + t) := by rw [hw]; grind
    rw [this, ← e3]; grind
  have eB : (1 - s * s) * (t + t) + (s + s) * (1 - t * t) = w * w * (u + u) := by
    have : (1 - s * s) * (t + t) + (s + s) * (1 - t * t) = w * (s + t) + w * (s + t) := by rw [hw]; grind
    rw [this, ← e]; grind
  have eP : (1 + s * s) * (1 + t * t) = w * w * (1 + u * u) := by
    have : (1 + s * s) * (1 + t * t) = w * w + (s + t) * (s + t) := by rw [hw]; grind
    rw [this, ← e3]; grind
  have hp : w * w ≠ 0 := by grind
  clear hw e e3
  constructor
  · have l1 : ((1 - s * s) / (1 + s * s)) * ((1 - t * t) / (1 + t * t)) - ((s + s) / (1 + s * s)) * ((t + t) / (1 + t * t)) = ((1 - s * s) * (1 - t * t) - (s + s) * (t + t)) / ((1 + s * s) * (1 + t * t)) := by
      clear eA eB eP
      grind
    rw [l1, eA, eP]
    clear l1 eA eB eP
    grind
  · have l1 : ((1 - s * s) / (1 + s * s)) * ((t + t) / (1 + t * t)) + ((s + s) / (1 + s * s)) * ((1 - t * t) / (1 + t * t)) = ((1 - s * s) * (t + t) + (s + s) * (1 - t * t)) / ((1 + s * s) * (1 + t * t)) := by
      clear eA eB eP
      grind
    rw [l1, eB, eP]
    clear l1 eA eB eP
    grind
theorem circle_back (s t : Rat) (h : 1 - s * t = 0) : ((1 - s * s) / (1 + s * s)) * ((1 - t * t) / (1 + t * t)) - ((s + s) / (1 + s * s)) * ((t + t) / (1 + t * t)) = -1 ∧
    ((1 - s * s) / (1 + s * s)) * ((t + t) / (1 + t * t)) + ((s + s) / (1 + s * s)) * ((1 - t * t) / (1 + t * t)) = 0 := by
  have h1 : 1 + s * s ≠ 0 := fun k => by have := sq_nonneg s; grind
  have h2 : 1 + t * t ≠ 0 := fun k => by have := sq_nonneg t; grind
  constructor <;> grind
/- sum and times of the laws: nothing is refused. (Written by wip/gauss/genlawsum.py.) -/

abbrev OpS (F : FuncId) (n d m f p q r s N D M E : Int) : Prop := ∀ (V : World) (v1 v2 : Value) (kk : Nat), GaussAt V v1 n d m f → GaussAt V v2 p q r s → Cell1 V kk 4 (.bool true) → Calls Tryz.prog F #[v1, v2, .pointer (some ⟨kk, 0, none⟩)] V (RetGaussOwn V.heap.size V N D M E)

theorem law_times0 {n d m f p q r s N D M E : Int} (C1 : OpG2 104 n d m f p q r s N D M E 0) (w : World) (v_x v_y : Value) (g_x : GaussAt w v_x n d m f) (g_y : GaussAt w v_y p q r s) {kk : Nat} (ck : Cell1 w kk 4 (.bool true)) :
    Calls Tryz.prog 27 #[v_x, v_y, .pointer (some ⟨kk, 0, none⟩)] w (RetGaussOwn w.heap.size w N D M E) := by
  obtain ⟨Ax1, cx1, Ax2, cx2, Ax3, cx3, Ax4, cx4, rfl, -⟩ := g_x.form
  obtain ⟨Ay1, cy1, Ay2, cy2, Ay3, cy3, Ay4, cy4, rfl, -⟩ := g_y.form
  have CK0 := Hd ck
  clear ck
  have H1 := Hd C1
  clear C1
  have G_x := Hd g_x
  have G_y := Hd g_y
  clear g_x g_y
  go_enter Tryz.func27, Tryz.ntmps27
  go_upto_region 1 with fail
  refine boxes3 (P := fun W => Code.wp _ _ _ _ W) fun W p0 p1 p2 b0 => ?_
  have P_x := Hd (Oct.mk p0)
  have P_y := Hd (Oct.mk p1)
  have PR := Hd (Oct.mk p2)
  have HB := Hd b0
  clear b0 p0 p1 p2
  have CK := Hd (CK0.out.below HB.out)
  obtain ⟨-, a_x0, a_x1, a_x2, a_x3, a_x4, a_x5, a_x6, a_x7⟩ := P_x.out.facts
  obtain ⟨-, a_y0, a_y1, a_y2, a_y3, a_y4, a_y5, a_y6, a_y7⟩ := P_y.out.facts
  go_wp2_with fail
  refine (H1.out W _ _ (G_x.out.below HB.out) (G_y.out.below HB.out)).mono ?_
  rintro e wx1 ⟨v, rfl, hI, hb⟩
  clear a_x0 a_x1 a_x2 a_x3 a_x4 a_x5 a_x6 a_x7 a_y0 a_y1 a_y2 a_y3 a_y4 a_y5 a_y6 a_y7
  have hi := hI.in_
  obtain ⟨Azz1, czz1, Azz2, czz2, Azz3, czz3, Azz4, czz4, rfl, -⟩ := hI.form
  have HS_zz := Hd HB.out.size
  have ha := (Below.refl wx1.heap.size wx1).alloc (Nat.le_refl _) (.cells #[.bool (decide (N < 0)), .slice Azz1 (natL N.natAbs).length czz1, .bool (decide (D < 0)), .slice Azz2 (natL D.natAbs).length czz2, .bool (decide (M < 0)), .slice Azz3 (natL M.natAbs).length czz3, .bool (decide (E < 0)), .slice Azz4 (natL E.natAbs).length czz4] 28)
  have hq := Oct.new wx1 28 (.bool (decide (N < 0))) (.slice Azz1 (natL N.natAbs).length czz1) (.bool (decide (D < 0))) (.slice Azz2 (natL D.natAbs).length czz2) (.bool (decide (M < 0))) (.slice Azz3 (natL M.natAbs).length czz3) (.bool (decide (E < 0))) (.slice Azz4 (natL E.natAbs).length czz4)
  have hi := hi.below ha
  have ho := hI.below ha
  have P_x := Hd (P_x.out.below hb)
  have P_y := Hd (P_y.out.below hb)
  have PR := Hd (PR.out.below hb)
  have CK := Hd (CK.out.below hb)
  have HB := Hd (belowTo HB.out hb)
  have P_x := Hd (P_x.out.below ha)
  have P_y := Hd (P_y.out.below ha)
  have PR := Hd (PR.out.below ha)
  have CK := Hd (CK.out.below ha)
  have HB := Hd (belowTo HB.out ha)
  go_upto_region 2 with fail
  obtain ⟨wy1, E⟩ : ∃ W, W = wx1.alloc (.cells #[.bool (decide (N < 0)), .slice Azz1 (natL N.natAbs).length czz1, .bool (decide (D < 0)), .slice Azz2 (natL D.natAbs).length czz2, .bool (decide (M < 0)), .slice Azz3 (natL M.natAbs).length czz3, .bool (decide (E < 0)), .slice Azz4 (natL E.natAbs).length czz4] 28) := ⟨_, rfl⟩
  obtain ⟨b_zz, hbq⟩ : ∃ q, q = wx1.heap.size := ⟨_, rfl⟩
  rw [← E] at hi ho P_x P_y PR CK HB
  rw [← E, ← hbq] at hq ⊢
  have P_zz := Hd hq
  have O_zz := Hd hi
  have Q_zz := Hd ho
  clear ho
  clear hI hi hb ha hq hbq E
  have kl := CK.out.blk.lt
  have k0 := CK.out.blk.cell 0
  have kf := CK.out.blk.frozen 0
  simp at k0
  go_upto_region 3 with fail
  obtain ⟨y2, E⟩ : ∃ W, W = wy1.setCell ⟨kk, 0, none⟩ (.bool true) := ⟨_, rfl⟩
  have hs := Go.Proofs.YthlehkjcfhnplaaGreatDoor.Below.same (Below.refl wy1.heap.size wy1) CK.out.blk
  rw [← E] at hs ⊢
  clear E kl k0 kf
  have P_x := Hd (P_x.out.below hs)
  have P_y := Hd (P_y.out.below hs)
  have P_zz := Hd (P_zz.out.below hs)
  have O_zz := Hd (O_zz.out.below hs)
  have PR := Hd (PR.out.below hs)
  have CK := Hd (CK.out.below hs)
  have Q_zz := Hd (Q_zz.out.below hs)
  have HB := Hd (belowTo HB.out hs)
  clear hs
  obtain ⟨-, a_zz0, a_zz1, a_zz2, a_zz3, a_zz4, a_zz5, a_zz6, a_zz7⟩ := P_zz.out.facts
  obtain ⟨l_r, r0, r1, r2, r3, r4, r5, r6, r7⟩ := PR.out.facts
  obtain ⟨f0, f1, f2, f3, f4, f5, f6, f7⟩ := PR.out.free
  have HQ := Hd (PR.out.store (.bool (decide (N < 0))) (.slice Azz1 (natL N.natAbs).length czz1) (.bool (decide (D < 0))) (.slice Azz2 (natL D.natAbs).length czz2) (.bool (decide (M < 0))) (.slice Azz3 (natL M.natAbs).length czz3) (.bool (decide (E < 0))) (.slice Azz4 (natL E.natAbs).length czz4))
  have HB9 := Hd (below8 HB.out (show w.heap.size ≤ w.heap.size + 1 + 1 by omega) (.bool (decide (N < 0))) (.slice Azz1 (natL N.natAbs).length czz1) (.bool (decide (D < 0))) (.slice Azz2 (natL D.natAbs).length czz2) (.bool (decide (M < 0))) (.slice Azz3 (natL M.natAbs).length czz3) (.bool (decide (E < 0))) (.slice Azz4 (natL E.natAbs).length czz4))
  have HF := Hd (Q_zz.out.oct PR.out (by decide) (.bool (decide (N < 0))) (.slice Azz1 (natL N.natAbs).length czz1) (.bool (decide (D < 0))) (.slice Azz2 (natL D.natAbs).length czz2) (.bool (decide (M < 0))) (.slice Azz3 (natL M.natAbs).length czz3) (.bool (decide (E < 0))) (.slice Azz4 (natL E.natAbs).length czz4))
  go_wp2_with fail
  obtain ⟨_, k0, k1, k2, k3, k4, k5, k6, k7⟩ := HQ.out.facts
  exact bodyPost_ret (by simp [results, Tryz.results27, go_sem, k0, k1, k2, k3, k4, k5, k6, k7]) rfl ⟨_, rfl, HF.out.base HS_zz.out, HB9.out⟩

theorem law_times {n d m f p q r s N D M E : Int} (C1 : OpG2 104 n d m f p q r s N D M E 0) : OpS 27 n d m f p q r s N D M E := fun V v1 v2 _ g1 g2 ck => law_times0 C1 V v1 v2 g1 g2 ck
/- The calls of package frac, and Norm and Conj of gauss, over numbers that may be, where nothing is refused. -/

theorem GaussOwn.at_ {w : World} {base : Nat} {v : Value} {n d m f : Int} (h : GaussOwn w base v n d m f) : GaussAt w v n d m f := h.in_.at_
theorem ans_fits2 {n d : Int} (l1 : lz n ≤ 2048) (l2 : lz d ≤ 2048) : ansN n d = n ∧ ansD n d = d ∧ ansK n d = 0 := by
  unfold ansN ansD ansK
  simp only [if_pos (And.intro l1 l2)]
  exact ⟨trivial, trivial, trivial⟩
abbrev OpR2 (F : FuncId) (n d m f N D : Int) : Prop := ∀ (V : World) (v1 v2 : Value), FracAt V v1 n d → FracAt V v2 m f → Calls Tryz.prog F #[v1, v2] V (RetFracOwn2 V.heap.size V N D 0)
section
variable {a b : Rat} {n d m f N D : Int}
theorem fmul_c (x : Is a n d) (f1 : Fine n d) (y : Is b m f) (f2 : Fine m f) (z : Is (a * b) N D) (l1 : lz N ≤ 2048) (l2 : lz D ≤ 2048) : OpR2 41 n d m f N D := by
  intro V v1 v2 g1 g2
  obtain ⟨A, c, B, e0, rfl, h1, h2⟩ := g1.form
  obtain ⟨A2, c2, B2, e2, rfl, h3, h4⟩ := g2.form
  obtain ⟨e3, e4⟩ := z.uniq (is_mul x y)
  have k := frac_Mul_good n d m f A B A2 B2 c e0 c2 e2 V h1 h2 h3 h4 f1 f2
  rw [← e3, ← e4, (ans_fits2 l1 l2).1, (ans_fits2 l1 l2).2.1, (ans_fits2 l1 l2).2.2] at k
  exact k
theorem fadd_c (x : Is a n d) (f1 : Fine n d) (y : Is b m f) (f2 : Fine m f) (z : Is (a + b) N D) (l1 : lz N ≤ 2048) (l2 : lz D ≤ 2048) : OpR2 47 n d m f N D := by
  intro V v1 v2 g1 g2
  obtain ⟨A, c, B, e0, rfl, h1, h2⟩ := g1.form
  obtain ⟨A2, c2, B2, e2, rfl, h3, h4⟩ := g2.form
  obtain ⟨e3, e4⟩ := z.uniq (is_add x y)
  have k := frac_Add_good n d m f A B A2 B2 c e0 c2 e2 V h1 h2 h3 h4 f1 f2
  rw [← e3, ← e4, (ans_fits2 l1 l2).1, (ans_fits2 l1 l2).2.1, (ans_fits2 l1 l2).2.2] at k
  exact k
theorem fsub_c (x : Is a n d) (f1 : Fine n d) (y : Is b m f) (f2 : Fine m f) (z : Is (a - b) N D) (l1 : lz N ≤ 2048) (l2 : lz D ≤ 2048) : OpR2 46 n d m f N D := by
  intro V v1 v2 g1 g2
  obtain ⟨A, c, B, e0, rfl, h1, h2⟩ := g1.form
  obtain ⟨A2, c2, B2, e2, rfl, h3, h4⟩ := g2.form
  obtain ⟨e3, e4⟩ := z.uniq (is_sub x y)
  have k := frac_Sub_good n d m f A B A2 B2 c e0 c2 e2 V h1 h2 h3 h4 f1 f2
  rw [← e3, ← e4, (ans_fits2 l1 l2).1, (ans_fits2 l1 l2).2.1, (ans_fits2 l1 l2).2.2] at k
  exact k
theorem fquo_c (x : Is a n d) (f1 : Fine n d) (y : Is b m f) (f2 : Fine m f) (h0 : b ≠ 0) (z : Is (a / b) N D) (l1 : lz N ≤ 2048) (l2 : lz D ≤ 2048) : OpR2 48 n d m f N D := by
  intro V v1 v2 g1 g2
  obtain ⟨A, c, B, e0, rfl, h1, h2⟩ := g1.form
  obtain ⟨A2, c2, B2, e2, rfl, h3, h4⟩ := g2.form
  obtain ⟨e3, e4⟩ := z.uniq (is_quo x y h0)
  have k := frac_Quo_good n d m f A B A2 B2 c e0 c2 e2 V h1 h2 h3 h4 f1 f2 (fun e => h0 (y.nought.1 e))
  rw [← e3, ← e4, (ans_fits2 l1 l2).1, (ans_fits2 l1 l2).2.1, (ans_fits2 l1 l2).2.2] at k
  exact k
theorem fsign_c (f1 : Fine n d) : SgnF 42 n d n.sign := by
  intro V v1 g1
  obtain ⟨A, c, B, e0, rfl, h1, h2⟩ := g1.form
  exact frac_Sign_good n d n.sign A B c e0 V h1 h2 f1.chk rfl
end
theorem gnorm_c {a b : Rat} {n d m f N D : Int} (x : GIs a b n d m f) (z : Is (a * a + b * b) N D) (l1 : lz N ≤ 2048) (l2 : lz D ≤ 2048) (V : World) (v : Value) (g : GaussAt V v n d m f) : Calls Tryz.prog 33 #[v] V (RetFracOwn2 V.heap.size V N D 0) := by
  have up : ∀ {q : Rat} {l : Nat}, Sz q 2048 → 2048 ≤ l → Sz q l := fun h k => h.mono k
  have hb : (decide (2048 < (natL N.natAbs).length) || decide (2048 < (natL D.natAbs).length)) = false := by
    unfold lz at l1 l2
    rw [decide_eq_false (by omega), decide_eq_false (by omega)]
    rfl
  exact gauss_Norm_fits x.may (norm_g x.re x.im (up x.sz.1 (by omega)) (up x.sz.2 (by omega)) z) hb V v g
end Go.Proofs.YthlehkjcfhnplaaGreatDoor
