/- Several texts in one: TopC, TopS, TopR, OpenInt, OpenFrac. -/
import Derived.Test.YtmcnmoljliggfaaGreatDoorBt24
import Derived.Test.YtmcnmoljliggfaaGreatDoorBt31
import Derived.ChangeSlices
import Derived.ChangeArms
import Derived.SizedLaws
import Derived.Lib.SmallJoins
import Derived.ChangeSame
set_option maxRecDepth 100000
set_option maxHeartbeats 8000000
/- Contracts of package row and of benches' elements over rationals. -/
namespace Go.Proofs.YtmcnmoljliggfaaGreatDoor
open Go.RowKit

theorem OpR.i {F : FuncId} {n d m f N D : Int} (h : OpR F n d m f N D) : OpI F n d m f N D := fun V v1 v2 g1 g2 => (h V v1 v2 g1 g2).mono fun _ _ ⟨v, e, o, b⟩ => ⟨v, e, o.in_, b⟩
theorem OpR1.i {F : FuncId} {n d N D : Int} (h : OpR1 F n d N D) : OpI1 F n d N D := fun V v1 g1 => (h V v1 g1).mono fun _ _ ⟨v, e, o, b⟩ => ⟨v, e, o.in_, b⟩
theorem OpR0.i {F : FuncId} {N D : Int} (h : OpR0 F N D) : OpI0 F N D := fun V => (h V).mono fun _ _ ⟨v, e, o, b⟩ => ⟨v, e, o.in_, b⟩
abbrev I8.of (m : M2) : I8 := ⟨m.a.num, m.a.den, m.b.num, m.b.den, m.c.num, m.c.den, m.d.num, m.d.den⟩
abbrev PairQ (F : FuncId) (a x b y q : Rat) : Prop := PairI F a.num a.den x.num x.den b.num b.den y.num y.den q.num q.den
section
variable {a x b y : Rat}
theorem pair_q (sa : Sz a 50000000) (sx : Sz x 50000000) (sb : Sz b 50000000) (sy : Sz y 50000000) : PairQ 78 a x b y (a * x + b * y) :=
  pair_i (times_r (Is.of a) (Is.of x) (Is.of (a * x)) (sa.mono (by omega)) (sx.mono (by omega))).i (times_r (Is.of b) (Is.of y) (Is.of (b * y)) (sb.mono (by omega)) (sy.mono (by omega))).i
    (plus_r (Is.of (a * x)) (Is.of (b * y)) (Is.of (a * x + b * y)) ((sz_mul sa sx).mono (by omega)) ((sz_mul sb sy).mono (by omega))).i
theorem rpair_q (sa : Sz a 50000000) (sx : Sz x 50000000) (sb : Sz b 50000000) (sy : Sz y 50000000) : PairQ 35 a x b y (a * x + b * y) :=
  rpair_i (times_r (Is.of a) (Is.of x) (Is.of (a * x)) (sa.mono (by omega)) (sx.mono (by omega))).i (times_r (Is.of b) (Is.of y) (Is.of (b * y)) (sb.mono (by omega)) (sy.mono (by omega))).i
    (plus_r (Is.of (a * x)) (Is.of (b * y)) (Is.of (a * x + b * y)) ((sz_mul sa sx).mono (by omega)) ((sz_mul sb sy).mono (by omega))).i
theorem rdet_q (sa : Sz a 50000000) (sx : Sz x 50000000) (sb : Sz b 50000000) (sy : Sz y 50000000) : PairQ 42 a x b y (a * y - x * b) :=
  rdet_i (times_r (Is.of a) (Is.of y) (Is.of (a * y)) (sa.mono (by omega)) (sy.mono (by omega))).i (times_r (Is.of x) (Is.of b) (Is.of (x * b)) (sx.mono (by omega)) (sb.mono (by omega))).i
    (minus_r (Is.of (a * y)) (Is.of (x * b)) (Is.of (a * y - x * b)) ((sz_mul sa sy).mono (by omega)) ((sz_mul sx sb).mono (by omega))).i
end
theorem one_q : OpI0 43 1 1 := (show OpR0 43 1 1 from fun V => one_own rfl rfl V).i
theorem nought_q : OpI0 93 0 1 := (show OpR0 93 0 1 from fun V => nought_own 1 V rfl).i
theorem turned_q {q : Rat} (s : Sz q 50000000) : OpI1 82 q.num q.den (0 - q).num (0 - q).den := fun V v g =>
  turned_w nought_q (minus_r is_zero (Is.of q) (Is.of (0 - q)) (sz_zero.mono (by omega)) (s.mono (by omega))).i V v g
theorem copy_q {n d : Int} (hn : lz n ≤ 400000000) (hd : lz d ≤ 400000000) : OpI1 48 n d n d :=
  (show OpR1 48 n d n d from fun V v g => by
    obtain ⟨A, c, B, e0, rfl, a1, a2⟩ := g.form
    exact ratio_Copy n d A B c e0 V a1 a2 hn hd).i
theorem one_m (V : World) : Calls Tryz.prog 62 #[] V (Ret8 V (I8.of M2.one)) := mone_w one_q nought_q V
theorem turned_m {m : M2} (sa : Sz m.a 50000000) (sb : Sz m.b 50000000) (sc : Sz m.c 50000000) (sd : Sz m.d 50000000) (V : World) (v : Value) (g : MatAt8 V v (I8.of m)) :
    Calls Tryz.prog 87 #[v] V (Ret8 V (I8.of ⟨0 - m.a, 0 - m.b, 0 - m.c, 0 - m.d⟩)) := mturned_w (turned_q sa) (turned_q sb) (turned_q sc) (turned_q sd) V v g
theorem times_m {m n : M2} {D E : Int} {h k : Nat} (x : MB m D h) (y : MB n E k) (hh : h ≤ 50000000) (hk : k ≤ 50000000) (V : World) (v1 v2 : Value) (g1 : MatAt8 V v1 (I8.of m)) (g2 : MatAt8 V v2 (I8.of n)) :
    Calls Tryz.prog 63 #[v1, v2] V (Ret8 V (I8.of (m.mul n))) := by
  obtain ⟨⟨x1, x2⟩, x3, x4⟩ := x.sz
  obtain ⟨⟨y1, y2⟩, y3, y4⟩ := y.sz
  have x1 := x1.mono hh
  have x2 := x2.mono hh
  have x3 := x3.mono hh
  have x4 := x4.mono hh
  have y1 := y1.mono hk
  have y2 := y2.mono hk
  have y3 := y3.mono hk
  have y4 := y4.mono hk
  exact mtimes_w (pair_q x1 y1 x2 y3) (pair_q x1 y2 x2 y4) (pair_q x3 y1 x4 y3) (pair_q x3 y2 x4 y4) V v1 v2 g1 g2
theorem of_q (x : ERaw) (w : World) (hi : x.In w) (hm : x.may = true) (V : World) (hV : Below w.heap.size w V) : Calls Tryz.prog 53 #[x.val] V (Ret8 V (I8.of x.el.mat)) := by
  obtain ⟨k, ⟨n1, A, c, xs, n2, B, e, ys⟩, ⟨n3, A2, c2, us, n4, B2, e2, vs⟩⟩ := x
  obtain ⟨⟨r1, r2⟩, r3, r4⟩ := hi
  dsimp only at r1 r2 r3 r4
  unfold ERaw.may at hm
  simp only [Bool.and_eq_true] at hm
  obtain ⟨⟨h1, h2⟩, h3⟩ := hm
  obtain ⟨n, d, F1, rfl, rfl, rfl, rfl⟩ := fine_of (n1 := n1) (n2 := n2) r1.limbs r2.limbs (by simpa [FRaw.may] using h1)
  obtain ⟨m, f, F2, rfl, rfl, rfl, rfl⟩ := fine_of (n1 := n3) (n2 := n4) r3.limbs r4.limbs (by simpa [FRaw.may] using h2)
  have r1 := r1.below hV
  have r2 := r2.below hV
  have r3 := r3.below hV
  have r4 := r4.below hV
  unfold FRaw.num at h3
  dsimp only at h3
  rw [ival_at, ival_at] at h3
  unfold ERaw.val ERaw.el FRaw.rat FRaw.num FRaw.den
  dsimp only
  rw [ival_at, ival_at, ival_at, ival_at]
  have i1 := fine_is F1
  have i2 := fine_is F2
  obtain ⟨p, hp⟩ : ∃ q : Rat, q = Rat.divInt n d := ⟨_, rfl⟩
  obtain ⟨q, hq⟩ : ∃ q : Rat, q = Rat.divInt m f := ⟨_, rfl⟩
  rw [← hp] at i1 ⊢
  rw [← hq] at i2 ⊢
  have s1 : Sz p 50000000 := (i1.sz F1.num F1.den).mono (by omega)
  have s2 : Sz q 50000000 := (i2.sz F2.num F2.den).mono (by omega)
  have g1 : FracAt V (.agg #[.bool (decide (n < 0)), .slice A (natL n.natAbs).length c, .bool (decide (d < 0)), .slice B (natL d.natAbs).length e]) n d := ⟨_, _, _, _, rfl, r1, r2⟩
  have g2 : FracAt V (.agg #[.bool (decide (m < 0)), .slice A2 (natL m.natAbs).length c2, .bool (decide (f < 0)), .slice B2 (natL f.natAbs).length e2]) m f := ⟨_, _, _, _, rfl, r3, r4⟩
  have l1 : lz n ≤ 400000000 := Nat.le_trans F1.num (by omega)
  have l2 : lz d ≤ 400000000 := Nat.le_trans F1.den (by omega)
  have c1 : OpI1 82 n d (0 - p).num (0 - p).den := by
    have := turned_q s1
    rwa [i1.num, i1.den] at this
  unfold El.mat
  dsimp only
  split at h3
  · have C := rowof_space one_m (copy_q l1 l2) V g1 g2
    show Calls _ _ _ _ (RetMatIn V 1 1 p.num p.den 0 1 1 1)
    rw [i1.num, i1.den]
    exact C
  · exact rowof_lens one_m c1 V g1 g2
  · have h0 : q ≠ 0 := fun e => by
      have h9 := i2.nought.2 e
      simp only [Bool.and_eq_true, decide_eq_true_eq] at h3
      omega
    exact rowof_slab one_m (over_r i1 i2 (Is.of (p / q)) (s1.mono (by omega)) (s2.mono (by omega)) h0).i V g1 g2
  · exact rowof_surface one_m (times_r i1 i2 (Is.of (p * q)) (s1.mono (by omega)) (s2.mono (by omega))).i (turned_q (((sz_mul (i1.sz F1.num F1.den) (i2.sz F2.num F2.den))).mono (by omega))) V g1 g2
  · exact rowof_flip one_m (fun V v g => turned_m (m := M2.one) (sz_one.mono (by omega)) (sz_zero.mono (by omega)) (sz_zero.mono (by omega)) (sz_one.mono (by omega)) V v g) V g1 g2
  · exact absurd h3 (by decide)
def sumL (l : List ERaw) : Nat := (l.map fun x => x.lens + 2).sum
theorem sumL_take : ∀ (l : List ERaw) (i : Nat), sumL (l.take i) ≤ sumL l
  | [], i => by simp [sumL]
  | x :: l, 0 => by simp [sumL]
  | x :: l, i + 1 => by
    have := sumL_take l i
    unfold sumL at this ⊢
    rw [List.take_succ_cons, List.map_cons, List.map_cons, List.sum_cons, List.sum_cons]
    omega
theorem lens_le : ∀ (l : List ERaw) (x : ERaw), x ∈ l → x.lens + 2 ≤ sumL l
  | y :: l, x, h => by
    unfold sumL
    rw [List.map_cons, List.sum_cons]
    rcases List.mem_cons.1 h with rfl | h
    · omega
    · have := lens_le l x h
      unfold sumL at this
      omega
theorem goneM_next (l : List El) (i : Nat) (hi : i < l.length) (m : M2) : goneM m (l.take (i + 1)) = l[i].mat.mul (goneM m (l.take i)) := by
  rw [List.take_succ_eq_append_getElem hi, goneM_app]
  rfl
theorem matrix_q (l : List ERaw) (A : Option Addr) (c : Nat) (w : World) (hl : l.length ≤ 9223372036854775807) (hb : BenchIn w w.heap.size A l) (hm : ∀ x ∈ l, x.may = true) (hs : sumL l ≤ 2000000) :
    Calls Tryz.prog 29 #[.slice A l.length c] w (Ret8 w (I8.of (benchM (l.map ERaw.el)))) := by
  have C := row_Matrix l (fun i => I8.of (goneM M2.one ((l.map ERaw.el).take i))) (fun i => I8.of ((l.map ERaw.el).getD i ⟨0, 0, 0⟩).mat) A c hl w hb.row one_m (fun i hi V hV => by
    have e : (l.map ERaw.el).getD i ⟨0, 0, 0⟩ = l[i].el := by
      rw [List.getD_eq_getElem?_getD, List.getElem?_map, List.getElem?_eq_getElem hi]
      rfl
    rw [e]
    exact of_q l[i] w (hb.els _ (List.getElem_mem hi)) (hm _ (List.getElem_mem hi)) V hV) (fun i hi V v1 v2 g1 g2 => by
    have hi2 : i < (l.map ERaw.el).length := by rw [List.length_map]; exact hi
    have e : (l.map ERaw.el).getD i ⟨0, 0, 0⟩ = l[i].el := by
      rw [List.getD_eq_getElem?_getD, List.getElem?_map, List.getElem?_eq_getElem hi]
      rfl
    rw [e] at g1
    have e2 := goneM_next (l.map ERaw.el) i hi2 M2.one
    rw [List.getElem_map] at e2
    rw [e2]
    obtain ⟨D, hD⟩ := ERaw.bound (hb.els _ (List.getElem_mem hi)) (hm _ (List.getElem_mem hi))
    obtain ⟨E, hE⟩ := bench_bound (l := l.take i) (w := w) (fun x hx => hb.els x (List.mem_of_mem_take hx)) (fun x hx => hm x (List.mem_of_mem_take hx))
    unfold benchM at hE
    rw [List.map_take] at hE
    have h1 := lens_le l l[i] (List.getElem_mem hi)
    have h2 := sumL_take l i
    unfold sumL at h1 h2 hs
    exact times_m hD hE (by omega) (by omega) V v1 v2 g1 g2)
  have e : (l.map ERaw.el).take l.length = l.map ERaw.el := by
    rw [List.take_of_length_le (by rw [List.length_map]; exact Nat.le_refl _)]
  rw [e] at C
  exact C
theorem check_q (l : List ERaw) (A : Option Addr) (c : Nat) (w : World) (hl : l.length ≤ 9223372036854775807) (hb : BenchIn w w.heap.size A l) :
    Calls Tryz.prog 28 #[.slice A l.length c] w fun e w' => e = .returned (.int .i64 (chkB l ERaw.may)) ∧ Below w.heap.size w w' :=
  bench_Check l ERaw.may A c hl w hb.row fun x hx V hV => bench_may x V ((hb.els x hx).below hV)
theorem BenchIn.to {w w' : World} {A : Option Addr} {l : List ERaw} (h : BenchIn w w.heap.size A l) (hb : Below w.heap.size w w') : BenchIn w' w'.heap.size A l := ⟨(h.row.below hb).more hb.size, Nat.le_refl _, fun x hx => (h.els x hx).below hb⟩
abbrev numsM (m : M2) : List (Int × Int) := [(m.a.num, m.a.den), (m.b.num, m.b.den), (m.c.num, m.c.den), (m.d.num, m.d.den)]
def RetM2 (w : World) (m : M2) (k : Int) (e : Ending) (w' : World) : Prop := RetMatIn2 w m.a.num m.a.den m.b.num m.b.den m.c.num m.c.den m.d.num m.d.den k e w'
theorem bmat_bad (l : List ERaw) (A : Option Addr) (c : Nat) (w : World) (hl : l.length ≤ 9223372036854775807) (hb : BenchIn w w.heap.size A l) {k : Int} (hk : chkB l ERaw.may = k) (h0 : k ≠ 0) : Calls Tryz.prog 11 #[.slice A l.length c] w (RetMatIn2 w 0 0 0 0 0 0 0 0 k) :=
  bmatrix_bad l A c k h0 w fun V hV => hk ▸ check_q l A c V hl (hb.to hV)
theorem chkB_may {l : List ERaw} (hk : chkB l ERaw.may = 0) : ∀ x ∈ l, x.may = true := by
  unfold chkB at hk
  split at hk
  · cases hk
  · split at hk
    · rename_i h
      exact List.all_eq_true.1 h
    · cases hk
theorem bmat_ok (l : List ERaw) (A : Option Addr) (c : Nat) (w : World) (hl : l.length ≤ 9223372036854775807) (hb : BenchIn w w.heap.size A l) (hk : chkB l ERaw.may = 0) (hs : sumL l ≤ 2000000) (h0 : longZ (numsM (benchM (l.map ERaw.el))) = false) :
    Calls Tryz.prog 11 #[.slice A l.length c] w (RetM2 w (benchM (l.map ERaw.el)) 0) :=
  bmatrix_false l A c h0 w (fun V hV => hk ▸ check_q l A c V hl (hb.to hV)) fun V hV => matrix_q l A c V hl (hb.to hV) (chkB_may hk) hs
theorem bmat_long (l : List ERaw) (A : Option Addr) (c : Nat) (w : World) (hl : l.length ≤ 9223372036854775807) (hb : BenchIn w w.heap.size A l) (hk : chkB l ERaw.may = 0) (hs : sumL l ≤ 2000000) (h0 : longZ (numsM (benchM (l.map ERaw.el))) = true) :
    Calls Tryz.prog 11 #[.slice A l.length c] w (RetMatIn2 w 0 0 0 0 0 0 0 0 4) :=
  bmatrix_true l A c h0 w (fun V hV => hk ▸ check_q l A c V hl (hb.to hV)) fun V hV => matrix_q l A c V hl (hb.to hV) (chkB_may hk) hs
/- Small functions of the laws. (Written by wip/top/gentops.py.) -/

theorem sameRay_true {n d m f : Int}  (w : World) (v_x v_y : Value) (g_x : GaussAt w v_x n d m f) (g_y : GaussAt w v_y n d m f)  :
    Calls Tryz.prog 16 #[v_x, v_y] w fun e w' => e = .returned (.bool true) ∧ Below w.heap.size w w' := by
  obtain ⟨Ax1, cx1, Ax2, cx2, Ax3, cx3, Ax4, cx4, rfl, -⟩ := g_x.form
  obtain ⟨Ay1, cy1, Ay2, cy2, Ay3, cy3, Ay4, cy4, rfl, -⟩ := g_y.form
  have G_x := Hd g_x
  have G_y := Hd g_y
  clear g_x g_y
  go_enter Tryz.func16, Tryz.ntmps16
  go_upto_region 1 with fail
  refine boxes2 (P := fun W => Code.wp _ _ _ _ W) fun W p0 p1 b0 => ?_
  have P_x := Hd (Oct.mk p0)
  have P_y := Hd (Oct.mk p1)
  have HB := Hd b0
  clear b0 p0 p1
  obtain ⟨-, a_x0, a_x1, a_x2, a_x3, a_x4, a_x5, a_x6, a_x7⟩ := P_x.out.facts
  obtain ⟨-, a_y0, a_y1, a_y2, a_y3, a_y4, a_y5, a_y6, a_y7⟩ := P_y.out.facts
  go_wp2_with fail
  refine (sameFrac_true _ _ n d W (G_x.out.below HB.out).re (G_y.out.below HB.out).re).mono ?_
  rintro e wx1 ⟨rfl, hb⟩
  clear a_x0 a_x1 a_x2 a_x3 a_x4 a_x5 a_x6 a_x7 a_y0 a_y1 a_y2 a_y3 a_y4 a_y5 a_y6 a_y7
  have P_x := Hd (P_x.out.below hb)
  have P_y := Hd (P_y.out.below hb)
  have HB := Hd (belowTo HB.out hb)
  clear hb
  obtain ⟨-, a_x0, a_x1, a_x2, a_x3, a_x4, a_x5, a_x6, a_x7⟩ := P_x.out.facts
  obtain ⟨-, a_y0, a_y1, a_y2, a_y3, a_y4, a_y5, a_y6, a_y7⟩ := P_y.out.facts
  go_wp2_with fail
  refine (sameFrac_true _ _ m f wx1 (G_x.out.below HB.out).im (G_y.out.below HB.out).im).mono ?_
  rintro e wx2 ⟨rfl, hb⟩
  clear a_x0 a_x1 a_x2 a_x3 a_x4 a_x5 a_x6 a_x7 a_y0 a_y1 a_y2 a_y3 a_y4 a_y5 a_y6 a_y7
  have P_x := Hd (P_x.out.below hb)
  have P_y := Hd (P_y.out.below hb)
  have HB := Hd (belowTo HB.out hb)
  clear hb
  go_wp2_with fail
  go_ret
  exact ⟨rfl, HB.out⟩

theorem good_no1 {n1 n2 n3 n4 : Bool} {xs ys us vs : List Nat} {k1 : Int}  (h1 : chkE n1 n2 xs ys = k1) (h0 : k1 ≠ 0) (w : World) (v_r : Value) (g_r : GaussRaw w v_r n1 n2 n3 n4 xs ys us vs)  :
    Calls Tryz.prog 14 #[v_r] w fun e w' => e = .returned (.bool false) ∧ Below w.heap.size w w' := by
  obtain ⟨Ar1, cr1, Ar2, cr2, Ar3, cr3, Ar4, cr4, rfl, -⟩ := g_r.form
  have C1 := fun (V : World) (A B : Option Addr) (c e0 : Nat) (h : Raw V A c xs) (g : Raw V B e0 ys) => frac_Check n1 n2 A B c e0 xs ys V h g
  rw [h1] at C1
  have H1 := Hd C1
  clear C1 h1
  have h9 : (k1 == 0) = false := beq_eq_false_iff_ne.2 h0
  have G_r := Hd g_r
  clear g_r
  go_enter Tryz.func14, Tryz.ntmps14
  go_upto_region 1 with fail
  refine boxes1 (P := fun W => Code.wp _ _ _ _ W) fun W p0 b0 => ?_
  have P_r := Hd (Oct.mk p0)
  have HB := Hd b0
  clear b0 p0
  obtain ⟨-, a_r0, a_r1, a_r2, a_r3, a_r4, a_r5, a_r6, a_r7⟩ := P_r.out.facts
  go_wp2_with fail
  refine (H1.out W _ _ _ _ (G_r.out.below HB.out).raws.1 (G_r.out.below HB.out).raws.2.1).mono ?_
  rintro e wx1 ⟨rfl, hb⟩
  clear a_r0 a_r1 a_r2 a_r3 a_r4 a_r5 a_r6 a_r7
  have P_r := Hd (P_r.out.below hb)
  have HB := Hd (belowTo HB.out hb)
  clear hb
  go_wp2_with fail
  go_ret
  exact ⟨rfl, HB.out⟩

theorem good_no2 {n1 n2 n3 n4 : Bool} {xs ys us vs : List Nat} {k1 : Int}  (h1 : chkE n1 n2 xs ys = 0) (h2 : chkE n3 n4 us vs = k1) (h0 : k1 ≠ 0) (w : World) (v_r : Value) (g_r : GaussRaw w v_r n1 n2 n3 n4 xs ys us vs)  :
    Calls Tryz.prog 14 #[v_r] w fun e w' => e = .returned (.bool false) ∧ Below w.heap.size w w' := by
  obtain ⟨Ar1, cr1, Ar2, cr2, Ar3, cr3, Ar4, cr4, rfl, -⟩ := g_r.form
  have C1 := fun (V : World) (A B : Option Addr) (c e0 : Nat) (h : Raw V A c xs) (g : Raw V B e0 ys) => frac_Check n1 n2 A B c e0 xs ys V h g
  rw [h1] at C1
  have H1 := Hd C1
  clear C1 h1
  have C2 := fun (V : World) (A B : Option Addr) (c e0 : Nat) (h : Raw V A c us) (g : Raw V B e0 vs) => frac_Check n3 n4 A B c e0 us vs V h g
  rw [h2] at C2
  have H2 := Hd C2
  clear C2 h2
  have h9 : (k1 == 0) = false := beq_eq_false_iff_ne.2 h0
  have G_r := Hd g_r
  clear g_r
  go_enter Tryz.func14, Tryz.ntmps14
  go_upto_region 1 with fail
  refine boxes1 (P := fun W => Code.wp _ _ _ _ W) fun W p0 b0 => ?_
  have P_r := Hd (Oct.mk p0)
  have HB := Hd b0
  clear b0 p0
  obtain ⟨-, a_r0, a_r1, a_r2, a_r3, a_r4, a_r5, a_r6, a_r7⟩ := P_r.out.facts
  go_wp2_with fail
  refine (H1.out W _ _ _ _ (G_r.out.below HB.out).raws.1 (G_r.out.below HB.out).raws.2.1).mono ?_
  rintro e wx1 ⟨rfl, hb⟩
  clear a_r0 a_r1 a_r2 a_r3 a_r4 a_r5 a_r6 a_r7
  have P_r := Hd (P_r.out.below hb)
  have HB := Hd (belowTo HB.out hb)
  clear hb
  obtain ⟨-, a_r0, a_r1, a_r2, a_r3, a_r4, a_r5, a_r6, a_r7⟩ := P_r.out.facts
  go_wp2_with fail
  refine (H2.out wx1 _ _ _ _ (G_r.out.below HB.out).raws.2.2.1 (G_r.out.below HB.out).raws.2.2.2).mono ?_
  rintro e wx2 ⟨rfl, hb⟩
  clear a_r0 a_r1 a_r2 a_r3 a_r4 a_r5 a_r6 a_r7
  have P_r := Hd (P_r.out.below hb)
  have HB := Hd (belowTo HB.out hb)
  clear hb
  go_wp2_with fail
  go_ret
  exact ⟨rfl, HB.out⟩

theorem good_yes {n1 n2 n3 n4 : Bool} {xs ys us vs : List Nat}  (h1 : chkE n1 n2 xs ys = 0) (h2 : chkE n3 n4 us vs = 0) (w : World) (v_r : Value) (g_r : GaussRaw w v_r n1 n2 n3 n4 xs ys us vs)  :
    Calls Tryz.prog 14 #[v_r] w fun e w' => e = .returned (.bool true) ∧ Below w.heap.size w w' := by
  obtain ⟨Ar1, cr1, Ar2, cr2, Ar3, cr3, Ar4, cr4, rfl, -⟩ := g_r.form
  have C1 := fun (V : World) (A B : Option Addr) (c e0 : Nat) (h : Raw V A c xs) (g : Raw V B e0 ys) => frac_Check n1 n2 A B c e0 xs ys V h g
  rw [h1] at C1
  have H1 := Hd C1
  clear C1 h1
  have C2 := fun (V : World) (A B : Option Addr) (c e0 : Nat) (h : Raw V A c us) (g : Raw V B e0 vs) => frac_Check n3 n4 A B c e0 us vs V h g
  rw [h2] at C2
  have H2 := Hd C2
  clear C2 h2
  have G_r := Hd g_r
  clear g_r
  go_enter Tryz.func14, Tryz.ntmps14
  go_upto_region 1 with fail
  refine boxes1 (P := fun W => Code.wp _ _ _ _ W) fun W p0 b0 => ?_
  have P_r := Hd (Oct.mk p0)
  have HB := Hd b0
  clear b0 p0
  obtain ⟨-, a_r0, a_r1, a_r2, a_r3, a_r4, a_r5, a_r6, a_r7⟩ := P_r.out.facts
  go_wp2_with fail
  refine (H1.out W _ _ _ _ (G_r.out.below HB.out).raws.1 (G_r.out.below HB.out).raws.2.1).mono ?_
  rintro e wx1 ⟨rfl, hb⟩
  clear a_r0 a_r1 a_r2 a_r3 a_r4 a_r5 a_r6 a_r7
  have P_r := Hd (P_r.out.below hb)
  have HB := Hd (belowTo HB.out hb)
  clear hb
  obtain ⟨-, a_r0, a_r1, a_r2, a_r3, a_r4, a_r5, a_r6, a_r7⟩ := P_r.out.facts
  go_wp2_with fail
  refine (H2.out wx1 _ _ _ _ (G_r.out.below HB.out).raws.2.2.1 (G_r.out.below HB.out).raws.2.2.2).mono ?_
  rintro e wx2 ⟨rfl, hb⟩
  clear a_r0 a_r1 a_r2 a_r3 a_r4 a_r5 a_r6 a_r7
  have P_r := Hd (P_r.out.below hb)
  have HB := Hd (belowTo HB.out hb)
  clear hb
  go_wp2_with fail
  go_ret
  exact ⟨rfl, HB.out⟩

theorem of_w {n d N D k : Int} (C1 : ∀ V : World, Calls Tryz.prog 59 #[.int .i64 n, .int .i64 d] V (RetFracOwn2 V.heap.size V N D k)) (w : World) :
    Calls Tryz.prog 26 #[.int .i64 n, .int .i64 d] w (RetFracIn w N D) := by
  have H1 := Hd C1
  clear C1
  go_enter Tryz.func26, Tryz.ntmps26
  go_upto_region 1 with fail
  refine boxes1 (P := fun W => Code.wp _ _ _ _ W) fun W p0 b0 => ?_
  have PR := Hd (Quad.mk p0)
  have HB := Hd b0
  clear p0 b0
  go_wp2_with fail
  refine (H1.out W).mono ?_
  rintro e w1 ⟨v, rfl, hv, hb⟩
  have hv := hv.in_
  have PR := Hd (PR.out.below hb)
  have HB := Hd (belowTo HB.out hb)
  obtain ⟨A, c, B, e, rfl, -⟩ := hv.form
  have pz := PR.out.blk.lt
  clear hb
  go_upto_region 2 with (refine wpList_store_N rfl 27 _ _ (by rfl) (by rfl) _ _ _ 4 (by rfl) (by rfl) (Blk.new w1 _ _) rfl hv.cells fracInfo4 ?_; intro w3 hput)
  have hb := hput.below ((Below.refl w1.heap.size w1).alloc (Nat.le_refl _) _) (Nat.le_refl _)
  have hq := hput.blk
  simp [Value.cells] at hq
  have PX := Hd (Quad.mk hq)
  have PR := Hd (PR.out.below hb)
  have HV := Hd (hv.below hb)
  have HB := Hd (belowTo HB.out hb)
  obtain ⟨-, x0, x1, x2, x3, -, -, -, -⟩ := PX.out.facts
  clear hput hb hq hv pz
  go_wp2_with (refine wpList_store_N rfl 27 _ _ (by rfl) (by rfl) _ _ _ 4 (by rfl) (by rfl) PR.out.blk rfl HV.out.cells fracInfo4 ?_; intro w9 hput)
  have HF := Hd (HV.out.kept (hput.kept _ (Nat.le_refl _)) (by decide))
  have HB9 := Hd (hput.below HB.out (Nat.le_refl _))
  have k9 := hput.blk
  simp [Value.cells] at k9
  exact bodyPost_ret (results_cell_row rfl _ _ w.heap.size _ _ _ _ (by rfl) k9 Tryz.underlying27 rfl fracInfo4) rfl ⟨_, rfl, HF.out, HB9.out⟩

theorem text_w {n d : Int} {t : ByteArray} {k : Int} (C1 : ∀ (V : World) (v : Value), FracAt V v n d → powTab V → Calls Tryz.prog 60 #[v] V fun e w' => e = .returned (.tuple #[.string t, .int .i64 k]) ∧ Below V.heap.size V w') (w : World) (htab : powTab w) (v_x : Value) (g_x : FracAt w v_x n d)  :
    Calls Tryz.prog 27 #[v_x] w fun e w' => e = .returned (.string t) ∧ Below w.heap.size w w' := by
  obtain ⟨Ax1, cx1, Ax2, cx2, rfl, -⟩ := g_x.form
  have H1 := Hd C1
  have HT := Hd htab
  clear C1 htab
  have G_x := Hd g_x
  clear g_x
  go_enter Tryz.func27, Tryz.ntmps27
  go_upto_region 1 with fail
  refine boxes1 (P := fun W => Code.wp _ _ _ _ W) fun W p0 b0 => ?_
  have P_x := Hd (Quad.mk p0)
  have HB := Hd b0
  clear b0 p0
  obtain ⟨-, a_x0, a_x1, a_x2, a_x3, -, -, -, -⟩ := P_x.out.facts
  go_wp2_with fail
  refine (H1.out W _ (G_x.out.below HB.out) (powTab.below2 HT.out HB.out)).mono ?_
  rintro e wx1 ⟨rfl, hb⟩
  clear a_x0 a_x1 a_x2 a_x3
  have P_x := Hd (P_x.out.below hb)
  have HB := Hd (belowTo HB.out hb)
  clear hb
  go_wp2_with fail
  go_ret
  exact ⟨rfl, HB.out⟩

/- Contracts of package ray over rationals. (Written by wip/top/gentopr.py.) -/

abbrev FineQ (q : Rat) : Prop := Fine q.num q.den
structure FineM (m : M2) : Prop where
  a : FineQ m.a
  b : FineQ m.b
  c : FineQ m.c
  d : FineQ m.d
  det : m.det = 1
structure FineR (r : Rat × Rat) : Prop where
  y : FineQ r.1
  u : FineQ r.2
theorem FineQ.sz {q : Rat} (h : FineQ q) : Sz q 2048 := ⟨h.num, h.den⟩
theorem FineQ.s5 {q : Rat} (h : FineQ q) : Sz q 50000000 := (FineQ.sz h).mono (by omega)
theorem FineQ.of {q : Rat} (h1 : lz q.num ≤ 2048) (h2 : lz (q.den : Int) ≤ 2048) : FineQ q := (Is.of q).fine h1 h2
theorem chk_q {m : M2} (F : FineM m) : ChkM m.a.num m.a.den m.b.num m.b.den m.c.num m.c.den m.d.num m.d.den := fun V v g => by
  have C1 : PairI 42 m.a.num m.a.den m.b.num m.b.den m.c.num m.c.den m.d.num m.d.den 1 1 := by
    have := rdet_q (FineQ.s5 F.a) (FineQ.s5 F.b) (FineQ.s5 F.c) (FineQ.s5 F.d)
    rw [show m.a * m.d - m.b * m.c = 1 from F.det] at this
    exact this
  refine rcheck_w F.a F.b F.c F.d C1 one_q (fun V v1 v2 g1 g2 => ?_) V v g
  obtain ⟨A, c, B, e0, rfl, a1, a2⟩ := g1.form
  obtain ⟨A2, c2, B2, e2, rfl, a3, a4⟩ := g2.form
  exact ratio_Cmp 1 1 1 1 0 A B A2 B2 c e0 c2 e2 V a1 a2 a3 a4 (by decide) (by decide) (by decide) (by decide) (by decide)
abbrev MAt (w : World) (v : Value) (m : M2) : Prop := MatAt w v m.a.num m.a.den m.b.num m.b.den m.c.num m.c.den m.d.num m.d.den
abbrev MIn (w : World) (v : Value) (m : M2) : Prop := MatIn w v m.a.num m.a.den m.b.num m.b.den m.c.num m.c.den m.d.num m.d.den
abbrev RAt (w : World) (v : Value) (r : Rat × Rat) : Prop := GaussAt w v r.1.num r.1.den r.2.num r.2.den
abbrev RIn (w : World) (v : Value) (r : Rat × Rat) : Prop := GaussIn w v r.1.num r.1.den r.2.num r.2.den
abbrev numsR (r : Rat × Rat) : List (Int × Int) := [(r.1.num, r.1.den), (r.2.num, r.2.den)]
def RetR2 (w : World) (r : Rat × Rat) (k : Int) (e : Ending) (w' : World) : Prop := RetGaussIn2 w r.1.num r.1.den r.2.num r.2.den k e w'
def RetF2 (w : World) (q : Rat) (k : Int) (e : Ending) (w' : World) : Prop := RetFracK w w.heap.size q.num q.den k e w'
def zeroM : M2 := ⟨0, 0, 0, 0⟩

theorem through_ok {m : M2} {r : Rat × Rat} (F : FineM m) (G : FineR r) (hl : longZ (numsR (rayM m r)) = false) (w : World) (v1 v2 : Value) (g1 : MAt w v1 m) (g2 : RAt w v2 r) :
    Calls Tryz.prog 15 #[v1, v2] w (RetR2 w (rayM m r) 0) :=
  rthrough_false hl (chk_q F) G.y G.u (fun V _ _ _ _ _ _ _ _ _ _ _ _ _ _ _ _ _ _ _ _ _ _ _ _ _ _ h1 h2 h3 h4 => rthrough_c
    (rpair_q (FineQ.s5 F.a) (FineQ.s5 G.y) (FineQ.s5 F.b) (FineQ.s5 G.u)) (rpair_q (FineQ.s5 F.c) (FineQ.s5 G.y) (FineQ.s5 F.d) (FineQ.s5 G.u)) V h1 h2 h3 h4) w v1 g1 v2 g2
theorem through_long {m : M2} {r : Rat × Rat} (F : FineM m) (G : FineR r) (hl : longZ (numsR (rayM m r)) = true) (w : World) (v1 v2 : Value) (g1 : MAt w v1 m) (g2 : RAt w v2 r) :
    Calls Tryz.prog 15 #[v1, v2] w (RetGaussIn2 w 0 0 0 0 4) :=
  rthrough_true hl (chk_q F) G.y G.u (fun V _ _ _ _ _ _ _ _ _ _ _ _ _ _ _ _ _ _ _ _ _ _ _ _ _ _ h1 h2 h3 h4 => rthrough_c
    (rpair_q (FineQ.s5 F.a) (FineQ.s5 G.y) (FineQ.s5 F.b) (FineQ.s5 G.u)) (rpair_q (FineQ.s5 F.c) (FineQ.s5 G.y) (FineQ.s5 F.d) (FineQ.s5 G.u)) V h1 h2 h3 h4) w v1 g1 v2 g2
theorem long_fine {zs : List (Int × Int)} (h : longZ zs = false) : ∀ z ∈ zs, lz z.1 ≤ 2048 ∧ lz z.2 ≤ 2048 := fun z hz => by
  unfold longZ at h
  have h1 := List.any_eq_false.1 h z hz
  simp only [Bool.or_eq_true, decide_eq_true_eq, not_or] at h1
  omega
theorem fine_long {zs : List (Int × Int)} (h : ∀ z ∈ zs, lz z.1 ≤ 2048 ∧ lz z.2 ≤ 2048) : longZ zs = false := by
  unfold longZ
  refine List.any_eq_false.2 fun z hz => ?_
  have := h z hz
  simp only [Bool.or_eq_true, decide_eq_true_eq, not_or]
  omega
theorem fineM_of {m : M2} (h : longZ (numsM m) = false) (hd : m.det = 1) : FineM m := by
  have h1 := long_fine h
  have a := h1 (m.a.num, (m.a.den : Int)) (by simp)
  have b := h1 (m.b.num, (m.b.den : Int)) (by simp)
  have c := h1 (m.c.num, (m.c.den : Int)) (by simp)
  have d := h1 (m.d.num, (m.d.den : Int)) (by simp)
  exact ⟨FineQ.of a.1 a.2, FineQ.of b.1 b.2, FineQ.of c.1 c.2, FineQ.of d.1 d.2, hd⟩
theorem fineR_of {r : Rat × Rat} (h : longZ (numsR r) = false) : FineR r := by
  have h1 := long_fine h
  have a := h1 (r.1.num, (r.1.den : Int)) (by simp)
  have b := h1 (r.2.num, (r.2.den : Int)) (by simp)
  exact ⟨FineQ.of a.1 a.2, FineQ.of b.1 b.2⟩
theorem FineM.long {m : M2} (F : FineM m) : longZ (numsM m) = false := fine_long fun z hz => by
  simp only [List.mem_cons, List.not_mem_nil, or_false] at hz
  rcases hz with rfl | rfl | rfl | rfl
  · exact ⟨F.a.num, F.a.den⟩
  · exact ⟨F.b.num, F.b.den⟩
  · exact ⟨F.c.num, F.c.den⟩
  · exact ⟨F.d.num, F.d.den⟩
/- An api.Int that came in, opened. -/
open Go.ChangeShapes Go.WideShapes Go.ChangeAt Go.RowKit Go.Joins

theorem cells_api : Tryz.prog.cellsOf 25 = 2 := by kernel_rfl
theorem cells_limb : Tryz.prog.cellsOf 109 = 1 := by kernel_rfl
theorem bytes_limb : Tryz.prog.bytesOf 109 = 4 := by kernel_rfl

theorem lt_of_cell {w : World} {a : Addr} {v : Value} (h : w.cell? a = some v) : a.block < w.heap.size := by
  rcases Nat.lt_or_ge a.block w.heap.size with h' | h'
  · exact h'
  · unfold World.cell? at h; rw [Array.getElem?_eq_none h'] at h; simp at h

/- An api.Frac that came in, opened. -/
open Go.ChangeShapes Go.WideShapes Go.ChangeAt Go.RowKit Go.Joins

theorem cells_frac : Tryz.prog.cellsOf 27 = 4 := by kernel_rfl
theorem cells_bool1 : Tryz.prog.cellsOf 4 = 1 := by kernel_rfl
theorem cells_limbs1 : Tryz.prog.cellsOf 23 = 1 := by kernel_rfl
theorem open_int_cells {H : Type} {enc : TypeId × Value → H} {w : World} {held : Bool} {m : Nat} {v0 v1 : Value} {y : DataW H × List MemPlace}
    (h : DataW.trod enc Tryz.prog w 0 (fun _ => true) held m 25 [v0, v1] = some y) :
    ∃ (neg : Bool) (A : Option Addr) (c : Nat) (xs : List Nat), [v0, v1] = [.bool neg, .slice A xs.length c] ∧ Raw w A c xs ∧ ((DataW.weights Tryz.prog 25 y.1).all (· ≤ reachBytes) = true → xs.length ≤ 1152921504606846975) := by
  obtain ⟨y0, y1, n, rfl, -, h0, h1⟩ := trod_struct2 Tryz.underlying25 h
  simp only [cells_bool1, cells_limbs1, List.drop_zero, List.drop_succ_cons, List.take_succ_cons, List.take_zero] at h0 h1
  obtain ⟨neg, e0, rfl⟩ := DataW.trod_bool Tryz.underlying4 h0
  simp at e0
  subst e0
  rcases open_ints Tryz.underlying23 Tryz.underlying109 cells_limb h1 with ⟨e1, rfl⟩ | ⟨a, len, cap, zs, e1, -, hl, hm, hz, rfl, hc, hw⟩
  · simp at e1
    subst e1
    exact ⟨neg, none, 0, [], rfl, ⟨by intro x hx; simp at hx, by simp, by omega, Reads.none_⟩, fun _ => by simp⟩
  · simp at e1
    subst e1
    simp at hz
    have hb : ∀ i (hi : i < zs.length), 0 ≤ zs[i] ∧ zs[i] ≤ 4294967295 := fun i hi => bounds_u32 (hw _ (List.getElem_mem hi))
    have hlen : ((zs.take len).map Int.toNat).length = len := by simp; omega
    refine ⟨neg, some a, cap, (zs.take len).map Int.toNat, by rw [hlen], ⟨?_, by rw [hlen]; exact hl, by unfold maxLen at hm; omega, ?_⟩, ?_⟩
    · intro x hx
      simp only [List.mem_map] at hx
      obtain ⟨z, hz', rfl⟩ := hx
      obtain ⟨i, hi, rfl⟩ := List.mem_iff_getElem.1 (List.mem_of_mem_take hz')
      have := hb i hi
      omega
    · refine ⟨by rw [cellsU_length, Nat.mul_one], fun h0 => ⟨a, rfl, ?_, fun j u hu => ?_⟩⟩
      · rw [hlen] at h0
        have := lt_of_cell (hc 0 (by omega))
        rwa [block_of_add] at this
      · have hj : j < ((zs.take len).map Int.toNat).length := by
          have := (List.getElem?_eq_some_iff.1 hu).1
          rwa [cellsU_length] at this
        rw [cellsU_get hj] at hu
        rw [hlen] at hj
        have hj2 : j < zs.length := by omega
        have hbj := hb j hj2
        rw [← hu, hc j hj2]
        simp [hj2]
        omega
    · intro hs
      rw [hlen]
      simp only [DataW.weights, Tryz.underlying25, DataW.weightsEach, Tryz.underlying23, List.all_append, List.all_cons, Bool.and_eq_true, bytes_limb, lits, List.length_map, List.length_take, List.length_drop, reachBytes, List.map_cons, List.map_nil] at hs
      have h4 := of_decide_eq_true hs.2.1.1
      omega
end Go.Proofs.YtmcnmoljliggfaaGreatDoor
