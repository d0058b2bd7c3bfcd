/- Several texts in one: GLaw, GBig, OpenInt, OpenFrac. -/
import Derived.Test.YthlehkjcfhnplaaGreatDoorGn31
import Derived.Test.YthlehkjcfhnplaaGreatDoorGn27
import Derived.Test.YthlehkjcfhnplaaGreatDoorGn22
import Derived.Test.YthlehkjcfhnplaaGreatDoorGn14
import Derived.Test.YthlehkjcfhnplaaGreatDoorGn12
import Derived.Test.YthlehkjcfhnplaaGreatDoorGn13
import Derived.Test.YthlehkjcfhnplaaGreatDoorGn07
import Derived.Test.YthlehkjcfhnplaaGreatDoorGn08
import Derived.Test.YthlehkjcfhnplaaGreatDoorGn10
import Derived.Test.YthlehkjcfhnplaaGreatDoorGn03
import Derived.Test.YthlehkjcfhnplaaGreatDoorGn02
import Derived.Test.YthlehkjcfhnplaaGreatDoorGn01
import Derived.Test.YthlehkjcfhnplaaGreatDoorGn09
import Derived.Test.YthlehkjcfhnplaaGreatDoorGn05
import Derived.Test.YthlehkjcfhnplaaGreatDoorGn04
import Derived.Test.YthlehkjcfhnplaaGreatDoorGn06
import Derived.Test.YthlehkjcfhnplaaGreatDoorGn11
import Derived.Test.YthlehkjcfhnplaaGreatDoorGn21
import Derived.Test.YthlehkjcfhnplaaGreatDoorGn20
import Derived.Test.YthlehkjcfhnplaaGreatDoorGn19
import Derived.Test.YthlehkjcfhnplaaGreatDoorGn18
import Derived.Test.YthlehkjcfhnplaaGreatDoorGn16
import Derived.Test.YthlehkjcfhnplaaGreatDoorGn15
import Derived.Test.YthlehkjcfhnplaaGreatDoorGn17
import Derived.Test.YthlehkjcfhnplaaGreatDoorGn24
import Derived.Test.YthlehkjcfhnplaaGreatDoorGn25
import Derived.Test.YthlehkjcfhnplaaGreatDoorGn26
import Derived.Test.YthlehkjcfhnplaaGreatDoorGn23
import Derived.Test.YthlehkjcfhnplaaGreatDoorGn30
import Derived.Test.YthlehkjcfhnplaaGreatDoorGn29
import Derived.Test.YthlehkjcfhnplaaGreatDoorGn28
import Derived.Test.YthlehkjcfhnplaaGreatDoorGn33
import Derived.Test.YthlehkjcfhnplaaGreatDoorGnHd
import Derived.Test.YthlehkjcfhnplaaGreatDoorGn32
import Derived.ChangeSlices
import Derived.ChangeArms
import Derived.SizedLaws
import Derived.Lib.SmallJoins
import Derived.ChangeSame
set_option maxRecDepth 100000
set_option maxHeartbeats 8000000
/- GaussCost, TwinGauss, LeftGauss, SameGauss of the laws; May and Check of the numbers of chapter 03. (Written by wip/gauss/genglaw.py.) -/
namespace Go.Proofs.YthlehkjcfhnplaaGreatDoor
open Go.RowKit

/- GaussSize, big of the laws; Check of gauss and of the references. (Written by wip/gauss/genbig.py.) -/

theorem Reads.row8 {w : World} {B n k : Nat} {A : Option Addr} {xs : List Value} {a b c d e f g h : Value} (r : Reads w B 8 A n xs) (hk : k < n) (h0 : xs[k * 8]? = some a) (h1 : xs[k * 8 + 1]? = some b) (h2 : xs[k * 8 + 2]? = some c) (h3 : xs[k * 8 + 3]? = some d) (h4 : xs[k * 8 + 4]? = some e) (h5 : xs[k * 8 + 5]? = some f) (h6 : xs[k * 8 + 6]? = some g) (h7 : xs[k * 8 + 7]? = some h) :
    ∃ ad : Addr, A = some ad ∧ ad.block < B ∧ w.cell? (ad.add (k * 8)) = some a ∧ w.cell? ⟨(ad.add (k * 8)).block, (ad.add (k * 8)).off + 1, none⟩ = some b ∧ w.cell? ⟨(ad.add (k * 8)).block, (ad.add (k * 8)).off + 2, none⟩ = some c ∧ w.cell? ⟨(ad.add (k * 8)).block, (ad.add (k * 8)).off + 3, none⟩ = some d ∧
      w.cell? ⟨(ad.add (k * 8)).block, (ad.add (k * 8)).off + 4, none⟩ = some e ∧ w.cell? ⟨(ad.add (k * 8)).block, (ad.add (k * 8)).off + 5, none⟩ = some f ∧ w.cell? ⟨(ad.add (k * 8)).block, (ad.add (k * 8)).off + 6, none⟩ = some g ∧ w.cell? ⟨(ad.add (k * 8)).block, (ad.add (k * 8)).off + 7, none⟩ = some h := by
  obtain ⟨ad, e9, hb, hc⟩ := r.2 (by omega)
  refine ⟨ad, e9, hb, hc _ _ h0, ?_, ?_, ?_, ?_, ?_, ?_, ?_⟩
  · rw [← add_more _ _ 1 (by omega)]; exact hc _ _ h1
  · rw [← add_more _ _ 2 (by omega)]; exact hc _ _ h2
  · rw [← add_more _ _ 3 (by omega)]; exact hc _ _ h3
  · rw [← add_more _ _ 4 (by omega)]; exact hc _ _ h4
  · rw [← add_more _ _ 5 (by omega)]; exact hc _ _ h5
  · rw [← add_more _ _ 6 (by omega)]; exact hc _ _ h6
  · rw [← add_more _ _ 7 (by omega)]; exact hc _ _ h7
structure GLoc where
  re : FLoc
  im : FLoc
def GLoc.cells (q : GLoc) : List Value := q.re.cells ++ q.im.cells
def GLoc.size (q : GLoc) : Nat := 1 + q.re.n + (1 + q.re.m) + (1 + q.im.n + (1 + q.im.m))
def cellsGL (l : List GLoc) : List Value := l.flatMap GLoc.cells
theorem cellsGL_get : ∀ (l : List GLoc) (k : Nat) (hk : k < l.length), (cellsGL l)[k * 8]? = some (.bool l[k].re.n1) ∧ (cellsGL l)[k * 8 + 1]? = some (.slice l[k].re.A l[k].re.n l[k].re.c) ∧ (cellsGL l)[k * 8 + 2]? = some (.bool l[k].re.n2) ∧ (cellsGL l)[k * 8 + 3]? = some (.slice l[k].re.B l[k].re.m l[k].re.e) ∧
    (cellsGL l)[k * 8 + 4]? = some (.bool l[k].im.n1) ∧ (cellsGL l)[k * 8 + 5]? = some (.slice l[k].im.A l[k].im.n l[k].im.c) ∧ (cellsGL l)[k * 8 + 6]? = some (.bool l[k].im.n2) ∧ (cellsGL l)[k * 8 + 7]? = some (.slice l[k].im.B l[k].im.m l[k].im.e)
  | [], k, hk => by simp at hk
  | q :: l, 0, _ => by simp [cellsGL, GLoc.cells, FLoc.cells]
  | q :: l, k + 1, hk => by
    have ih := cellsGL_get l k (by simpa using hk)
    simp only [cellsGL, List.flatMap_cons, GLoc.cells, FLoc.cells, show (k + 1) * 8 = k * 8 + 8 by omega]
    simpa [cellsGL, GLoc.cells, FLoc.cells] using ih

theorem gauss_size {n1 n2 n3 n4 : Bool} {xs ys us vs : List Nat} (hl1 : xs.length ≤ 1152921504606846975) (hl2 : ys.length ≤ 1152921504606846975) (hl3 : us.length ≤ 1152921504606846975) (hl4 : vs.length ≤ 1152921504606846975) (w : World) (v_x : Value) (g_x : GaussRaw w v_x n1 n2 n3 n4 xs ys us vs)  :
    Calls Tryz.prog 113 #[v_x] w fun e w' => e = .returned (.int .i64 (1 + xs.length + (1 + ys.length) + (1 + us.length + (1 + vs.length)) : Nat)) ∧ Below w.heap.size w w' := by
  obtain ⟨Ax1, cx1, Ax2, cx2, Ax3, cx3, Ax4, cx4, rfl, -⟩ := g_x.form
  have D1 := fun (V : World) => frac_size n1 n2 Ax1 Ax2 cx1 cx2 xs ys hl1 hl2 V
  have D2 := fun (V : World) => frac_size n3 n4 Ax3 Ax4 cx3 cx4 us vs hl3 hl4 V
  obtain ⟨s1, e1⟩ : ∃ k : Nat, k = 1 + xs.length + (1 + ys.length) := ⟨_, rfl⟩
  obtain ⟨s2, e2⟩ : ∃ k : Nat, k = 1 + us.length + (1 + vs.length) := ⟨_, rfl⟩
  rw [← e1] at D1 ⊢
  rw [← e2] at D2 ⊢
  obtain ⟨s3, e3⟩ : ∃ k : Nat, k = s1 + s2 := ⟨_, rfl⟩
  rw [← e3]
  have HW := Hd (show IntKind.i64.wrap ((s1 : Int) + (s2 : Int)) = (s3 : Int) from by rw [IntKind.wrap_i64]; omega)
  have H1 := Hd D1
  have H2 := Hd D2
  clear D1 D2 e1 e2 e3 hl1 hl2 hl3 hl4
  have G_x := Hd g_x
  clear g_x
  go_enter Tryz.func113, Tryz.ntmps113
  go_upto_region 1 with fail
  refine boxes1 (P := fun W => Code.wp _ _ _ _ W) fun W p0 b0 => ?_
  have P_x := Hd (Oct.mk p0)
  have HB := Hd b0
  clear b0 p0
  go_wp2_with fail
  refine wp_region_free [.val (.pointer (some ⟨w.heap.size, 0, none⟩)) [], .val (.agg #[.bool n1, .slice Ax1 xs.length cx1, .bool n2, .slice Ax2 ys.length cx2]) [], .val (.int .i64 s1) [], .val (.pointer (some ⟨w.heap.size, 4, none⟩)) [], .val (.agg #[.bool n3, .slice Ax3 us.length cx3, .bool n4, .slice Ax4 vs.length cx4]) [], .val (.int .i64 s2) [], .val (.int .i64 s3) [], .val (.int .i64 s3) []] W.heap.size W [] blkFrac _ mixedOrders2 (Nat.le_refl _) (Below.refl _ _) (KeptV.refl _ _ _) rfl (by kernel_rfl) (by kernel_rfl) (by kernel_rfl) (by kernel_rfl) (by kernel_rfl) (by kernel_rfl) (by kernel_rfl) (by kernel_rfl) rfl (by simp [oldsF]) ?_ ?_ ?_ ?_
  · simp only [StableF]
  · simp only [OldsF]
  · simp (maxSteps := 4000000) [StepsF, DepF, freeAct, fill, pairs]
    repeat' (first | apply And.intro | (intro (u : Value)) | (intro (u : Nat)))
    all_goals first
    | (intro V hV hK
       have hs_x := P_x.out.blk.lt
       have qx : Oct V (w.heap.size) _ _ _ _ _ _ _ _ _ := ⟨P_x.out.blk.below hV (by omega)⟩
       obtain ⟨-, a_x0, a_x1, a_x2, a_x3, a_x4, a_x5, a_x6, a_x7⟩ := qx.facts
       have hvb := HB.out.trans (hV.mono (by omega))
       have hvs := hvb.size
       have g_x := Hd (G_x.out.below hvb)
       clear hV hK qx
       go_simp
       first
       | exact Below.refl _ _
       | exact ⟨HW.out, Below.refl _ _⟩
       | ((with_reducible refine (H1.out V).mono ?_); rintro e w' ⟨rfl, hb⟩; exact ⟨rfl, hb⟩)
       | ((with_reducible refine (H2.out V).mono ?_); rintro e w' ⟨rfl, hb⟩; exact ⟨rfl, hb⟩))
  · simp [EndF, FactsF, freeAct, fill, pairs]
    intro V1 hV hK  _ _ _
    have P_x := Hd (P_x.out.below hV)
    have HB := Hd (belowTo HB.out hV)
    clear hV hK 
    go_wp2_with fail
    go_ret
    exact ⟨rfl, HB.out⟩

theorem big_list (l : List GLoc) (b : Bool) (A : Option Addr) (c : Nat) (hl : l.length ≤ 9223372036854775807) (hb : b = l.any fun q => decide (300 < q.size)) (w : World) (h : Reads w w.heap.size 8 A l.length (cellsGL l))
    (H : ∀ q ∈ l, ∀ V : World, Below w.heap.size w V → Calls Tryz.prog 113 #[.agg #[.bool q.re.n1, .slice q.re.A q.re.n q.re.c, .bool q.re.n2, .slice q.re.B q.re.m q.re.e, .bool q.im.n1, .slice q.im.A q.im.n q.im.c, .bool q.im.n2, .slice q.im.B q.im.m q.im.e]] V fun e w' => e = .returned (.int .i64 (q.size : Nat)) ∧ Below V.heap.size V w') :
    Calls Tryz.prog 25 #[.slice A l.length c] w fun e w' => e = .returned (.bool b) ∧ Below w.heap.size w w' := by
  have HR := Hd h
  have HS := Hd H
  have HBB := Hd hb
  clear h H hb
  have H0 := Hd (by intro j hj; omega : ∀ j (_ : j < 0), (h : j < l.length) → ¬ 300 < l[j].size)
  go_enter Tryz.func25, Tryz.ntmps25
  go_wp2_with fail
  go_loopw [3] (fun s wr => ∃ i : Nat, s = .int .i64 i ∧ i ≤ l.length ∧ Hid (∀ j (_ : j < i), (h : j < l.length) → ¬ 300 < l[j].size) ∧ Below w.heap.size w wr) (fun s _ => l.length - (intOf s).toNat)
  case atStart => exact ⟨0, rfl, Nat.zero_le _, H0, Below.refl _ _⟩
  case round =>
    obtain ⟨i, rfl, hi, HN, hb⟩ := hrel
    clear H0
    by_cases hlt : i < l.length
    · have a0 : (0 : Int) ≤ (i : Int) := by omega
      have a1 : (i : Int) < (l.length : Int) := by omega
      obtain ⟨e0, e1, e2, e3, e4, e5, e6, e7⟩ := cellsGL_get l i hlt
      obtain ⟨ad, rfl, hbl, c0, c1, c2, c3, c4, c5, c6, c7⟩ := (HR.out.below hb).row8 hlt e0 e1 e2 e3 e4 e5 e6 e7
      have HB := Hd hb
      have C := Hd (HS.out _ (List.getElem_mem hlt))
      clear e0 e1 e2 e3 e4 e5 e6 e7 hb
      obtain ⟨q, hq⟩ : ∃ q, q = l[i] := ⟨_, rfl⟩
      have HQ := Hd hq
      rw [← hq] at c0 c1 c2 c3 c4 c5 c6 c7 C
      clear hq
      obtain ⟨s, hs⟩ : ∃ s : Nat, s = q.size := ⟨_, rfl⟩
      rw [← hs] at C
      have HSZ := Hd hs
      clear hs
      by_cases hlong : 300 < s
      · have g1 : (300 : Int) < (s : Int) := by omega
        go_wp2_with (first | (go_at_call 113; with_reducible refine (C.out _ HB.out).mono ?_; rintro e w' ⟨rfl, hb'⟩; have B1 := belowTo HB.out hb'))
        go_ret
        have e : b = true := by rw [HBB.out]; exact List.any_eq_true.2 ⟨l[i], List.getElem_mem hlt, decide_eq_true (by rw [← HQ.out, ← HSZ.out]; exact hlong)⟩
        exact ⟨by rw [e]; rfl, B1⟩
      · have g1 : (s : Int) ≤ (300 : Int) := by omega
        go_wp2_with (first | (go_at_call 113; with_reducible refine (C.out _ HB.out).mono ?_; rintro e w' ⟨rfl, hb'⟩; have B1 := belowTo HB.out hb'))
        go_roundw
        case rel =>
          refine ⟨i + 1, by go_num, hlt, Hd fun j hj h => ?_, B1⟩
          rcases (by omega : j < i ∨ j = i) with hj | rfl
          · exact HN.out j hj h
          · rw [← HQ.out, ← HSZ.out]; exact hlong
        case measure => simp [intOf]; omega
    · have HB := Hd hb
      clear hb
      go_wp2_with fail
      go_ret
      have e : b = false := by
        rw [HBB.out]
        exact List.any_eq_false.2 fun x hx => by
          obtain ⟨j, hj, rfl⟩ := List.getElem_of_mem hx
          rw [decide_eq_false (HN.out j (by omega) hj)]
          decide
      exact ⟨by rw [e]; rfl, HB.out⟩

def lens4 (xs ys us vs : List Nat) : Prop := (xs.length ≤ 1152921504606846975 ∧ ys.length ≤ 1152921504606846975) ∧ us.length ≤ 1152921504606846975 ∧ vs.length ≤ 1152921504606846975

theorem gauss_Check_true {n1 n2 n3 n4 : Bool} {xs ys us vs : List Nat} (C1 : MayG 55 n1 n2 n3 n4 xs ys us vs true) (w : World) (v_x : Value) (g_x : GaussRaw w v_x n1 n2 n3 n4 xs ys us vs)  :
    Calls Tryz.prog 14 #[v_x] w fun e w' => e = .returned (.int .i64 0) ∧ Below w.heap.size w w' := by
  obtain ⟨Ax1, cx1, Ax2, cx2, Ax3, cx3, Ax4, cx4, rfl, -⟩ := g_x.form
  have H1 := Hd C1
  clear C1
  have G_x := Hd g_x
  clear g_x
  go_enter Tryz.func14, Tryz.ntmps14
  go_upto_region 1 with fail
  refine boxes1 (P := fun W => Code.wp _ _ _ _ W) fun W p0 b0 => ?_
  have P_x := Hd (Oct.mk p0)
  have HB := Hd b0
  clear b0 p0
  obtain ⟨-, a_x0, a_x1, a_x2, a_x3, a_x4, a_x5, a_x6, a_x7⟩ := P_x.out.facts
  go_wp2_with fail
  refine (H1.out W _ (G_x.out.below HB.out)).mono ?_
  rintro e wx1 ⟨rfl, hb⟩
  clear a_x0 a_x1 a_x2 a_x3 a_x4 a_x5 a_x6 a_x7
  have P_x := Hd (P_x.out.below hb)
  have HB := Hd (belowTo HB.out hb)
  clear hb
  go_wp2_with fail
  go_ret
  exact ⟨rfl, HB.out⟩

theorem gauss_Check_false {n1 n2 n3 n4 : Bool} {xs ys us vs : List Nat} (C1 : MayG 55 n1 n2 n3 n4 xs ys us vs false) (w : World) (v_x : Value) (g_x : GaussRaw w v_x n1 n2 n3 n4 xs ys us vs)  :
    Calls Tryz.prog 14 #[v_x] w fun e w' => e = .returned (.int .i64 1) ∧ Below w.heap.size w w' := by
  obtain ⟨Ax1, cx1, Ax2, cx2, Ax3, cx3, Ax4, cx4, rfl, -⟩ := g_x.form
  have H1 := Hd C1
  clear C1
  have G_x := Hd g_x
  clear g_x
  go_enter Tryz.func14, Tryz.ntmps14
  go_upto_region 1 with fail
  refine boxes1 (P := fun W => Code.wp _ _ _ _ W) fun W p0 b0 => ?_
  have P_x := Hd (Oct.mk p0)
  have HB := Hd b0
  clear b0 p0
  obtain ⟨-, a_x0, a_x1, a_x2, a_x3, a_x4, a_x5, a_x6, a_x7⟩ := P_x.out.facts
  go_wp2_with fail
  refine (H1.out W _ (G_x.out.below HB.out)).mono ?_
  rintro e wx1 ⟨rfl, hb⟩
  clear a_x0 a_x1 a_x2 a_x3 a_x4 a_x5 a_x6 a_x7
  have P_x := Hd (P_x.out.below hb)
  have HB := Hd (belowTo HB.out hb)
  clear hb
  go_wp2_with fail
  go_ret
  exact ⟨rfl, HB.out⟩

/- An api.Int that came in, opened. -/
open Go.ChangeShapes Go.WideShapes Go.ChangeAt Go.RowKit Go.Joins

theorem cells_api : Tryz.prog.cellsOf 24 = 2 := by kernel_rfl
theorem cells_limb : Tryz.prog.cellsOf 114 = 1 := by kernel_rfl
theorem bytes_limb : Tryz.prog.bytesOf 114 = 4 := by kernel_rfl

theorem lt_of_cell {w : World} {a : Addr} {v : Value} (h : w.cell? a = some v) : a.block < w.heap.size := by
  rcases Nat.lt_or_ge a.block w.heap.size with h' | h'
  · exact h'
  · unfold World.cell? at h; rw [Array.getElem?_eq_none h'] at h; simp at h

/- An api.Frac that came in, opened. -/
open Go.ChangeShapes Go.WideShapes Go.ChangeAt Go.RowKit Go.Joins

theorem cells_frac : Tryz.prog.cellsOf 26 = 4 := by kernel_rfl
theorem cells_bool1 : Tryz.prog.cellsOf 4 = 1 := by kernel_rfl
theorem cells_limbs1 : Tryz.prog.cellsOf 22 = 1 := by kernel_rfl
theorem open_int_cells {H : Type} {enc : TypeId × Value → H} {w : World} {held : Bool} {m : Nat} {v0 v1 : Value} {y : DataW H × List MemPlace}
    (h : DataW.trod enc Tryz.prog w 0 (fun _ => true) held m 24 [v0, v1] = some y) :
    ∃ (neg : Bool) (A : Option Addr) (c : Nat) (xs : List Nat), [v0, v1] = [.bool neg, .slice A xs.length c] ∧ Raw w A c xs ∧ ((DataW.weights Tryz.prog 24 y.1).all (· ≤ reachBytes) = true → xs.length ≤ 1152921504606846975) := by
  obtain ⟨y0, y1, n, rfl, -, h0, h1⟩ := trod_struct2 Tryz.underlying24 h
  simp only [cells_bool1, cells_limbs1, List.drop_zero, List.drop_succ_cons, List.take_succ_cons, List.take_zero] at h0 h1
  obtain ⟨neg, e0, rfl⟩ := DataW.trod_bool Tryz.underlying4 h0
  simp at e0
  subst e0
  rcases open_ints Tryz.underlying22 Tryz.underlying114 cells_limb h1 with ⟨e1, rfl⟩ | ⟨a, len, cap, zs, e1, -, hl, hm, hz, rfl, hc, hw⟩
  · simp at e1
    subst e1
    exact ⟨neg, none, 0, [], rfl, ⟨by intro x hx; simp at hx, by simp, by omega, Reads.none_⟩, fun _ => by simp⟩
  · simp at e1
    subst e1
    simp at hz
    have hb : ∀ i (hi : i < zs.length), 0 ≤ zs[i] ∧ zs[i] ≤ 4294967295 := fun i hi => bounds_u32 (hw _ (List.getElem_mem hi))
    have hlen : ((zs.take len).map Int.toNat).length = len := by simp; omega
    refine ⟨neg, some a, cap, (zs.take len).map Int.toNat, by rw [hlen], ⟨?_, by rw [hlen]; exact hl, by unfold maxLen at hm; omega, ?_⟩, ?_⟩
    · intro x hx
      simp only [List.mem_map] at hx
      obtain ⟨z, hz', rfl⟩ := hx
      obtain ⟨i, hi, rfl⟩ := List.mem_iff_getElem.1 (List.mem_of_mem_take hz')
      have := hb i hi
      omega
    · refine ⟨by rw [cellsU_length, Nat.mul_one], fun h0 => ⟨a, rfl, ?_, fun j u hu => ?_⟩⟩
      · rw [hlen] at h0
        have := lt_of_cell (hc 0 (by omega))
        rwa [block_of_add] at this
      · have hj : j < ((zs.take len).map Int.toNat).length := by
          have := (List.getElem?_eq_some_iff.1 hu).1
          rwa [cellsU_length] at this
        rw [cellsU_get hj] at hu
        rw [hlen] at hj
        have hj2 : j < zs.length := by omega
        have hbj := hb j hj2
        rw [← hu, hc j hj2]
        simp [hj2]
        omega
    · intro hs
      rw [hlen]
      simp only [DataW.weights, Tryz.underlying24, DataW.weightsEach, Tryz.underlying22, List.all_append, List.all_cons, Bool.and_eq_true, bytes_limb, lits, List.length_map, List.length_take, List.length_drop, reachBytes, List.map_cons, List.map_nil] at hs
      have h4 := of_decide_eq_true hs.2.1.1
      omega
end Go.Proofs.YthlehkjcfhnplaaGreatDoor
