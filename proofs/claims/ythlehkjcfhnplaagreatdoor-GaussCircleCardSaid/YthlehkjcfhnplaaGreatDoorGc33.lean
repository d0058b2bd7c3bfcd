/- Several texts in one: ArgandAns, Ref03b, Reck, GaussC. -/
import Derived.Test.YthlehkjcfhnplaaGreatDoorGc30
import Derived.Test.YthlehkjcfhnplaaGreatDoorGcHd
import Derived.Test.YthlehkjcfhnplaaGreatDoorGc31
import Derived.Test.YthlehkjcfhnplaaGreatDoorGc32
set_option maxRecDepth 100000
set_option maxHeartbeats 8000000
/- Long of two fractions; Answer of argand at one number. (Written by wip/gauss/genans.py.) -/
namespace Go.Proofs.YthlehkjcfhnplaaGreatDoor
open Go.RowKit

theorem ratio_Long_two (n d m f : Int) (Ax1 Ax2 Ax3 Ax4 : Option Addr) (cx1 cx2 cx3 cx4 : Nat) (b : Bool) (l1 : (natL n.natAbs).length ≤ 9223372036854775807) (l2 : (natL d.natAbs).length ≤ 9223372036854775807) (l3 : (natL m.natAbs).length ≤ 9223372036854775807) (l4 : (natL f.natAbs).length ≤ 9223372036854775807) (hb : ((decide (2048 < (natL n.natAbs).length) || decide (2048 < (natL d.natAbs).length)) || (decide (2048 < (natL m.natAbs).length) || decide (2048 < (natL f.natAbs).length))) = b) (V : World) (g : Nat) (hg : V.heap.size = g) :
    Calls Tryz.prog 203 #[.slice (some ⟨g, 0, none⟩) 2 2] (V.alloc (.cells #[.bool (decide (n < 0)), .slice Ax1 (natL n.natAbs).length cx1, .bool (decide (d < 0)), .slice Ax2 (natL d.natAbs).length cx2, .bool (decide (m < 0)), .slice Ax3 (natL m.natAbs).length cx3, .bool (decide (f < 0)), .slice Ax4 (natL f.natAbs).length cx4] 26)) fun e w' => e = .returned (.bool b) ∧ Below (V.alloc (.cells #[.bool (decide (n < 0)), .slice Ax1 (natL n.natAbs).length cx1, .bool (decide (d < 0)), .slice Ax2 (natL d.natAbs).length cx2, .bool (decide (m < 0)), .slice Ax3 (natL m.natAbs).length cx3, .bool (decide (f < 0)), .slice Ax4 (natL f.natAbs).length cx4] 26)).heap.size (V.alloc (.cells #[.bool (decide (n < 0)), .slice Ax1 (natL n.natAbs).length cx1, .bool (decide (d < 0)), .slice Ax2 (natL d.natAbs).length cx2, .bool (decide (m < 0)), .slice Ax3 (natL m.natAbs).length cx3, .bool (decide (f < 0)), .slice Ax4 (natL f.natAbs).length cx4] 26)) w' := by
  have := ratio_LongL [⟨decide (n < 0), Ax1, (natL n.natAbs).length, cx1, decide (d < 0), Ax2, (natL d.natAbs).length, cx2⟩, ⟨decide (m < 0), Ax3, (natL m.natAbs).length, cx3, decide (f < 0), Ax4, (natL f.natAbs).length, cx4⟩] (some ⟨g, 0, none⟩) 2 (by simp) (by simp; omega) (V.alloc (.cells #[.bool (decide (n < 0)), .slice Ax1 (natL n.natAbs).length cx1, .bool (decide (d < 0)), .slice Ax2 (natL d.natAbs).length cx2, .bool (decide (m < 0)), .slice Ax3 (natL m.natAbs).length cx3, .bool (decide (f < 0)), .slice Ax4 (natL f.natAbs).length cx4] 26))
    (by subst hg; exact Reads.blk (Blk.new V 26 #[.bool (decide (n < 0)), .slice Ax1 (natL n.natAbs).length cx1, .bool (decide (d < 0)), .slice Ax2 (natL d.natAbs).length cx2, .bool (decide (m < 0)), .slice Ax3 (natL m.natAbs).length cx3, .bool (decide (f < 0)), .slice Ax4 (natL f.natAbs).length cx4]) rfl)
  rw [← hb]
  simpa [FLoc.long] using this

theorem argand_Answer_true (n d m f : Int) (Ax1 Ax2 Ax3 Ax4 : Option Addr) (cx1 cx2 cx3 cx4 : Nat) (l1 : (natL n.natAbs).length ≤ 9223372036854775807) (l2 : (natL d.natAbs).length ≤ 9223372036854775807) (l3 : (natL m.natAbs).length ≤ 9223372036854775807) (l4 : (natL f.natAbs).length ≤ 9223372036854775807) (hb : ((decide (2048 < (natL n.natAbs).length) || decide (2048 < (natL d.natAbs).length)) || (decide (2048 < (natL m.natAbs).length) || decide (2048 < (natL f.natAbs).length))) = true) (w : World) (g : Nat) (q : Oct w g 28 (.bool (decide (n < 0))) (.slice Ax1 (natL n.natAbs).length cx1) (.bool (decide (d < 0))) (.slice Ax2 (natL d.natAbs).length cx2) (.bool (decide (m < 0))) (.slice Ax3 (natL m.natAbs).length cx3) (.bool (decide (f < 0))) (.slice Ax4 (natL f.natAbs).length cx4)) :
    Calls Tryz.prog 204 #[.slice (some ⟨g, 0, none⟩) 1 1] w fun e w' => e = .returned (.int .i64 4) ∧ Below w.heap.size w w' := by
  have H1 := Hd (fun (V : World) (g' : Nat) (hg : V.heap.size = g') => ratio_Long_two n d m f Ax1 Ax2 Ax3 Ax4 cx1 cx2 cx3 cx4 true l1 l2 l3 l4 hb V g' hg)
  have HQ := Hd q
  clear hb q l1 l2 l3 l4
  go_enter Tryz.func204, Tryz.ntmps204
  go_wp2_with fail
  go_loopw [7] (fun s wr => ∃ i : Nat, s = .int .i64 i ∧ i ≤ 0 ∧ Below w.heap.size w wr) (fun s _ => 1 - (intOf s).toNat)
  case atStart => exact ⟨0, rfl, by omega, Below.refl _ _⟩
  case round =>
    obtain ⟨i, rfl, hi, hb⟩ := hrel
    obtain rfl : i = 0 := by omega
    clear hi
    obtain ⟨l_q, q0, q1, q2, q3, q4, q5, q6, q7⟩ := (HQ.out.below hb).facts
    have px := Oct.new wr 28 (.bool (decide (n < 0))) (.slice Ax1 (natL n.natAbs).length cx1) (.bool (decide (d < 0))) (.slice Ax2 (natL d.natAbs).length cx2) (.bool (decide (m < 0))) (.slice Ax3 (natL m.natAbs).length cx3) (.bool (decide (f < 0))) (.slice Ax4 (natL f.natAbs).length cx4)
    have hb2 := hb.alloc hb.size (.cells #[.bool (decide (n < 0)), .slice Ax1 (natL n.natAbs).length cx1, .bool (decide (d < 0)), .slice Ax2 (natL d.natAbs).length cx2, .bool (decide (m < 0)), .slice Ax3 (natL m.natAbs).length cx3, .bool (decide (f < 0)), .slice Ax4 (natL f.natAbs).length cx4] 28)
    go_upto_region 4 with fail
    obtain ⟨y, E⟩ : ∃ W, W = wr.alloc (.cells #[.bool (decide (n < 0)), .slice Ax1 (natL n.natAbs).length cx1, .bool (decide (d < 0)), .slice Ax2 (natL d.natAbs).length cx2, .bool (decide (m < 0)), .slice Ax3 (natL m.natAbs).length cx3, .bool (decide (f < 0)), .slice Ax4 (natL f.natAbs).length cx4] 28) := ⟨_, rfl⟩
    obtain ⟨bq, hq⟩ : ∃ q, q = wr.heap.size := ⟨_, rfl⟩
    rw [← E] at hb2
    rw [← E, ← hq] at px ⊢
    have HB := Hd hb2
    clear hb hb2 E hq l_q q0 q1 q2 q3 q4 q5 q6 q7
    obtain ⟨l_x, x0, x1, x2, x3, x4, x5, x6, x7⟩ := px.facts
    clear px
    go_wp2_with fail
    refine (H1.out y _ rfl).mono ?_
    rintro e w1 ⟨rfl, hb1⟩
    have HB1 := Hd (belowTo (HB.out.alloc HB.out.size (.cells #[.bool (decide (n < 0)), .slice Ax1 (natL n.natAbs).length cx1, .bool (decide (d < 0)), .slice Ax2 (natL d.natAbs).length cx2, .bool (decide (m < 0)), .slice Ax3 (natL m.natAbs).length cx3, .bool (decide (f < 0)), .slice Ax4 (natL f.natAbs).length cx4] 26)) hb1)
    clear hb1 HB l_x x0 x1 x2 x3 x4 x5 x6 x7
    go_wp2_with fail
    go_ret
    exact ⟨rfl, HB1.out⟩

theorem argand_Answer_false (n d m f : Int) (Ax1 Ax2 Ax3 Ax4 : Option Addr) (cx1 cx2 cx3 cx4 : Nat) (l1 : (natL n.natAbs).length ≤ 9223372036854775807) (l2 : (natL d.natAbs).length ≤ 9223372036854775807) (l3 : (natL m.natAbs).length ≤ 9223372036854775807) (l4 : (natL f.natAbs).length ≤ 9223372036854775807) (hb : ((decide (2048 < (natL n.natAbs).length) || decide (2048 < (natL d.natAbs).length)) || (decide (2048 < (natL m.natAbs).length) || decide (2048 < (natL f.natAbs).length))) = false) (w : World) (g : Nat) (q : Oct w g 28 (.bool (decide (n < 0))) (.slice Ax1 (natL n.natAbs).length cx1) (.bool (decide (d < 0))) (.slice Ax2 (natL d.natAbs).length cx2) (.bool (decide (m < 0))) (.slice Ax3 (natL m.natAbs).length cx3) (.bool (decide (f < 0))) (.slice Ax4 (natL f.natAbs).length cx4)) :
    Calls Tryz.prog 204 #[.slice (some ⟨g, 0, none⟩) 1 1] w fun e w' => e = .returned (.int .i64 0) ∧ Below w.heap.size w w' := by
  have H1 := Hd (fun (V : World) (g' : Nat) (hg : V.heap.size = g') => ratio_Long_two n d m f Ax1 Ax2 Ax3 Ax4 cx1 cx2 cx3 cx4 false l1 l2 l3 l4 hb V g' hg)
  have HQ := Hd q
  clear hb q l1 l2 l3 l4
  go_enter Tryz.func204, Tryz.ntmps204
  go_wp2_with fail
  go_loopw [7] (fun s wr => ∃ i : Nat, s = .int .i64 i ∧ i ≤ 1 ∧ Below w.heap.size w wr) (fun s _ => 1 - (intOf s).toNat)
  case atStart => exact ⟨0, rfl, by omega, Below.refl _ _⟩
  case round =>
    obtain ⟨i, rfl, hi, hb⟩ := hrel
    by_cases hlt : i < 1
    · obtain rfl : i = 0 := by omega
      clear hlt
      clear hi
      obtain ⟨l_q, q0, q1, q2, q3, q4, q5, q6, q7⟩ := (HQ.out.below hb).facts
      have px := Oct.new wr 28 (.bool (decide (n < 0))) (.slice Ax1 (natL n.natAbs).length cx1) (.bool (decide (d < 0))) (.slice Ax2 (natL d.natAbs).length cx2) (.bool (decide (m < 0))) (.slice Ax3 (natL m.natAbs).length cx3) (.bool (decide (f < 0))) (.slice Ax4 (natL f.natAbs).length cx4)
      have hb2 := hb.alloc hb.size (.cells #[.bool (decide (n < 0)), .slice Ax1 (natL n.natAbs).length cx1, .bool (decide (d < 0)), .slice Ax2 (natL d.natAbs).length cx2, .bool (decide (m < 0)), .slice Ax3 (natL m.natAbs).length cx3, .bool (decide (f < 0)), .slice Ax4 (natL f.natAbs).length cx4] 28)
      go_upto_region 4 with fail
      obtain ⟨y, E⟩ : ∃ W, W = wr.alloc (.cells #[.bool (decide (n < 0)), .slice Ax1 (natL n.natAbs).length cx1, .bool (decide (d < 0)), .slice Ax2 (natL d.natAbs).length cx2, .bool (decide (m < 0)), .slice Ax3 (natL m.natAbs).length cx3, .bool (decide (f < 0)), .slice Ax4 (natL f.natAbs).length cx4] 28) := ⟨_, rfl⟩
      obtain ⟨bq, hq⟩ : ∃ q, q = wr.heap.size := ⟨_, rfl⟩
      rw [← E] at hb2
      rw [← E, ← hq] at px ⊢
      have HB := Hd hb2
      clear hb hb2 E hq l_q q0 q1 q2 q3 q4 q5 q6 q7
      obtain ⟨l_x, x0, x1, x2, x3, x4, x5, x6, x7⟩ := px.facts
      clear px
      go_wp2_with fail
      refine (H1.out y _ rfl).mono ?_
      rintro e w1 ⟨rfl, hb1⟩
      have HB1 := Hd (belowTo (HB.out.alloc HB.out.size (.cells #[.bool (decide (n < 0)), .slice Ax1 (natL n.natAbs).length cx1, .bool (decide (d < 0)), .slice Ax2 (natL d.natAbs).length cx2, .bool (decide (m < 0)), .slice Ax3 (natL m.natAbs).length cx3, .bool (decide (f < 0)), .slice Ax4 (natL f.natAbs).length cx4] 26)) hb1)
      clear hb1 HB l_x x0 x1 x2 x3 x4 x5 x6 x7
      go_wp2_with fail
      go_roundw
      case rel => exact ⟨1, by go_num, Nat.le_refl _, HB1.out⟩
      case measure => simp [intOf]
    · obtain rfl : i = 1 := by omega
      have HB := Hd hb
      clear hb hi hlt
      go_wp2_with fail
      go_ret
      exact ⟨rfl, HB.out⟩
/- May, Nought, Answer, Reckoned of the references of chapter 03. (Written by wip/gauss/genref03b.py.) -/

abbrev AnsIG (n d m f N D M E k : Int) : Prop := ∀ (V : World) (v : Value), GaussIn V v n d m f → Calls Tryz.prog 107 #[v] V (RetGaussIn2 V N D M E k)

/- reckoned of the laws: both sides' answers. (Written by wip/gauss/genreck.py.) -/

theorem ansG_of {n d m f : Int} (b : Bool) (h : ((decide (2048 < (natL n.natAbs).length) || decide (2048 < (natL d.natAbs).length)) || (decide (2048 < (natL m.natAbs).length) || decide (2048 < (natL f.natAbs).length))) = b) : AnsG 204 n d m f (if b then 4 else 0) := by
  intro V g v A1 A2 A3 A4 c1 c2 c3 c4 hg _ l1 l2 l3 l4
  rw [show V.heap.size + 1 = (V.alloc (.cells #[.bool (decide (n < 0)), .slice A1 (natL n.natAbs).length c1, .bool (decide (d < 0)), .slice A2 (natL d.natAbs).length c2, .bool (decide (m < 0)), .slice A3 (natL m.natAbs).length c3, .bool (decide (f < 0)), .slice A4 (natL f.natAbs).length c4] 28)).heap.size by simp]
  cases b with
  | true => exact argand_Answer_true n d m f A1 A2 A3 A4 c1 c2 c3 c4 l1 l2 l3 l4 h _ g (by subst hg; exact Oct.new _ _ _ _ _ _ _ _ _ _)
  | false => exact argand_Answer_false n d m f A1 A2 A3 A4 c1 c2 c3 c4 l1 l2 l3 l4 h _ g (by subst hg; exact Oct.new _ _ _ _ _ _ _ _ _ _)
theorem may_true {n d m f : Int} (f1 : Fine n d) (f2 : Fine m f) : (chkE (decide (n < 0)) (decide (d < 0)) (natL n.natAbs) (natL d.natAbs) == 0 && chkE (decide (m < 0)) (decide (f < 0)) (natL m.natAbs) (natL f.natAbs) == 0) = true := by
  rw [f1.chk, f2.chk]; rfl
theorem GaussOwn.raws {w : World} {base : Nat} {v : Value} {n d m f : Int} (h : GaussOwn w base v n d m f) : GaussAt w v n d m f := h.in_.at_
theorem nought_g {p q r s : Int} {c e : Rat} (i3 : Is c p q) (i4 : Is e r s) (b : Bool) (hb : decide (p = 0 ∧ r = 0) = b) : NoughtG 116 p q r s b := by
  intro V v g1
  by_cases h1 : p = 0
  · by_cases h2 : r = 0
    · rw [decide_eq_true ⟨h1, h2⟩] at hb
      subst hb
      exact argand_Nought_yes (sgn_r i3) (sign_eq0 p true (decide_eq_true h1)) (sgn_r i4) (sign_eq0 r true (decide_eq_true h2)) V v g1
    · rw [decide_eq_false (fun h => h2 h.2)] at hb
      subst hb
      exact argand_Nought_im (sgn_r i3) (sign_eq0 p true (decide_eq_true h1)) (sgn_r i4) (sign_eq0 r false (decide_eq_false h2)) V v g1
  · rw [decide_eq_false (fun h => h1 h.1)] at hb
    subst hb
    exact argand_Nought_re (sgn_r i3) (sign_eq0 p false (decide_eq_false h1)) V v g1
/- The calls of package gauss over numbers that may be, where nothing is refused. (Written by wip/gauss/gengaussc.py.) -/

structure GIs (a b : Rat) (n d m f : Int) : Prop where
  re : Is a n d
  im : Is b m f
  f1 : Fine n d
  f2 : Fine m f
theorem GIs.sz {a b : Rat} {n d m f : Int} (h : GIs a b n d m f) : Sz a 2048 ∧ Sz b 2048 := ⟨h.re.sz h.f1.num h.f1.den, h.im.sz h.f2.num h.f2.den⟩
theorem GIs.mk_ {a b : Rat} {n d m f : Int} (h1 : Is a n d) (h2 : Is b m f) (l1 : lz n ≤ 2048) (l2 : lz d ≤ 2048) (l3 : lz m ≤ 2048) (l4 : lz f ≤ 2048) : GIs a b n d m f := ⟨h1, h2, h1.fine l1 l2, h2.fine l3 l4⟩
theorem GIs.of {n d m f : Int} (f1 : Fine n d) (f2 : Fine m f) : GIs (Rat.divInt n d) (Rat.divInt m f) n d m f := ⟨f1.is_.1, f2.is_.1, f1, f2⟩
theorem GIs.may {a b : Rat} {n d m f : Int} (h : GIs a b n d m f) : MayG 55 (decide (n < 0)) (decide (d < 0)) (decide (m < 0)) (decide (f < 0)) (natL n.natAbs) (natL d.natAbs) (natL m.natAbs) (natL f.natAbs) true := by
  have k := may_raw (decide (n < 0)) (decide (d < 0)) (decide (m < 0)) (decide (f < 0)) (natL n.natAbs) (natL d.natAbs) (natL m.natAbs) (natL f.natAbs)
  rw [may_true h.f1 h.f2] at k
  exact k
theorem GIs.fits {a b : Rat} {n d m f : Int} (h : GIs a b n d m f) : AnsweredG n d m f n d m f 0 := fun V base v hbase ho => by
  have l1 : lz n ≤ 2048 := h.f1.num
  have l2 : lz d ≤ 2048 := h.f1.den
  have l3 : lz m ≤ 2048 := h.f2.num
  have l4 : lz f ≤ 2048 := h.f2.den
  have hb : ((decide (2048 < (natL n.natAbs).length) || decide (2048 < (natL d.natAbs).length)) || (decide (2048 < (natL m.natAbs).length) || decide (2048 < (natL f.natAbs).length))) = false := by
    unfold lz at l1 l2 l3 l4
    rw [decide_eq_false (by omega), decide_eq_false (by omega), decide_eq_false (by omega), decide_eq_false (by omega)]
    rfl
  exact answered_fits (ansG_of false hb) V v ho.in_.at_ hbase ho
section
variable {a b c e : Rat} {n d m f p q r s N D M E : Int}
theorem gmul_c (x : GIs a b n d m f) (y : GIs c e p q r s) (z : GIs (a * c - b * e) (a * e + b * c) N D M E) : OpG2 104 n d m f p q r s N D M E 0 := by
  intro V v1 v2 g1 g2
  have C : BothC (.func (.func 191) #[] #[]) (decide (n < 0)) (decide (d < 0)) (decide (m < 0)) (decide (f < 0)) (natL n.natAbs) (natL d.natAbs) (natL m.natAbs) (natL f.natAbs) (decide (p < 0)) (decide (q < 0)) (decide (r < 0)) (decide (s < 0)) (natL p.natAbs) (natL q.natAbs) (natL r.natAbs) (natL s.natAbs) N D M E 0 := fun V v1 v2 g1 g2 => by
    have up : ∀ {q : Rat} {l : Nat}, Sz q 2048 → 2048 ≤ l → Sz q l := fun h k => h.mono k
    exact both_Times x.may y.may (times_g x.re x.im y.re y.im (up x.sz.1 (by omega)) (up x.sz.2 (by omega)) (up y.sz.1 (by omega)) (up y.sz.2 (by omega)) z.re z.im) z.fits V v1 v2 ⟨g1.form⟩ ⟨g2.form⟩
  exact gauss_Mul C V v1 v2 g1.raw g2.raw
theorem gquo_zero (x : GIs a b n d m f) (y : GIs c e p q r s) (h0 : c = 0 ∧ e = 0) : OpG2 29 n d m f p q r s 0 0 0 0 3 := by
  intro V v1 v2 g1 g2
  have hd : decide (p = 0 ∧ r = 0) = true := decide_eq_true ⟨y.re.nought.2 h0.1, y.im.nought.2 h0.2⟩
  exact gauss_Quo_nought x.may y.may (nought_g y.re y.im true hd) V v1 v2 g1 g2
end
end Go.Proofs.YthlehkjcfhnplaaGreatDoor
