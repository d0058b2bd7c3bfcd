/- Elements as values; bench.copied. (Written by wip/top/genrevc.py.) -/
import Derived.Test.YtmcnmoljliggfaaGreatDoorBvRevB
namespace Go.Proofs.YtmcnmoljliggfaaGreatDoor
open Go.RowKit

theorem elInfo : (Tryz.prog.info? 65).map (·.size) = some 9 := by kernel_rfl
/-- An element whose limbs lie in memory that is limbs alone. -/
structure ElIn (w : World) (v : Value) (k : Nat) (n d m f : Int) : Prop where
  form : ∃ P1 q1 P2 q2 P3 q3 P4 q4, v = .agg #[.int .u8 k, .bool (decide (n < 0)), .slice P1 (natL n.natAbs).length q1, .bool (decide (d < 0)), .slice P2 (natL d.natAbs).length q2, .bool (decide (m < 0)), .slice P3 (natL m.natAbs).length q3, .bool (decide (f < 0)), .slice P4 (natL f.natAbs).length q4] ∧ FracIn w 0 (.agg #[.bool (decide (n < 0)), .slice P1 (natL n.natAbs).length q1, .bool (decide (d < 0)), .slice P2 (natL d.natAbs).length q2]) n d ∧ FracIn w 0 (.agg #[.bool (decide (m < 0)), .slice P3 (natL m.natAbs).length q3, .bool (decide (f < 0)), .slice P4 (natL f.natAbs).length q4]) m f
theorem ElIn.kept {B : Nat} {Ts : List TypeId} {w w' : World} {v : Value} {k : Nat} {n d m f : Int} (h : ElIn w v k n d m f) (hk : KeptV B Ts w w') (hT : 109 ∉ Ts) : ElIn w' v k n d m f := by
  obtain ⟨P1, q1, P2, q2, P3, q3, P4, q4, h1, h2, h3⟩ := h.form
  exact ⟨P1, q1, P2, q2, P3, q3, P4, q4, h1, h2.kept hk hT, h3.kept hk hT⟩
theorem ElIn.below {w w' : World} {v : Value} {k : Nat} {n d m f : Int} (h : ElIn w v k n d m f) (hb : Below w.heap.size w w') : ElIn w' v k n d m f := by
  obtain ⟨P1, q1, P2, q2, P3, q3, P4, q4, h1, h2, h3⟩ := h.form
  exact ⟨P1, q1, P2, q2, P3, q3, P4, q4, h1, h2.below hb, h3.below hb⟩
theorem ElIn.cells {w : World} {v : Value} {k : Nat} {n d m f : Int} (h : ElIn w v k n d m f) : CellsN v 9 := by
  obtain ⟨P1, q1, P2, q2, P3, q3, P4, q4, rfl, -⟩ := h.form
  exact ⟨rfl, by simp [Value.cells, Value.oneCell']⟩
def RetEl (w : World) (k : Nat) (n d m f : Int) (e : Ending) (w' : World) : Prop := ∃ v, e = .returned v ∧ ElIn w' v k n d m f ∧ Below w.heap.size w w'

set_option maxRecDepth 100000 in
set_option maxHeartbeats 4000000 in
theorem copied_w {k : Nat} {n d m f : Int} {P1 P2 P3 P4 : Option Addr} {q1 q2 q3 q4 : Nat} (C1 : OpI1 48 n d n d) (C2 : OpI1 48 m f m f) (w : World) (g_p : FracAt w (.agg #[.bool (decide (n < 0)), .slice P1 (natL n.natAbs).length q1, .bool (decide (d < 0)), .slice P2 (natL d.natAbs).length q2]) n d) (g_q : FracAt w (.agg #[.bool (decide (m < 0)), .slice P3 (natL m.natAbs).length q3, .bool (decide (f < 0)), .slice P4 (natL f.natAbs).length q4]) m f) :
    Calls Tryz.prog 51 #[.agg #[.int .u8 k, .bool (decide (n < 0)), .slice P1 (natL n.natAbs).length q1, .bool (decide (d < 0)), .slice P2 (natL d.natAbs).length q2, .bool (decide (m < 0)), .slice P3 (natL m.natAbs).length q3, .bool (decide (f < 0)), .slice P4 (natL f.natAbs).length q4]] w (RetEl w k n d m f) := by
  have H1 := Lib.hid C1
  have H2 := Lib.hid C2
  have G_p := Lib.hid g_p
  have G_q := Lib.hid g_q
  clear C1 C2 g_p g_q
  go_enter Tryz.func51, Tryz.ntmps51
  go_upto_region 1 with fail
  refine boxes2 (P := fun W => Code.wp _ _ _ _ W) fun W p0 p1 b0 => ?_
  have P_e := Lib.hid (Nine.mk p0)
  have PR := Lib.hid (Nine.mk p1)
  have HB := Lib.hid b0
  clear b0 p0 p1
  have hsz := PR.out.blk.lt
  refine wp_region_free [.val (.pointer (some ⟨w.heap.size, 0, none⟩)) [], .val (.int .u8 k) [], .val (.pointer (some ⟨w.heap.size, 1, none⟩)) [], .val (.agg #[.bool (decide (n < 0)), .slice P1 (natL n.natAbs).length q1, .bool (decide (d < 0)), .slice P2 (natL d.natAbs).length q2]) [], .any false (fun u V => FracIn V 0 u n d) [], .val (.pointer (some ⟨w.heap.size, 5, none⟩)) [], .val (.agg #[.bool (decide (m < 0)), .slice P3 (natL m.natAbs).length q3, .bool (decide (f < 0)), .slice P4 (natL f.natAbs).length q4]) [], .any false (fun u V => FracIn V 0 u m f) [], .any false (fun u V => ElIn V u k n d m f) [4, 7], .old (w.heap.size + 1) 65 #[.int .u8 0, .bool false, .slice none 0 0, .bool false, .slice none 0 0, .bool false, .slice none 0 0, .bool false, .slice none 0 0] 0 9 8 []] (w.heap.size + 1) W [65] (fun _ _ => False) _ mixedOrders2 (by omega) (Below.refl _ _) (KeptV.refl _ _ _) rfl (by kernel_rfl) (by kernel_rfl) (by kernel_rfl) (by kernel_rfl) (by kernel_rfl) (by kernel_rfl) (by kernel_rfl) (by kernel_rfl) rfl (by simp [oldsF]) ?_ ?_ ?_ ?_
  · simp only [StableF, and_true]
    exact ⟨fun u V V' h k => h.kept k (by decide), fun u V V' h k => h.kept k (by decide), fun u V V' h k => h.kept k (by decide)⟩
  · simp only [OldsF, and_true]
    exact ⟨Nat.le_refl _, PR.out.blk.lt, PR.out.blk, by simp⟩
  · simp (maxSteps := 4000000) [StepsF, DepF, freeAct, fill, pairs]
    repeat' (first | apply And.intro | (intro (u : Value)) | (intro (u : Nat)))
    all_goals try exact ⟨_, _, _, rfl, rfl, rfl, rfl, elInfo⟩
    all_goals first
    | (intro V hV hK
       have qr : Nine V (w.heap.size) _ _ _ _ _ _ _ _ _ _ := ⟨P_e.out.blk.below hV (by omega)⟩
       obtain ⟨-, a_r0, a_r1, a_r2, a_r3, a_r4, a_r5, a_r6, a_r7, a_r8⟩ := qr.facts
       have hvb := HB.out.trans (hV.mono (by omega))
       have hvs := hvb.size
       have g_p := Lib.hid (G_p.out.below hvb)
       have g_q := Lib.hid (G_q.out.below hvb)
       clear hV hK qr
       go_simp
       first
       | exact Below.refl _ _
       | ((with_reducible refine (H1.out V _ g_p.out).mono ?_); rintro e w' ⟨v, rfl, hv, hb⟩; exact ⟨hv, hb⟩)
       | ((with_reducible refine (H2.out V _ g_q.out).mono ?_); rintro e w' ⟨v, rfl, hv, hb⟩; exact ⟨hv, hb⟩))
    | (intro V hV hK h1 h2
       obtain ⟨A1, c1, B1, e1, rfl, -, -⟩ := h1.form
       obtain ⟨A2, c2, B2, e2, rfl, -, -⟩ := h2.form
       clear hV hK
       go_simp
       exact ⟨⟨_, _, _, _, _, _, _, _, rfl, h1, h2⟩, Below.refl _ _⟩)
    | exact fun _ _ _ (h : ElIn _ _ _ _ _ _ _) => h.cells
  · simp [EndF, FactsF, freeAct, fill, pairs]
    intro u1 u2 u3 V hV hK h1 h2 h3 bq _ _ _
    have HF := Lib.hid h3
    obtain ⟨A6, c6, A7, c7, A8, c8, A9, c9, rfl, -⟩ := h3.form
    simp [setAll, Value.cells] at bq
    have HB9 := Lib.hid (HB.out.trans (hV.mono (by omega)))
    have k9 := Lib.hid bq
    clear h1 h2 h3 hV hK bq
    go_wp2_with fail
    exact bodyPost_ret (results_cell_row rfl _ _ (w.heap.size + 1) _ _ _ _ (by rfl) k9.out Tryz.underlying65 rfl elInfo) rfl ⟨_, rfl, HF.out, HB9.out⟩
end Go.Proofs.YtmcnmoljliggfaaGreatDoor
