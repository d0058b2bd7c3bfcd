/- Several texts in one: RCommon, Common02, TurnedR, Lowest02, Turned. -/
import Derived.Test.YtmcnmoljliggfaaGreatDoorBt14
import Derived.Test.YtmcnmoljliggfaaGreatDoorBt13
set_option maxRecDepth 100000
set_option maxHeartbeats 8000000
/- Common of the references, told by the numbers alone. -/
namespace Go.Proofs.YtmcnmoljliggfaaGreatDoor
open Go.RowKit

/- common of the references of chapter 02. (Written by wip/frac/gencommon02.py.) -/

/- turned of the references: a number times -1. (Written by wip/frac/genturned.py.) -/

/- Lowest of the references of chapter 02. (Written by wip/frac/genlowest02.py.) -/

theorem fracInfo : (Tryz.prog.info? 27).map (·.size) = some 4 := by kernel_rfl
structure FracIn (w : World) (base : Nat) (v : Value) (n d : Int) : Prop where
  form : ∃ A c B e, v = .agg #[.bool (decide (n < 0)), .slice A (natL n.natAbs).length c, .bool (decide (d < 0)), .slice B (natL d.natAbs).length e] ∧ IntOwn w base (.agg #[.bool (decide (n < 0)), .slice A (natL n.natAbs).length c]) n ∧ IntOwn w base (.agg #[.bool (decide (d < 0)), .slice B (natL d.natAbs).length e]) d
theorem FracIn.kept {B : Nat} {Ts : List TypeId} {w w' : World} {base : Nat} {v : Value} {n d : Int} (h : FracIn w base v n d) (k : KeptV B Ts w w') (hT : 109 ∉ Ts) : FracIn w' base v n d := by
  obtain ⟨A, c, B, e, h1, h2, h3⟩ := h.form
  exact ⟨A, c, B, e, h1, h2.kept k hT, h3.kept k hT⟩
theorem FracIn.at_ {w : World} {base : Nat} {v : Value} {n d : Int} (h : FracIn w base v n d) : FracAt w v n d := by
  obtain ⟨A, c, B, e, h1, h2, h3⟩ := h.form
  exact ⟨A, c, B, e, h1, h2.rawAt, h3.rawAt⟩
theorem FracIn.cells {w : World} {base : Nat} {v : Value} {n d : Int} (h : FracIn w base v n d) : CellsN v 4 := by
  obtain ⟨A, c, B, e, rfl, -⟩ := h.form
  exact ⟨rfl, by simp [Value.cells, Value.oneCell']⟩

/- turned of package ratio: a number times -1. (Written by wip/frac/genturned.py.) -/

theorem eturned (x z : Int) (A : Option Addr) (c : Nat) (w : World) (h_x : Raw w A c (natL x.natAbs)) (hx : lz x ≤ 400000000) (hz : z = -x) :
    Calls Tryz.prog 76 #[.agg #[.bool (decide (x < 0)), .slice A (natL x.natAbs).length c]] w (RetInt w.heap.size w z) := by
  obtain ⟨n0, hn0⟩ : ∃ k : Int, k = 0 := ⟨_, rfl⟩
  have H0 := Hd hn0
  have HZ := Hd (show z = n0 - x from by rw [hz, hn0]; omega)
  have hl0 : lz n0 ≤ 400000000 := by rw [hn0]; decide
  clear hz hn0
  have b0 := (((Below.refl w.heap.size w).alloc (Nat.le_refl _) (.cells #[.bool (decide (x < 0)), .slice A (natL x.natAbs).length c] 25)).alloc (by simp) (.cells #[.bool false, .slice none 0 0] 25))
  have p0 := (Pair.new w 25 (.bool (decide (x < 0))) (.slice A (natL x.natAbs).length c)).alloc (.cells #[.bool false, .slice none 0 0] 25)
  have p1 := Pair.new (w.alloc (.cells #[.bool (decide (x < 0)), .slice A (natL x.natAbs).length c] 25)) 25 (.bool false) (.slice none 0 0)
  simp only [World.size_alloc] at p1
  have V_x := Hd (NV.of h_x b0 p0)
  have P_r0 := Hd p1
  have RW_x := Hd h_x
  have HBW := Hd b0
  clear b0 p0 p1 h_x
  go_enter Tryz.func76, Tryz.ntmps76
  obtain ⟨W, E⟩ : ∃ W, W = ((w.alloc (.cells #[.bool (decide (x < 0)), .slice A (natL x.natAbs).length c] 25)).alloc (.cells #[.bool false, .slice none 0 0] 25)) := ⟨_, rfl⟩
  go_upto_region 1 with fail
  rw [← E] at V_x P_r0 HBW ⊢
  clear E
  have hsz := P_r0.out.blk.lt
  go_wp2_with fail
  refine wp_region_free [.any false (fun u V => IntOwn V 0 u n0) [], .val (.agg #[.bool (decide (x < 0)), .slice A (natL x.natAbs).length c]) [], .any false (fun u V => IntOwn V w.heap.size u z) [0], .old (w.heap.size + 1) 25 #[.bool false, .slice none 0 0] 0 2 2 []] (w.heap.size + 1) W [25] (fun _ _ => False) _ mixedOrders2 (by omega) (Below.refl _ _) (KeptV.refl _ _ _) rfl (by kernel_rfl) (by kernel_rfl) (by kernel_rfl) (by kernel_rfl) (by kernel_rfl) (by kernel_rfl) (by kernel_rfl) (by kernel_rfl) rfl (by simp [oldsF]) ?_ ?_ ?_ ?_
  · simp only [StableF, and_true]
    exact ⟨fun u V V' h k => h.kept k (by decide), fun u V V' h k => h.kept k (by decide)⟩
  · simp only [OldsF, and_true]
    exact ⟨Nat.le_refl _, by omega, P_r0.out.blk, by simp⟩
  · simp (maxSteps := 4000000) [StepsF, DepF, freeAct, fill, pairs]
    repeat' (first | apply And.intro | (intro (u : Value)) | (intro (u : Nat)))
    all_goals try exact ⟨_, _, _, rfl, rfl, rfl, rfl, intInfo⟩
    all_goals first
    | (intro V hV hK
       have px := V_x.out.pair.blk.below hV (Nat.lt_succ_self _)
       obtain ⟨-, a_x, b_x, -, -⟩ := (Pair.mk px).facts
       clear hV hK px
       go_simp
       first
       | exact Below.refl _ _
       | ((with_reducible refine (eof 0 n0 H0.out (by decide) (by decide) V).mono ?_); rintro e w' ⟨v, rfl, hv, hb⟩; exact ⟨hv.base (Nat.zero_le _), hb⟩))
    | (intro V hV hK hu
       obtain ⟨A', c', rfl, hr⟩ := hu.raw
       have r2 := Hd hr
       have rx := Hd (RW_x.out.below (HBW.out.trans (hV.mono (by omega))))
       have hvs : w.heap.size ≤ V.heap.size := by have := hK.size; omega
       clear hV hK hu hr
       go_simp
       (with_reducible refine (eminus n0 x z A' A c' c V r2.out rx.out (by omega) (by omega) HZ.out).mono ?_)
       rintro e w' ⟨v, rfl, hv, hb⟩
       exact ⟨hv.base hvs, hb⟩)
    | exact fun _ _ _ (h : IntOwn _ _ _ _) => h.cells
  · simp [EndF, FactsF, freeAct, fill, pairs]
    intro u1 u2 V hV hK h1 h2 bq _ _ _
    obtain ⟨A2, c2, rfl, -⟩ := h2.raw
    simp [setAll, Value.cells] at bq
    have k0 := bq.cell 0
    have k1 := bq.cell 1
    simp at k0 k1
    have HO := Hd h2
    have HB := Hd (HBW.out.trans (hV.mono (by omega)))
    clear h1 h2 hV hK bq
    go_wp2_with fail
    exact bodyPost_ret (by simp [results, Tryz.results76, go_sem, k0, k1]) rfl ⟨_, rfl, HO.out, HB.out⟩
end Go.Proofs.YtmcnmoljliggfaaGreatDoor
