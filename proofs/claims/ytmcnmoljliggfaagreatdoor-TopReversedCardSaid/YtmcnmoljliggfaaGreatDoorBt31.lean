/- Several texts in one: RowM, BenchM, RayE, Chain2, RayM. -/
import Derived.Test.YtmcnmoljliggfaaGreatDoorBt30
set_option maxRecDepth 100000
set_option maxHeartbeats 8000000
/- row.Matrix. (Written by wip/top/genrowm.py.) -/
namespace Go.Proofs.YtmcnmoljliggfaaGreatDoor
open Go.RowKit

structure I8 where
  n1 : Int
  d1 : Int
  n2 : Int
  d2 : Int
  n3 : Int
  d3 : Int
  n4 : Int
  d4 : Int
def MatIn8 (w : World) (v : Value) (m : I8) : Prop := MatIn w v (m).n1 (m).d1 (m).n2 (m).d2 (m).n3 (m).d3 (m).n4 (m).d4
def MatAt8 (w : World) (v : Value) (m : I8) : Prop := MatAt w v (m).n1 (m).d1 (m).n2 (m).d2 (m).n3 (m).d3 (m).n4 (m).d4
def Ret8 (w : World) (m : I8) (e : Ending) (w' : World) : Prop := RetMatIn w (m).n1 (m).d1 (m).n2 (m).d2 (m).n3 (m).d3 (m).n4 (m).d4 e w'
def MO8 (w : World) (g : Nat) (m : I8) : Prop := MO w g 38 (m).n1 (m).d1 (m).n2 (m).d2 (m).n3 (m).d3 (m).n4 (m).d4

theorem row_Matrix (l : List ERaw) (M E : Nat → I8) (A : Option Addr) (c : Nat) (hl : l.length ≤ 9223372036854775807) (w : World) (h : Reads w w.heap.size 9 A l.length (cellsEL l))
    (C0 : ∀ V : World, Calls Tryz.prog 62 #[] V (Ret8 V (M 0)))
    (C1 : ∀ i (hi : i < l.length), ∀ V, Below w.heap.size w V → Calls Tryz.prog 53 #[l[i].val] V (Ret8 V (E i)))
    (C2 : ∀ i, i < l.length → ∀ (V : World) (v1 v2 : Value), MatAt8 V v1 (E i) → MatAt8 V v2 (M i) → Calls Tryz.prog 63 #[v1, v2] V (Ret8 V (M (i + 1)))) :
    Calls Tryz.prog 29 #[.slice A l.length c] w (Ret8 w (M l.length)) := by
  obtain ⟨mz, hmz⟩ : ∃ z, z = M l.length := ⟨_, rfl⟩
  rw [← hmz]
  obtain ⟨n1, d1, n2, d2, n3, d3, n4, d4⟩ := mz
  have HZ := Hd hmz
  have HR := Hd h
  have H0 := Hd C0
  have H1 := Hd C1
  have H2 := Hd C2
  clear h C0 C1 C2 hmz
  show Calls Tryz.prog 29 #[.slice A l.length c] w (RetMatIn w n1 d1 n2 d2 n3 d3 n4 d4)
  go_enter Tryz.func29, Tryz.ntmps29
  go_upto_region 1 with fail
  refine boxes1 (P := fun W => Code.wp _ _ _ _ W) fun W p0 b0 => ?_
  have PR := Hd (Hex.mk p0)
  have HB := Hd b0
  clear p0 b0
  go_wp2_with fail
  refine (H0.out W).mono ?_
  rintro e w1 ⟨v, rfl, hI, hb⟩
  obtain ⟨A0, c0, A1, c1, A2, c2, A3, c3, A4, c4, A5, c5, A6, c6, A7, c7, rfl, -⟩ := hI.form
  have PR := Hd (PR.out.below hb)
  have HB := Hd (belowTo HB.out hb)
  clear hb
  go_upto_region 2 with fail
  refine boxes1 (P := fun W => Code.wp _ _ _ _ W) fun W2 hq ha => ?_
  obtain ⟨b, hbq⟩ : ∃ q, q = w1.heap.size := ⟨_, rfl⟩
  have hlt : w.heap.size < b := by
    have := PR.out.blk.lt
    omega
  have hI2 := hI.below ha
  rw [← hbq] at hq ⊢
  have MV0 := Hd (show MO8 W2 b (M 0) from ⟨A0, c0, A1, c1, A2, c2, A3, c3, A4, c4, A5, c5, A6, c6, A7, c7, ⟨hq⟩, hI2⟩)
  have PR := Hd (PR.out.below ha)
  have HB := Hd (belowTo HB.out ha)
  clear hI hI2 hq ha hbq
  go_wp2_with fail
  go_loopw [9] (fun s wr => ∃ i : Nat, s = .int .i64 i ∧ i ≤ l.length ∧ Hid (MO8 wr b (M i)) ∧ Hid (Hex wr w.heap.size 38 (.bool false) (.slice none 0 0) (.bool false) (.slice none 0 0) (.bool false) (.slice none 0 0) (.bool false) (.slice none 0 0) (.bool false) (.slice none 0 0) (.bool false) (.slice none 0 0) (.bool false) (.slice none 0 0) (.bool false) (.slice none 0 0)) ∧ Below w.heap.size w wr) (fun s _ => l.length - (intOf s).toNat)
  case atStart => exact ⟨0, rfl, Nat.zero_le _, MV0, PR, HB.out⟩
  case round =>
    obtain ⟨i, rfl, hi, hM, hP, hb⟩ := hrel
    clear MV0 PR HB
    have HB := Hd hb
    clear hb
    by_cases hlt2 : i < l.length
    · have a0 : (0 : Int) ≤ (i : Int) := by omega
      have a1 : (i : Int) < (l.length : Int) := by omega
      obtain ⟨e0, e1, e2, e3, e4, e5, e6, e7, e8⟩ := cellsEL_get l i hlt2
      obtain ⟨ad, rfl, hbl, c0, c1, c2, c3, c4, c5, c6, c7, c8⟩ := (HR.out.below HB.out).row9 hlt2 e0 e1 e2 e3 e4 e5 e6 e7 e8
      clear e0 e1 e2 e3 e4 e5 e6 e7 e8 hbl
      have hbW : b < wr.heap.size := by
        obtain ⟨A0, c0, A1, c1, A2, c2, A3, c3, A4, c4, A5, c5, A6, c6, A7, c7, hx, -⟩ := hM.out.form
        exact hx.blk.lt
      go_upto_region 5 with fail
      refine boxes1 (P := fun W => Code.wp _ _ _ _ W) fun W5 hq ha => ?_
      have hM := Hd (hM.out.below ha)
      have hP := Hd (hP.out.below ha)
      obtain ⟨b5, hb5⟩ : ∃ q, q = wr.heap.size := ⟨_, rfl⟩
      rw [← hb5] at hq ⊢
      have HX := Hd (Nine.mk hq)
      have hne : b5 ≠ b := by omega
      have HB := Hd (belowTo HB.out ha)
      clear hq ha hb5 hbW c0 c1 c2 c3 c4 c5 c6 c7 c8
      obtain ⟨A0, c0, A1, c1, A2, c2, A3, c3, A4, c4, A5, c5, A6, c6, A7, c7, hx, hm⟩ := hM.out.form
      have hb9 := hx.blk.lt
      go_wp2_with fail
      refine wp_region_free [.val (.agg #[.int .u8 l[i].kind, .bool l[i].p.n1, .slice l[i].p.A l[i].p.xs.length l[i].p.c, .bool l[i].p.n2, .slice l[i].p.B l[i].p.ys.length l[i].p.e, .bool l[i].q.n1, .slice l[i].q.A l[i].q.xs.length l[i].q.c, .bool l[i].q.n2, .slice l[i].q.B l[i].q.ys.length l[i].q.e]) [999], .any false (fun u V => MatIn8 V u (E i)) [], .val (.agg #[.bool (decide ((M i).n1 < 0)), .slice A0 (natL (M i).n1.natAbs).length c0, .bool (decide ((M i).d1 < 0)), .slice A1 (natL (M i).d1.natAbs).length c1, .bool (decide ((M i).n2 < 0)), .slice A2 (natL (M i).n2.natAbs).length c2, .bool (decide ((M i).d2 < 0)), .slice A3 (natL (M i).d2.natAbs).length c3, .bool (decide ((M i).n3 < 0)), .slice A4 (natL (M i).n3.natAbs).length c4, .bool (decide ((M i).d3 < 0)), .slice A5 (natL (M i).d3.natAbs).length c5, .bool (decide ((M i).n4 < 0)), .slice A6 (natL (M i).n4.natAbs).length c6, .bool (decide ((M i).d4 < 0)), .slice A7 (natL (M i).d4.natAbs).length c7]) [1004], .any false (fun u V => MatIn8 V u (M (i + 1))) [1], .old b 38 #[.bool (decide ((M i).n1 < 0)), .slice A0 (natL (M i).n1.natAbs).length c0, .bool (decide ((M i).d1 < 0)), .slice A1 (natL (M i).d1.natAbs).length c1, .bool (decide ((M i).n2 < 0)), .slice A2 (natL (M i).n2.natAbs).length c2, .bool (decide ((M i).d2 < 0)), .slice A3 (natL (M i).d2.natAbs).length c3, .bool (decide ((M i).n3 < 0)), .slice A4 (natL (M i).n3.natAbs).length c4, .bool (decide ((M i).d3 < 0)), .slice A5 (natL (M i).d3.natAbs).length c5, .bool (decide ((M i).n4 < 0)), .slice A6 (natL (M i).n4.natAbs).length c6, .bool (decide ((M i).d4 < 0)), .slice A7 (natL (M i).d4.natAbs).length c7] 0 16 3 []] (w.heap.size + 1) W5 [38] (fun _ _ => False) _ mixedOrders2 (by omega) (Below.refl _ _) (KeptV.refl _ _ _) rfl (by kernel_rfl) (by kernel_rfl) (by kernel_rfl) (by kernel_rfl) (by kernel_rfl) (by kernel_rfl) (by kernel_rfl) (by kernel_rfl) rfl (by simp [oldsF]) ?_ ?_ ?_ ?_
      · simp only [StableF, and_true]
        exact ⟨fun u V V' h k => MatIn.kept h k (by decide), fun u V V' h k => MatIn.kept h k (by decide)⟩
      · simp only [OldsF, and_true]
        exact ⟨by omega, hx.blk.lt, hx.blk, by simp⟩
      · simp (maxSteps := 4000000) [StepsF, DepF, oldsF, freeAct, fill, pairs]
        repeat' (first | apply And.intro | (intro (u : Value)) | (intro (u : Nat)))
        all_goals try exact ⟨_, _, _, rfl, rfl, rfl, rfl, matInfo⟩
        all_goals first
        | (intro V hV hK
           have hvb := HB.out.trans (hV.mono (by omega))
           have C := H1.out i hlt2 V hvb
           unfold ERaw.val at C
           clear hV hK
           go_simp
           refine C.mono ?_
           rintro e w' ⟨v, rfl, hv, hb⟩
           exact ⟨hv, hb⟩)
        | (intro V hV hK ho
           have hx5 : Nine V b5 65 _ _ _ _ _ _ _ _ _ := ⟨(ho b5 HX.out.blk.lt hne).trans HX.out.blk⟩
           obtain ⟨-, x0, x1, x2, x3, x4, x5, x6, x7, x8⟩ := hx5.facts
           clear hV hK ho hx5
           go_simp
           exact Below.refl _ _)
        | (intro V hV hK ho
           have hx5 := Hex.mk ho
           obtain ⟨-, x0, x1, x2, x3, x4, x5, x6, x7, x8, x9, x10, x11, x12, x13, x14, x15⟩ := hx5.facts
           clear hV hK ho hx5
           go_simp
           exact Below.refl _ _)
        | (intro V hV hK h1
           have C := H2.out i hlt2 V _ _ (MatIn.at_ h1) (MatIn.at_ (MatIn.kept hm hK (by decide)))
           clear hV hK
           go_simp
           refine C.mono ?_
           rintro e w' ⟨v, rfl, hv, hb⟩
           exact ⟨hv, hb⟩)
        | exact fun _ _ _ h => MatIn.cells h
      · simp [EndF, FactsF, freeAct, fill, pairs]
        intro u1 u2 V hV hK h1 h2 bq _ _ _
        have h3 := h2
        obtain ⟨B0, e0, B1, e1, B2, e2, B3, e3, B4, e4, B5, e5, B6, e6, B7, e7, rfl, -⟩ := h2.form
        simp [setAll, Value.cells] at bq
        have MV9 := Hd (show MO8 V b (M (i + 1)) from ⟨B0, e0, B1, e1, B2, e2, B3, e3, B4, e4, B5, e5, B6, e6, B7, e7, ⟨bq⟩, h3⟩)
        have PR9 := Hd (show Hex V w.heap.size 38 (.bool false) (.slice none 0 0) (.bool false) (.slice none 0 0) (.bool false) (.slice none 0 0) (.bool false) (.slice none 0 0) (.bool false) (.slice none 0 0) (.bool false) (.slice none 0 0) (.bool false) (.slice none 0 0) (.bool false) (.slice none 0 0) from ⟨hP.out.blk.below hV (by omega)⟩)
        have HB9 := HB.out.trans (hV.mono (by omega))
        clear bq h1 h2 h3 hV hK
        go_wp2_with fail
        go_roundw
        case rel => exact ⟨i + 1, by go_num, hlt2, MV9, PR9, HB9⟩
        case measure => simp [intOf]; omega
    · have e9 : i = l.length := by omega
      have hM := Hd (show MO8 wr b (M l.length) from e9 ▸ hM.out)
      rw [← HZ.out] at hM
      obtain ⟨A0, c0, A1, c1, A2, c2, A3, c3, A4, c4, A5, c5, A6, c6, A7, c7, hx, hm⟩ := hM.out.form
      clear hM e9
      dsimp only at hx hm
      have hne : b ≠ w.heap.size := by omega
      have HX := Hd hx
      have HMM := Hd hm
      clear hx hm
      go_wp2_with (first | (refine wpList_load_M rfl _ (by rfl) _ (by rfl) _ _ HX.out.blk rfl ?_) | (refine wpList_store_M rfl _ _ (by rfl) (by rfl) _ _ _ (by rfl) (by rfl) hP.out.blk rfl HMM.out.cells ?_; intro w9 hput))
      have HF := Hd (HMM.out.kept (hput.kept _ (Nat.le_refl _)) (by decide))
      have HB9 := Hd (hput.below HB.out (Nat.le_refl _))
      have k9 := hput.blk
      simp [Value.cells] at k9
      refine bodyPost_ret (results_cell_row rfl _ _ w.heap.size _ _ _ _ (by rfl) k9 Tryz.underlying38 rfl matInfo) rfl ⟨_, rfl, HF.out, HB9.out⟩
/- bench.told, bench.Matrix. (Written by wip/top/genbenchm.py.) -/


theorem told_m_false {n1 d1 n2 d2 n3 d3 n4 d4 : Int} (hl : longZ [(n1, d1), (n2, d2), (n3, d3), (n4, d4)] = false) (w : World) (v u : Value) (hv : MatIn w v n1 d1 n2 d2 n3 d3 n4 d4) (hu : FA w u [(n1, d1), (n2, d2), (n3, d3), (n4, d4)]) :
    Calls Tryz.prog 30 #[v, u] w (RetMatIn2 w n1 d1 n2 d2 n3 d3 n4 d4 0) := by
  obtain ⟨A0, c0, A1, c1, A2, c2, A3, c3, A4, c4, A5, c5, A6, c6, A7, c7, rfl, -⟩ := hv.form
  obtain ⟨g9, c9, cs9, l9, rfl, -⟩ := hu.form
  have HV := Hd hv
  have HU := Hd hu
  have HL := Hd hl
  clear hv hu hl
  go_enter Tryz.func30, Tryz.ntmps30
  go_upto_region 1 with fail
  refine boxes2 (P := fun W => Code.wp _ _ _ _ W) fun W p0 p1 b0 => ?_
  have PX := Hd (Hex.mk p0)
  have PR := Hd (Hex.mk p1)
  have HB := Hd b0
  have HV := Hd (HV.out.below b0)
  have HU := Hd (HU.out.below b0)
  clear p0 p1 b0
  have C := HU.out.long
  rw [HL.out] at C
  have H1 := Hd C
  clear C
  go_wp2_with fail
  refine H1.out.mono ?_
  rintro e w1 ⟨rfl, hb⟩
  have PX := Hd (PX.out.below hb)
  have PR := Hd (PR.out.below hb)
  have HV := Hd (HV.out.below hb)
  have HB := Hd (belowTo HB.out hb)
  clear hb
  go_wp2_with (first | (refine wpList_load_M rfl _ (by rfl) _ (by rfl) _ _ PX.out.blk rfl ?_) | (refine wpList_store_M rfl _ _ (by rfl) (by rfl) _ _ _ (by rfl) (by rfl) PR.out.blk rfl HV.out.cells ?_; intro w9 hput))
  have HF := Hd (HV.out.kept (hput.kept _ (Nat.le_refl _)) (by decide))
  have HB9 := Hd (hput.below HB.out (by omega))
  have k9 := hput.blk
  simp [Value.cells] at k9
  exact bodyPost_ret (results_two rfl _ _ (w.heap.size + 1) _ _ _ _ _ (by rfl) k9 Tryz.underlying38 rfl matInfo (by rfl)) rfl ⟨_, rfl, HF.out, HB9.out⟩

theorem told_m_true {n1 d1 n2 d2 n3 d3 n4 d4 : Int} (hl : longZ [(n1, d1), (n2, d2), (n3, d3), (n4, d4)] = true) (w : World) (v u : Value) (hv : MatIn w v n1 d1 n2 d2 n3 d3 n4 d4) (hu : FA w u [(n1, d1), (n2, d2), (n3, d3), (n4, d4)]) :
    Calls Tryz.prog 30 #[v, u] w (RetMatIn2 w 0 0 0 0 0 0 0 0 4) := by
  obtain ⟨A0, c0, A1, c1, A2, c2, A3, c3, A4, c4, A5, c5, A6, c6, A7, c7, rfl, -⟩ := hv.form
  obtain ⟨g9, c9, cs9, l9, rfl, -⟩ := hu.form
  have HV := Hd hv
  have HU := Hd hu
  have HL := Hd hl
  clear hv hu hl
  go_enter Tryz.func30, Tryz.ntmps30
  go_upto_region 1 with fail
  refine boxes2 (P := fun W => Code.wp _ _ _ _ W) fun W p0 p1 b0 => ?_
  have PX := Hd (Hex.mk p0)
  have PR := Hd (Hex.mk p1)
  have HB := Hd b0
  have HV := Hd (HV.out.below b0)
  have HU := Hd (HU.out.below b0)
  clear p0 p1 b0
  have C := HU.out.long
  rw [HL.out] at C
  have H1 := Hd C
  clear C
  go_wp2_with fail
  refine H1.out.mono ?_
  rintro e w1 ⟨rfl, hb⟩
  have PX := Hd (PX.out.below hb)
  have PR := Hd (PR.out.below hb)
  have HV := Hd (HV.out.below hb)
  have HB := Hd (belowTo HB.out hb)
  clear hb
  go_wp2_with (first | (refine wpList_load_M rfl _ (by rfl) _ (by rfl) _ _ PR.out.blk rfl ?_) | (refine wpList_store_M rfl _ _ (by rfl) (by rfl) _ _ _ (by rfl) (by rfl) PR.out.blk rfl (MatIn.nought w1).cells ?_; intro w9 hput))
  have HF := Hd ((MatIn.nought w1).kept (hput.kept _ (Nat.le_refl _)) (by decide))
  have HB9 := Hd (hput.below HB.out (by omega))
  have k9 := hput.blk
  simp [Value.cells] at k9
  exact bodyPost_ret (results_two rfl _ _ (w.heap.size + 1) _ _ _ _ _ (by rfl) k9 Tryz.underlying38 rfl matInfo (by rfl)) rfl ⟨_, rfl, HF.out, HB9.out⟩

theorem bmatrix_bad (l : List ERaw) (A : Option Addr) (c : Nat) (k : Int) (hk : k ≠ 0) (w : World)
    (C1 : ∀ V, Below w.heap.size w V → Calls Tryz.prog 28 #[.slice A l.length c] V fun e w' => e = .returned (.int .i64 k) ∧ Below V.heap.size V w') :
    Calls Tryz.prog 11 #[.slice A l.length c] w (RetMatIn2 w 0 0 0 0 0 0 0 0 k) := by
  have H1 := Hd C1
  clear C1
  go_enter Tryz.func11, Tryz.ntmps11
  go_upto_region 1 with fail
  refine boxes1 (P := fun W => Code.wp _ _ _ _ W) fun W p0 b0 => ?_
  have PR := Hd (Hex.mk p0)
  have HB := Hd b0
  clear p0 b0
  go_wp2_with fail
  refine (H1.out W HB.out).mono ?_
  rintro e w1 ⟨rfl, hb⟩
  have PR := Hd (PR.out.below hb)
  have HB := Hd (belowTo HB.out hb)
  clear hb
  go_wp2_with (refine wpList_store_M rfl _ _ (by rfl) (by rfl) _ (.agg #[.bool false, .slice none 0 0, .bool false, .slice none 0 0, .bool false, .slice none 0 0, .bool false, .slice none 0 0, .bool false, .slice none 0 0, .bool false, .slice none 0 0, .bool false, .slice none 0 0, .bool false, .slice none 0 0]) _ (by rfl) (by rfl) PR.out.blk rfl (MatIn.nought w1).cells ?_; intro w9 hput)
  have HB9 := Hd (hput.below HB.out (Nat.le_refl _))
  have k9 := hput.blk
  simp [Value.cells] at k9
  exact bodyPost_ret (results_two rfl _ _ w.heap.size _ _ _ _ _ (by rfl) k9 Tryz.underlying38 rfl matInfo (by rfl)) rfl ⟨_, rfl, MatIn.nought _, HB9.out⟩

theorem bmatrix_false (l : List ERaw) (A : Option Addr) (c : Nat) {n1 d1 n2 d2 n3 d3 n4 d4 : Int} (hl : longZ [(n1, d1), (n2, d2), (n3, d3), (n4, d4)] = false) (w : World)
    (C1 : ∀ V, Below w.heap.size w V → Calls Tryz.prog 28 #[.slice A l.length c] V fun e w' => e = .returned (.int .i64 0) ∧ Below V.heap.size V w')
    (C2 : ∀ V, Below w.heap.size w V → Calls Tryz.prog 29 #[.slice A l.length c] V (RetMatIn V n1 d1 n2 d2 n3 d3 n4 d4)) :
    Calls Tryz.prog 11 #[.slice A l.length c] w (RetMatIn2 w n1 d1 n2 d2 n3 d3 n4 d4 0) := by
  have H1 := Hd C1
  have H2 := Hd C2
  have HL := Hd hl
  clear C1 C2 hl
  go_enter Tryz.func11, Tryz.ntmps11
  go_upto_region 1 with fail
  refine boxes1 (P := fun W => Code.wp _ _ _ _ W) fun W p0 b0 => ?_
  have PR := Hd (Hex.mk p0)
  have HB := Hd b0
  clear p0 b0
  go_wp2_with fail
  refine (H1.out W HB.out).mono ?_
  rintro e w1 ⟨rfl, hb⟩
  have PR := Hd (PR.out.below hb)
  have HB := Hd (belowTo HB.out hb)
  clear hb
  go_wp2_with fail
  refine (H2.out w1 HB.out).mono ?_
  rintro e w2 ⟨v, rfl, hv, hb⟩
  obtain ⟨A0, c0, A1, c1, A2, c2, A3, c3, A4, c4, A5, c5, A6, c6, A7, c7, rfl, -⟩ := hv.form
  have PR := Hd (PR.out.below hb)
  have HB := Hd (belowTo HB.out hb)
  clear hb
  have pz := PR.out.blk.lt
  go_upto_region 5 with (refine wpList_store_N rfl 38 _ _ (by rfl) (by rfl) _ _ _ 16 (by rfl) (by rfl) (Blk.new w2 _ _) rfl hv.cells matInfo ?_; intro w3 hput)
  have hb := hput.below ((Below.refl w2.heap.size w2).alloc (Nat.le_refl _) _) (Nat.le_refl _)
  have hq := hput.blk
  simp [Value.cells] at hq
  have PX := Hd (Hex.mk hq)
  have PR := Hd (PR.out.below hb)
  have HV := Hd (hv.below hb)
  have HB := Hd (belowTo HB.out hb)
  clear hput hb hq hv pz
  obtain ⟨-, x0, x1, x2, x3, x4, x5, x6, x7, x8, x9, x10, x11, x12, x13, x14, x15⟩ := PX.out.facts
  go_wp2_with (refine wpList_load_M rfl _ (by rfl) _ (by rfl) _ _ PX.out.blk rfl ?_)
  refine boxes1 (P := fun V => Calls _ _ _ V _) fun V1 hq ha => ?_
  have gm := (HV.out.below ha).at_
  have hfa : FA V1 (.slice (some ⟨w3.heap.size, 0, none⟩) 4 4) [(n1, d1), (n2, d2), (n3, d3), (n4, d4)] := ⟨_, 4, _, [⟨_, A0, _, c0, _, A1, _, c1⟩, ⟨_, A2, _, c2, _, A3, _, c3⟩, ⟨_, A4, _, c4, _, A5, _, c5⟩, ⟨_, A6, _, c6, _, A7, _, c7⟩], rfl, hq, List.prefix_refl _, ⟨gm.fa, gm.fb, gm.fc, gm.fd, trivial⟩, by simp⟩
  refine (told_m_false HL.out V1 _ _ (HV.out.below ha) hfa).mono ?_
  rintro e w4 ⟨v, rfl, hv, hc⟩
  have PR := Hd ((PR.out.below ha).below hc)
  have HB := Hd (belowTo (belowTo HB.out ha) hc)
  obtain ⟨B0, e0, B1, e1, B2, e2, B3, e3, B4, e4, B5, e5, B6, e6, B7, e7, rfl, -⟩ := hv.form
  have HV := Hd hv
  clear hv hq ha hc gm hfa x0 x1 x2 x3 x4 x5 x6 x7 x8 x9 x10 x11 x12 x13 x14 x15
  go_wp2_with (refine wpList_store_M rfl _ _ (by rfl) (by rfl) _ _ _ (by rfl) (by rfl) PR.out.blk rfl HV.out.cells ?_; intro w9 hput)
  have HF := Hd (HV.out.kept (hput.kept _ (Nat.le_refl _)) (by decide))
  have HB9 := Hd (hput.below HB.out (Nat.le_refl _))
  have k9 := hput.blk
  simp [Value.cells] at k9
  exact bodyPost_ret (results_two rfl _ _ w.heap.size _ _ _ _ _ (by rfl) k9 Tryz.underlying38 rfl matInfo (by rfl)) rfl ⟨_, rfl, HF.out, HB9.out⟩

theorem bmatrix_true (l : List ERaw) (A : Option Addr) (c : Nat) {n1 d1 n2 d2 n3 d3 n4 d4 : Int} (hl : longZ [(n1, d1), (n2, d2), (n3, d3), (n4, d4)] = true) (w : World)
    (C1 : ∀ V, Below w.heap.size w V → Calls Tryz.prog 28 #[.slice A l.length c] V fun e w' => e = .returned (.int .i64 0) ∧ Below V.heap.size V w')
    (C2 : ∀ V, Below w.heap.size w V → Calls Tryz.prog 29 #[.slice A l.length c] V (RetMatIn V n1 d1 n2 d2 n3 d3 n4 d4)) :
    Calls Tryz.prog 11 #[.slice A l.length c] w (RetMatIn2 w 0 0 0 0 0 0 0 0 4) := by
  have H1 := Hd C1
  have H2 := Hd C2
  have HL := Hd hl
  clear C1 C2 hl
  go_enter Tryz.func11, Tryz.ntmps11
  go_upto_region 1 with fail
  refine boxes1 (P := fun W => Code.wp _ _ _ _ W) fun W p0 b0 => ?_
  have PR := Hd (Hex.mk p0)
  have HB := Hd b0
  clear p0 b0
  go_wp2_with fail
  refine (H1.out W HB.out).mono ?_
  rintro e w1 ⟨rfl, hb⟩
  have PR := Hd (PR.out.below hb)
  have HB := Hd (belowTo HB.out hb)
  clear hb
  go_wp2_with fail
  refine (H2.out w1 HB.out).mono ?_
  rintro e w2 ⟨v, rfl, hv, hb⟩
  obtain ⟨A0, c0, A1, c1, A2, c2, A3, c3, A4, c4, A5, c5, A6, c6, A7, c7, rfl, -⟩ := hv.form
  have PR := Hd (PR.out.below hb)
  have HB := Hd (belowTo HB.out hb)
  clear hb
  have pz := PR.out.blk.lt
  go_upto_region 5 with (refine wpList_store_N rfl 38 _ _ (by rfl) (by rfl) _ _ _ 16 (by rfl) (by rfl) (Blk.new w2 _ _) rfl hv.cells matInfo ?_; intro w3 hput)
  have hb := hput.below ((Below.refl w2.heap.size w2).alloc (Nat.le_refl _) _) (Nat.le_refl _)
  have hq := hput.blk
  simp [Value.cells] at hq
  have PX := Hd (Hex.mk hq)
  have PR := Hd (PR.out.below hb)
  have HV := Hd (hv.below hb)
  have HB := Hd (belowTo HB.out hb)
  clear hput hb hq hv pz
  obtain ⟨-, x0, x1, x2, x3, x4, x5, x6, x7, x8, x9, x10, x11, x12, x13, x14, x15⟩ := PX.out.facts
  go_wp2_with (refine wpList_load_M rfl _ (by rfl) _ (by rfl) _ _ PX.out.blk rfl ?_)
  refine boxes1 (P := fun V => Calls _ _ _ V _) fun V1 hq ha => ?_
  have gm := (HV.out.below ha).at_
  have hfa : FA V1 (.slice (some ⟨w3.heap.size, 0, none⟩) 4 4) [(n1, d1), (n2, d2), (n3, d3), (n4, d4)] := ⟨_, 4, _, [⟨_, A0, _, c0, _, A1, _, c1⟩, ⟨_, A2, _, c2, _, A3, _, c3⟩, ⟨_, A4, _, c4, _, A5, _, c5⟩, ⟨_, A6, _, c6, _, A7, _, c7⟩], rfl, hq, List.prefix_refl _, ⟨gm.fa, gm.fb, gm.fc, gm.fd, trivial⟩, by simp⟩
  refine (told_m_true HL.out V1 _ _ (HV.out.below ha) hfa).mono ?_
  rintro e w4 ⟨v, rfl, hv, hc⟩
  have PR := Hd ((PR.out.below ha).below hc)
  have HB := Hd (belowTo (belowTo HB.out ha) hc)
  obtain ⟨B0, e0, B1, e1, B2, e2, B3, e3, B4, e4, B5, e5, B6, e6, B7, e7, rfl, -⟩ := hv.form
  have HV := Hd hv
  clear hv hq ha hc gm hfa x0 x1 x2 x3 x4 x5 x6 x7 x8 x9 x10 x11 x12 x13 x14 x15
  go_wp2_with (refine wpList_store_M rfl _ _ (by rfl) (by rfl) _ _ _ (by rfl) (by rfl) PR.out.blk rfl HV.out.cells ?_; intro w9 hput)
  have HF := Hd (HV.out.kept (hput.kept _ (Nat.le_refl _)) (by decide))
  have HB9 := Hd (hput.below HB.out (Nat.le_refl _))
  have k9 := hput.blk
  simp [Value.cells] at k9
  exact bodyPost_ret (results_two rfl _ _ w.heap.size _ _ _ _ _ (by rfl) k9 Tryz.underlying38 rfl matInfo (by rfl)) rfl ⟨_, rfl, HF.out, HB9.out⟩
/- Package ray: Mul, Back, Through, Cross. (Written by wip/top/genraye.py.) -/

abbrev ChkM (n1 d1 n2 d2 n3 d3 n4 d4 : Int) : Prop := ∀ (V : World) (v : Value), MatAt V v n1 d1 n2 d2 n3 d3 n4 d4 → Calls Tryz.prog 17 #[v] V fun e w' => e = .returned (.int .i64 0) ∧ Below V.heap.size V w'

theorem rthrough_false {n1 d1 n2 d2 n3 d3 n4 d4 m1 f1 m2 f2 N1 D1 N2 D2 : Int} (hl : longZ [(N1, D1), (N2, D2)] = false) (CH_m : ChkM n1 d1 n2 d2 n3 d3 n4 d4) (F_r0 : Fine m1 f1) (F_r1 : Fine m2 f2)  (CC : ∀ (V : World) (b0 b1 : Nat) (Am1 Am2 Am3 Am4 Am5 Am6 Am7 Am8 : Option Addr) (cm1 cm2 cm3 cm4 cm5 cm6 cm7 cm8 : Nat) (Ar1 Ar2 Ar3 Ar4 : Option Addr) (cr1 cr2 cr3 cr4 : Nat), Hex V b0 38 (.bool (decide (n1 < 0))) (.slice Am1 (natL n1.natAbs).length cm1) (.bool (decide (d1 < 0))) (.slice Am2 (natL d1.natAbs).length cm2) (.bool (decide (n2 < 0))) (.slice Am3 (natL n2.natAbs).length cm3) (.bool (decide (d2 < 0))) (.slice Am4 (natL d2.natAbs).length cm4) (.bool (decide (n3 < 0))) (.slice Am5 (natL n3.natAbs).length cm5) (.bool (decide (d3 < 0))) (.slice Am6 (natL d3.natAbs).length cm6) (.bool (decide (n4 < 0))) (.slice Am7 (natL n4.natAbs).length cm7) (.bool (decide (d4 < 0))) (.slice Am8 (natL d4.natAbs).length cm8) → MatAt V (.agg #[.bool (decide (n1 < 0)), .slice Am1 (natL n1.natAbs).length cm1, .bool (decide (d1 < 0)), .slice Am2 (natL d1.natAbs).length cm2, .bool (decide (n2 < 0)), .slice Am3 (natL n2.natAbs).length cm3, .bool (decide (d2 < 0)), .slice Am4 (natL d2.natAbs).length cm4, .bool (decide (n3 < 0)), .slice Am5 (natL n3.natAbs).length cm5, .bool (decide (d3 < 0)), .slice Am6 (natL d3.natAbs).length cm6, .bool (decide (n4 < 0)), .slice Am7 (natL n4.natAbs).length cm7, .bool (decide (d4 < 0)), .slice Am8 (natL d4.natAbs).length cm8]) n1 d1 n2 d2 n3 d3 n4 d4 → Oct V b1 29 (.bool (decide (m1 < 0))) (.slice Ar1 (natL m1.natAbs).length cr1) (.bool (decide (f1 < 0))) (.slice Ar2 (natL f1.natAbs).length cr2) (.bool (decide (m2 < 0))) (.slice Ar3 (natL m2.natAbs).length cr3) (.bool (decide (f2 < 0))) (.slice Ar4 (natL f2.natAbs).length cr4) → GaussAt V (.agg #[.bool (decide (m1 < 0)), .slice Ar1 (natL m1.natAbs).length cr1, .bool (decide (f1 < 0)), .slice Ar2 (natL f1.natAbs).length cr2, .bool (decide (m2 < 0)), .slice Ar3 (natL m2.natAbs).length cr3, .bool (decide (f2 < 0)), .slice Ar4 (natL f2.natAbs).length cr4]) m1 f1 m2 f2 → Calls Tryz.prog 39 #[.pointer (some ⟨b0, 0, none⟩), .pointer (some ⟨b1, 0, none⟩)] V (RetFL V [(N1, D1), (N2, D2)])) (w : World) (v_m : Value) (g_m : MatAt w v_m n1 d1 n2 d2 n3 d3 n4 d4) (v_r : Value) (g_r : GaussAt w v_r m1 f1 m2 f2) :
    Calls Tryz.prog 15 #[v_m, v_r] w (RetGaussIn2 w N1 D1 N2 D2 0) := by
  have hmf : ∀ (fn : Fn) (first cap : Array Value) (w : World), (Instr.makeFunc fn first cap).run Tryz.prog w = .ok (.func fn first cap) w := fun _ _ _ _ => rfl
  obtain ⟨Am1, cm1, Am2, cm2, Am3, cm3, Am4, cm4, Am5, cm5, Am6, cm6, Am7, cm7, Am8, cm8, rfl, -⟩ := g_m.form
  have G_m := Hd g_m
  clear g_m
  obtain ⟨Ar1, cr1, Ar2, cr2, Ar3, cr3, Ar4, cr4, rfl, -⟩ := g_r.form
  have G_r := Hd g_r
  clear g_r
  have C_m := Hd CH_m
  clear CH_m
  have C_r := Hd (And.intro F_r0 F_r1)
  clear F_r0 F_r1
  have HC := Hd CC
  have HL := Hd hl
  clear CC hl
  go_enter Tryz.func15, Tryz.ntmps15
  go_upto_region 2 with fail
  refine boxes4 (P := fun W => Code.wp _ _ _ _ W) fun W q0 q1 q2 q3 b0 => ?_
  have P_m := Hd (Hex.mk q0)
  have G_m := Hd (G_m.out.below b0)
  have P_r := Hd (Oct.mk q1)
  have G_r := Hd (G_r.out.below b0)
  have PR := Hd (Oct.mk q2)
  have K := Hd (Cell1.mk q3)
  have HB := Hd b0
  clear b0 q0 q1 q2 q3
  go_wp2_with (refine wpList_load_M rfl _ (by rfl) _ (by rfl) _ _ P_m.out.blk rfl ?_)
  refine (kmatrix_w C_m.out W K.out _ G_m.out).mono ?_
  rintro e w0 ⟨rfl, hb⟩
  have P_m := Hd (P_m.out.below hb)
  have G_m := Hd (G_m.out.below hb)
  have P_r := Hd (P_r.out.below hb)
  have G_r := Hd (G_r.out.below hb)
  have PR := Hd (PR.out.below hb)
  have K := Hd (K.out.below hb)
  have HB := Hd (belowTo HB.out hb)
  clear hb
  go_wp2_with (refine wpList_load_row rfl _ _ (by rfl) _ (by rfl) _ _ _ _ P_r.out.blk Tryz.underlying29 rfl rayInfo ?_)
  refine (kray_w C_r.out.1 C_r.out.2 w0 K.out _ G_r.out).mono ?_
  rintro e w1 ⟨rfl, hb⟩
  have P_m := Hd (P_m.out.below hb)
  have G_m := Hd (G_m.out.below hb)
  have P_r := Hd (P_r.out.below hb)
  have G_r := Hd (G_r.out.below hb)
  have PR := Hd (PR.out.below hb)
  have K := Hd (K.out.below hb)
  have HB := Hd (belowTo HB.out hb)
  clear hb
  go_wp2_with (rw [hmf])
  refine (answer_through_false HL.out w1 K.out ((fun V hV => HC.out V _ _ _ _ _ _ _ _ _ _ _ _ _ _ _ _ _ _ _ _ _ _ _ _ _ _ (P_m.out.below hV) (G_m.out.below hV) (P_r.out.below hV) (G_r.out.below hV)) _ (Below.refl _ _))).mono ?_
  rintro e wz ⟨u, rfl, hu, hb⟩
  obtain ⟨g, c, cs, A0, c0, A1, c1, A2, c2, A3, c3, rfl, hr, hm⟩ := hu.two
  have HR := Hd hr
  have HV := Hd hm
  have PR := Hd (PR.out.below hb)
  have HB := Hd (belowTo HB.out hb)
  clear hu hr hm hb
  go_wp2_with fail
  have hlt := PR.out.blk.lt
  refine wp_region_free [.val (.slice (some ⟨g, 0, none⟩) 2 c) [], .val (.pointer (some ⟨g, 0, none⟩)) [], .val (.agg #[.bool (decide (N1 < 0)), .slice A0 (natL N1.natAbs).length c0, .bool (decide (D1 < 0)), .slice A1 (natL D1.natAbs).length c1]) [], .val (.slice (some ⟨g, 0, none⟩) 2 c) [], .val (.pointer (some ⟨g, 4, none⟩)) [], .val (.agg #[.bool (decide (N2 < 0)), .slice A2 (natL N2.natAbs).length c2, .bool (decide (D2 < 0)), .slice A3 (natL D2.natAbs).length c3]) [], .val (.agg #[.bool (decide (N1 < 0)), .slice A0 (natL N1.natAbs).length c0, .bool (decide (D1 < 0)), .slice A1 (natL D1.natAbs).length c1, .bool (decide (N2 < 0)), .slice A2 (natL N2.natAbs).length c2, .bool (decide (D2 < 0)), .slice A3 (natL D2.natAbs).length c3]) [], .old (w.heap.size + 1 + 1) 29 #[.bool false, .slice none 0 0, .bool false, .slice none 0 0, .bool false, .slice none 0 0, .bool false, .slice none 0 0] 0 8 6 [], .val (.int .i64 0) []] (w.heap.size + 1 + 1) wz [29] (fun _ _ => False) _ mixedOrders2 (by omega) (Below.refl _ _) (KeptV.refl _ _ _) rfl (by kernel_rfl) (by kernel_rfl) (by kernel_rfl) (by kernel_rfl) (by kernel_rfl) (by kernel_rfl) (by kernel_rfl) (by kernel_rfl) rfl (by simp [oldsF]) ?_ ?_ ?_ ?_
  · simp only [StableF]
  · simp only [OldsF, and_true]
    exact ⟨Nat.le_refl _, PR.out.blk.lt, PR.out.blk, by simp⟩
  · simp (maxSteps := 4000000) [StepsF, DepF, freeAct, fill, pairs]
    repeat' (first | apply And.intro | (intro (u : Value)) | (intro (u : Nat)))
    all_goals try exact ⟨_, _, _, rfl, rfl, rfl, rfl, rayInfo⟩
    all_goals first
    | (intro V hV hK
       have hr := range_cells (hK.blk HR.out.1 (by decide)) HR.out.2
       have x0 := hr 0 _ rfl
       have x1 := hr 1 _ rfl
       have x2 := hr 2 _ rfl
       have x3 := hr 3 _ rfl
       have x4 := hr 4 _ rfl
       have x5 := hr 5 _ rfl
       have x6 := hr 6 _ rfl
       have x7 := hr 7 _ rfl
       simp at x0 x1 x2 x3 x4 x5 x6 x7
       clear hV hK hr
       go_simp
       exact Below.refl _ _)
    | exact fun _ _ _ => HV.out.cells
    | exact fun _ _ _ _ => HV.out.cells
  · simp [EndF, FactsF, freeAct, fill, pairs]
    intro V hV hK bq _ _ _
    simp [setAll, Value.cells] at bq
    have HB9 := Hd (HB.out.trans (hV.mono (by omega)))
    have HF := Hd (HV.out.kept hK (by decide))
    have k9 := bq
    clear bq hV hK
    go_wp2_with fail
    refine bodyPost_ret (results_two rfl _ _ (w.heap.size + 1 + 1) _ _ _ _ _ (by rfl) k9 Tryz.underlying29 rfl rayInfo (by rfl)) rfl ⟨_, rfl, HF.out, HB9.out⟩

theorem rthrough_true {n1 d1 n2 d2 n3 d3 n4 d4 m1 f1 m2 f2 N1 D1 N2 D2 : Int} (hl : longZ [(N1, D1), (N2, D2)] = true) (CH_m : ChkM n1 d1 n2 d2 n3 d3 n4 d4) (F_r0 : Fine m1 f1) (F_r1 : Fine m2 f2)  (CC : ∀ (V : World) (b0 b1 : Nat) (Am1 Am2 Am3 Am4 Am5 Am6 Am7 Am8 : Option Addr) (cm1 cm2 cm3 cm4 cm5 cm6 cm7 cm8 : Nat) (Ar1 Ar2 Ar3 Ar4 : Option Addr) (cr1 cr2 cr3 cr4 : Nat), Hex V b0 38 (.bool (decide (n1 < 0))) (.slice Am1 (natL n1.natAbs).length cm1) (.bool (decide (d1 < 0))) (.slice Am2 (natL d1.natAbs).length cm2) (.bool (decide (n2 < 0))) (.slice Am3 (natL n2.natAbs).length cm3) (.bool (decide (d2 < 0))) (.slice Am4 (natL d2.natAbs).length cm4) (.bool (decide (n3 < 0))) (.slice Am5 (natL n3.natAbs).length cm5) (.bool (decide (d3 < 0))) (.slice Am6 (natL d3.natAbs).length cm6) (.bool (decide (n4 < 0))) (.slice Am7 (natL n4.natAbs).length cm7) (.bool (decide (d4 < 0))) (.slice Am8 (natL d4.natAbs).length cm8) → MatAt V (.agg #[.bool (decide (n1 < 0)), .slice Am1 (natL n1.natAbs).length cm1, .bool (decide (d1 < 0)), .slice Am2 (natL d1.natAbs).length cm2, .bool (decide (n2 < 0)), .slice Am3 (natL n2.natAbs).length cm3, .bool (decide (d2 < 0)), .slice Am4 (natL d2.natAbs).length cm4, .bool (decide (n3 < 0)), .slice Am5 (natL n3.natAbs).length cm5, .bool (decide (d3 < 0)), .slice Am6 (natL d3.natAbs).length cm6, .bool (decide (n4 < 0)), .slice Am7 (natL n4.natAbs).length cm7, .bool (decide (d4 < 0)), .slice Am8 (natL d4.natAbs).length cm8]) n1 d1 n2 d2 n3 d3 n4 d4 → Oct V b1 29 (.bool (decide (m1 < 0))) (.slice Ar1 (natL m1.natAbs).length cr1) (.bool (decide (f1 < 0))) (.slice Ar2 (natL f1.natAbs).length cr2) (.bool (decide (m2 < 0))) (.slice Ar3 (natL m2.natAbs).length cr3) (.bool (decide (f2 < 0))) (.slice Ar4 (natL f2.natAbs).length cr4) → GaussAt V (.agg #[.bool (decide (m1 < 0)), .slice Ar1 (natL m1.natAbs).length cr1, .bool (decide (f1 < 0)), .slice Ar2 (natL f1.natAbs).length cr2, .bool (decide (m2 < 0)), .slice Ar3 (natL m2.natAbs).length cr3, .bool (decide (f2 < 0)), .slice Ar4 (natL f2.natAbs).length cr4]) m1 f1 m2 f2 → Calls Tryz.prog 39 #[.pointer (some ⟨b0, 0, none⟩), .pointer (some ⟨b1, 0, none⟩)] V (RetFL V [(N1, D1), (N2, D2)])) (w : World) (v_m : Value) (g_m : MatAt w v_m n1 d1 n2 d2 n3 d3 n4 d4) (v_r : Value) (g_r : GaussAt w v_r m1 f1 m2 f2) :
    Calls Tryz.prog 15 #[v_m, v_r] w (RetGaussIn2 w 0 0 0 0 4) := by
  have hmf : ∀ (fn : Fn) (first cap : Array Value) (w : World), (Instr.makeFunc fn first cap).run Tryz.prog w = .ok (.func fn first cap) w := fun _ _ _ _ => rfl
  obtain ⟨Am1, cm1, Am2, cm2, Am3, cm3, Am4, cm4, Am5, cm5, Am6, cm6, Am7, cm7, Am8, cm8, rfl, -⟩ := g_m.form
  have G_m := Hd g_m
  clear g_m
  obtain ⟨Ar1, cr1, Ar2, cr2, Ar3, cr3, Ar4, cr4, rfl, -⟩ := g_r.form
  have G_r := Hd g_r
  clear g_r
  have C_m := Hd CH_m
  clear CH_m
  have C_r := Hd (And.intro F_r0 F_r1)
  clear F_r0 F_r1
  have HC := Hd CC
  have HL := Hd hl
  clear CC hl
  go_enter Tryz.func15, Tryz.ntmps15
  go_upto_region 2 with fail
  refine boxes4 (P := fun W => Code.wp _ _ _ _ W) fun W q0 q1 q2 q3 b0 => ?_
  have P_m := Hd (Hex.mk q0)
  have G_m := Hd (G_m.out.below b0)
  have P_r := Hd (Oct.mk q1)
  have G_r := Hd (G_r.out.below b0)
  have PR := Hd (Oct.mk q2)
  have K := Hd (Cell1.mk q3)
  have HB := Hd b0
  clear b0 q0 q1 q2 q3
  go_wp2_with (refine wpList_load_M rfl _ (by rfl) _ (by rfl) _ _ P_m.out.blk rfl ?_)
  refine (kmatrix_w C_m.out W K.out _ G_m.out).mono ?_
  rintro e w0 ⟨rfl, hb⟩
  have P_m := Hd (P_m.out.below hb)
  have G_m := Hd (G_m.out.below hb)
  have P_r := Hd (P_r.out.below hb)
  have G_r := Hd (G_r.out.below hb)
  have PR := Hd (PR.out.below hb)
  have K := Hd (K.out.below hb)
  have HB := Hd (belowTo HB.out hb)
  clear hb
  go_wp2_with (refine wpList_load_row rfl _ _ (by rfl) _ (by rfl) _ _ _ _ P_r.out.blk Tryz.underlying29 rfl rayInfo ?_)
  refine (kray_w C_r.out.1 C_r.out.2 w0 K.out _ G_r.out).mono ?_
  rintro e w1 ⟨rfl, hb⟩
  have P_m := Hd (P_m.out.below hb)
  have G_m := Hd (G_m.out.below hb)
  have P_r := Hd (P_r.out.below hb)
  have G_r := Hd (G_r.out.below hb)
  have PR := Hd (PR.out.below hb)
  have K := Hd (K.out.below hb)
  have HB := Hd (belowTo HB.out hb)
  clear hb
  go_wp2_with (rw [hmf])
  refine (answer_through_true HL.out w1 K.out ((fun V hV => HC.out V _ _ _ _ _ _ _ _ _ _ _ _ _ _ _ _ _ _ _ _ _ _ _ _ _ _ (P_m.out.below hV) (G_m.out.below hV) (P_r.out.below hV) (G_r.out.below hV)) _ (Below.refl _ _))).mono ?_
  rintro e wz ⟨rfl, wy, hw, hb⟩
  have PR := Hd (PR.out.below hb)
  have HB := Hd (belowTo HB.out hb)
  have K := Hd (K.out.below hb)
  have hk2 : Cell1 wz (w.heap.size + 1 + 1 + 1) 74 (.int .i64 4) := ⟨by rw [hw]; exact K.out.blk.set_ 0 _⟩
  have hp2 := (show wz.heap[w.heap.size + 1 + 1]? = wy.heap[w.heap.size + 1 + 1]? from by rw [hw]; exact Below.heap_setCell _ ⟨w.heap.size + 1 + 1 + 1, 0, none⟩ _ _ (by show w.heap.size + 1 + 1 ≠ w.heap.size + 1 + 1 + 1; omega)).trans PR.out.blk
  have PR := Hd (Oct.mk hp2)
  have HB := Hd (show Below w.heap.size w wz from by rw [hw]; exact HB.out.setCell (p := ⟨w.heap.size + 1 + 1 + 1, 0, none⟩) (by show w.heap.size ≤ w.heap.size + 1 + 1 + 1; omega) _)
  have K := Hd hk2
  clear hw hb hk2 hp2
  go_wp2_with fail
  have hlt := PR.out.blk.lt
  refine wp_region_free [.val (.agg #[.bool false, .slice none 0 0, .bool false, .slice none 0 0, .bool false, .slice none 0 0, .bool false, .slice none 0 0]) [], .val (.pointer (some ⟨w.heap.size + 1 + 1 + 1, 0, none⟩)) [], .val (.pointer (some ⟨w.heap.size + 1 + 1 + 1, 0, none⟩)) [], .val (.pointer (some ⟨w.heap.size + 1 + 1 + 1, 0, none⟩)) [], .val (.int .i64 4) [999], .old (w.heap.size + 1 + 1) 29 #[.bool false, .slice none 0 0, .bool false, .slice none 0 0, .bool false, .slice none 0 0, .bool false, .slice none 0 0] 0 8 0 [], .val (.int .i64 4) []] (w.heap.size + 1 + 1) wz [29] (fun _ _ => False) _ mixedOrders2 (by omega) (Below.refl _ _) (KeptV.refl _ _ _) rfl (by kernel_rfl) (by kernel_rfl) (by kernel_rfl) (by kernel_rfl) (by kernel_rfl) (by kernel_rfl) (by kernel_rfl) (by kernel_rfl) rfl (by simp [oldsF]) ?_ ?_ ?_ ?_
  · simp only [StableF]
  · simp only [OldsF, and_true]
    exact ⟨Nat.le_refl _, PR.out.blk.lt, PR.out.blk, by simp⟩
  · simp (maxSteps := 4000000) [StepsF, DepF, oldsF, freeAct, fill, pairs]
    repeat' (first | apply And.intro | (intro (u : Value)) | (intro (u : Nat)))
    all_goals try exact ⟨_, _, _, rfl, rfl, rfl, rfl, rayInfo⟩
    all_goals first
    | (intro V hV hK ho
       have hb4 : Cell1 V (w.heap.size + 1 + 1 + 1) 74 (.int .i64 4) := ⟨(ho (w.heap.size + 1 + 1 + 1) K.out.blk.lt (by omega)).trans K.out.blk⟩
       have k1 := hb4.blk.cell 0
       simp at k1
       clear hV hK ho hb4
       go_simp
       exact Below.refl _ _)
    | (intro V hV hK
       clear hV hK
       go_simp
       exact Below.refl _ _)
    | exact fun _ _ _ => ⟨rfl, by simp [Value.cells, Value.oneCell']⟩
    | exact fun _ _ _ _ => ⟨rfl, by simp [Value.cells, Value.oneCell']⟩
  · simp [EndF, FactsF, freeAct, fill, pairs]
    intro V hV hK bq _ _ _
    simp [setAll, Value.cells] at bq
    have HB9 := Hd (HB.out.trans (hV.mono (by omega)))
    have HF := Hd ((GaussOwn.nought V 0).in_)
    have k9 := bq
    clear bq hV hK
    go_wp2_with fail
    refine bodyPost_ret (results_two rfl _ _ (w.heap.size + 1 + 1) _ _ _ _ _ (by rfl) k9 Tryz.underlying29 rfl rayInfo (by rfl)) rfl ⟨_, rfl, HF.out, HB9.out⟩

/- As XChain: a value may be read from a slot that a later step writes. -/

section
variable {P : Program} {ops : Array Oper} {Q : Exit → Act → World → Prop}
def valAt2 (cl : List Stp) (us : List Value) (i : Nat) : Option Value := match cl[i]? with
  | some (.val v) => some v
  | some .step => us[stepNo cl i]?
  | none => some undef
def readsB2 (ops : Array Oper) (cl : List Stp) : Bool := (List.range ops.size).all fun i => match ops[i]? with
  | some o => (match o.op with | .select _ _ => false | _ => true) && o.op.operands.all fun x => match x with
    | .tmp t => ((List.range ops.size).all fun j => match ops[j]? with
        | some oj => oj.dst != some t || (stepIs cl j && (edgeB oj i || reachB ops 4 oj i))
        | none => true) || o.after.any fun e => Region.binds .any e && ((ops[e.on]?).bind (·.dst) == some t) && (valIs cl e.on || stepIs cl i)
    | _ => true
  | none => true
def chainAct2 (ops : Array Oper) (cl : List Stp) (a0 : Act) (us : List Value) : Act := ⟨fill a0.tmps (pairs ops fun i => valAt2 cl us i), a0.defers⟩
section
variable {cl : List Stp} {a0 : Act} {R : List Value → World → Prop} {m0 m : Nat} {us : List Value} {L : Array Bool} {a : Act} {w : World}
end

end
/- Package ray: the closure of Mul. (Written by wip/top/genraym.py.) -/

structure GrowF (w : World) (base : Nat) (v : Value) (zs : List (Int × Int)) : Prop where
  form : ∃ l, w.ownsRow base 27 4 v l.length (cellsF l) ∧ FIs w l zs
end Go.Proofs.YtmcnmoljliggfaaGreatDoor
