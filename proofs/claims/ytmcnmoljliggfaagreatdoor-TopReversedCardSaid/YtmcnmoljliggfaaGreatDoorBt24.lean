/- Several texts in one: RowOfSpace, RowOfLens, RowOfSlab, RowOfSurface, RowOfFlip. -/
import Derived.Test.YtmcnmoljliggfaaGreatDoorBt23
set_option maxRecDepth 100000
set_option maxHeartbeats 8000000
/- row.Of. (Written by wip/top/genrowof.py.) -/
namespace Go.Proofs.YtmcnmoljliggfaaGreatDoor
open Go.RowKit


theorem rowof_space {n d m f : Int} {P1 P2 P3 P4 : Option Addr} {q1 q2 q3 q4 : Nat} {n1 d1 n2 d2 n3 d3 n4 d4 N D : Int} (C0 : ∀ V : World, Calls Tryz.prog 62 #[] V (RetMatIn V n1 d1 n2 d2 n3 d3 n4 d4)) (C1 : OpI1 48 n d N D) (w : World) (g_p : FracAt w (.agg #[.bool (decide (n < 0)), .slice P1 (natL n.natAbs).length q1, .bool (decide (d < 0)), .slice P2 (natL d.natAbs).length q2]) n d) (g_q : FracAt w (.agg #[.bool (decide (m < 0)), .slice P3 (natL m.natAbs).length q3, .bool (decide (f < 0)), .slice P4 (natL f.natAbs).length q4]) m f) :
    Calls Tryz.prog 53 #[.agg #[.int .u8 1, .bool (decide (n < 0)), .slice P1 (natL n.natAbs).length q1, .bool (decide (d < 0)), .slice P2 (natL d.natAbs).length q2, .bool (decide (m < 0)), .slice P3 (natL m.natAbs).length q3, .bool (decide (f < 0)), .slice P4 (natL f.natAbs).length q4]] w (RetMatIn w n1 d1 N D n3 d3 n4 d4) := by
  have hmf : ∀ (fn : Fn) (first cap : Array Value) (w : World), (Instr.makeFunc fn first cap).run Tryz.prog w = .ok (.func fn first cap) w := fun _ _ _ _ => rfl
  have hsf : ∀ (a : Addr) (fn : Fn) (first cap : Array Value) (m : Mode) (w : World), (store a (.func fn first cap) m).run Tryz.prog w = stored Tryz.prog w a (.func fn first cap) m := fun a fn first cap m w => run_store Tryz.prog w a _ m rfl
  have G_p := Hd g_p
  have G_q := Hd g_q
  have H0 := Hd C0
  clear g_p g_q C0
  go_enter Tryz.func53, Tryz.ntmps53
  go_upto_region 1 with fail
  refine boxes2 (P := fun W => Code.wp _ _ _ _ W) fun W p0 p1 b0 => ?_
  have P_e := Hd (Nine.mk p0)
  have PR := Hd (Hex.mk p1)
  have HB := Hd b0
  clear p0 p1 b0
  go_wp2_with fail
  refine (H0.out W).mono ?_
  rintro e w1 ⟨v, rfl, hI, hb⟩
  obtain ⟨A0, c0, A1, c1, A2, c2, A3, c3, A4, c4, A5, c5, A6, c6, A7, c7, rfl, -⟩ := hI.form
  have P_e := Hd (P_e.out.below hb)
  have PR := Hd (PR.out.below hb)
  have HB := Hd (belowTo HB.out hb)
  clear hb
  go_upto_region 2 with fail
  refine boxes1 (P := fun W => Code.wp _ _ _ _ W) fun W2 hq ha => ?_
  obtain ⟨b, hbq⟩ : ∃ q, q = w1.heap.size := ⟨_, rfl⟩
  have hlt : w.heap.size + 1 < b := by
    have := PR.out.blk.lt
    omega
  have hI2 := hI.below ha
  rw [← hbq] at hq ⊢
  have M := Hd (show MO W2 b 38 n1 d1 n2 d2 n3 d3 n4 d4 from ⟨A0, c0, A1, c1, A2, c2, A3, c3, A4, c4, A5, c5, A6, c6, A7, c7, ⟨hq⟩, hI2⟩)
  have P_e := Hd (P_e.out.below ha)
  have PR := Hd (PR.out.below ha)
  have HB := Hd (belowTo HB.out ha)
  clear hI hI2 hq ha hbq
  go_upto_region 3 with fail
  refine boxes1 (P := fun W => Code.wp _ _ _ _ W) fun W3 hf hc => ?_
  have M := Hd (M.out.below hc)
  have P_e := Hd (P_e.out.below hc)
  have PR := Hd (PR.out.below hc)
  have HB := Hd (belowTo HB.out hc)
  have hcell : ∀ i : Nat, _ := hf.cell
  have t0 := hcell 0
  have t1 := hcell 1
  have t2 := hcell 2
  have t3 := hcell 3
  have t4 := hcell 4
  have t5 := hcell 5
  simp at t0 t1 t2 t3 t4 t5
  obtain ⟨l_e, a0, a1, a2, a3, a4, a5, a6, a7, a8⟩ := P_e.out.facts
  clear hcell hf hc
  go_wp2_with fail
  refine (of_space C1 _ _ _ P_e.out (G_p.out.below HB.out) (G_q.out.below HB.out) M.out).mono ?_
  rintro e w4 ⟨rfl, hM, hb4⟩
  obtain ⟨B0, e0, B1, e1, B2, e2, B3, e3, B4, e4, B5, e5, B6, e6, B7, e7, hx, hm⟩ := hM.form
  have pr : Hex w4 _ _ _ _ _ _ _ _ _ _ _ _ _ _ _ _ _ _ := ⟨PR.out.blk.below hb4 hlt⟩
  have hb9 := HB.out.trans (hb4.mono (by omega))
  clear t0 t1 t2 t3 t4 t5 a0 a1 a2 a3 a4 a5 a6 a7 a8
  obtain ⟨l_q, q0, q1, q2, q3, q4, q5, q6, q7, q8, q9, q10, q11, q12, q13, q14, q15⟩ := hx.facts
  obtain ⟨g0, g1, g2, g3, g4, g5, g6, g7, g8, g9, g10, g11, g12, g13, g14, g15⟩ := hx.free
  obtain ⟨l_r, r0, r1, r2, r3, r4, r5, r6, r7, r8, r9, r10, r11, r12, r13, r14, r15⟩ := pr.facts
  obtain ⟨f0, f1, f2, f3, f4, f5, f6, f7, f8, f9, f10, f11, f12, f13, f14, f15⟩ := pr.free
  have H9 := Hd (mstore hm pr hb9 (show w.heap.size ≤ w.heap.size + 1 by omega) (by decide))
  clear hm hx pr hb9 hb4 hM
  go_wp2_with fail
  obtain ⟨_, k0, k1, k2, k3, k4, k5, k6, k7, k8, k9, k10, k11, k12, k13, k14, k15⟩ := H9.out.1.facts
  exact bodyPost_ret (by simp [results, Tryz.results53, go_sem, k0, k1, k2, k3, k4, k5, k6, k7, k8, k9, k10, k11, k12, k13, k14, k15]) rfl ⟨_, rfl, H9.out.2.2, H9.out.2.1⟩
/- row.Of. (Written by wip/top/genrowof.py.) -/


theorem rowof_lens {n d m f : Int} {P1 P2 P3 P4 : Option Addr} {q1 q2 q3 q4 : Nat} {n1 d1 n2 d2 n3 d3 n4 d4 N D : Int} (C0 : ∀ V : World, Calls Tryz.prog 62 #[] V (RetMatIn V n1 d1 n2 d2 n3 d3 n4 d4)) (C1 : OpI1 82 n d N D) (w : World) (g_p : FracAt w (.agg #[.bool (decide (n < 0)), .slice P1 (natL n.natAbs).length q1, .bool (decide (d < 0)), .slice P2 (natL d.natAbs).length q2]) n d) (g_q : FracAt w (.agg #[.bool (decide (m < 0)), .slice P3 (natL m.natAbs).length q3, .bool (decide (f < 0)), .slice P4 (natL f.natAbs).length q4]) m f) :
    Calls Tryz.prog 53 #[.agg #[.int .u8 2, .bool (decide (n < 0)), .slice P1 (natL n.natAbs).length q1, .bool (decide (d < 0)), .slice P2 (natL d.natAbs).length q2, .bool (decide (m < 0)), .slice P3 (natL m.natAbs).length q3, .bool (decide (f < 0)), .slice P4 (natL f.natAbs).length q4]] w (RetMatIn w n1 d1 n2 d2 N D n4 d4) := by
  have hmf : ∀ (fn : Fn) (first cap : Array Value) (w : World), (Instr.makeFunc fn first cap).run Tryz.prog w = .ok (.func fn first cap) w := fun _ _ _ _ => rfl
  have hsf : ∀ (a : Addr) (fn : Fn) (first cap : Array Value) (m : Mode) (w : World), (store a (.func fn first cap) m).run Tryz.prog w = stored Tryz.prog w a (.func fn first cap) m := fun a fn first cap m w => run_store Tryz.prog w a _ m rfl
  have G_p := Hd g_p
  have G_q := Hd g_q
  have H0 := Hd C0
  clear g_p g_q C0
  go_enter Tryz.func53, Tryz.ntmps53
  go_upto_region 1 with fail
  refine boxes2 (P := fun W => Code.wp _ _ _ _ W) fun W p0 p1 b0 => ?_
  have P_e := Hd (Nine.mk p0)
  have PR := Hd (Hex.mk p1)
  have HB := Hd b0
  clear p0 p1 b0
  go_wp2_with fail
  refine (H0.out W).mono ?_
  rintro e w1 ⟨v, rfl, hI, hb⟩
  obtain ⟨A0, c0, A1, c1, A2, c2, A3, c3, A4, c4, A5, c5, A6, c6, A7, c7, rfl, -⟩ := hI.form
  have P_e := Hd (P_e.out.below hb)
  have PR := Hd (PR.out.below hb)
  have HB := Hd (belowTo HB.out hb)
  clear hb
  go_upto_region 2 with fail
  refine boxes1 (P := fun W => Code.wp _ _ _ _ W) fun W2 hq ha => ?_
  obtain ⟨b, hbq⟩ : ∃ q, q = w1.heap.size := ⟨_, rfl⟩
  have hlt : w.heap.size + 1 < b := by
    have := PR.out.blk.lt
    omega
  have hI2 := hI.below ha
  rw [← hbq] at hq ⊢
  have M := Hd (show MO W2 b 38 n1 d1 n2 d2 n3 d3 n4 d4 from ⟨A0, c0, A1, c1, A2, c2, A3, c3, A4, c4, A5, c5, A6, c6, A7, c7, ⟨hq⟩, hI2⟩)
  have P_e := Hd (P_e.out.below ha)
  have PR := Hd (PR.out.below ha)
  have HB := Hd (belowTo HB.out ha)
  clear hI hI2 hq ha hbq
  go_upto_region 3 with fail
  refine boxes1 (P := fun W => Code.wp _ _ _ _ W) fun W3 hf hc => ?_
  have M := Hd (M.out.below hc)
  have P_e := Hd (P_e.out.below hc)
  have PR := Hd (PR.out.below hc)
  have HB := Hd (belowTo HB.out hc)
  have hcell : ∀ i : Nat, _ := hf.cell
  have t0 := hcell 0
  have t1 := hcell 1
  have t2 := hcell 2
  have t3 := hcell 3
  have t4 := hcell 4
  have t5 := hcell 5
  simp at t0 t1 t2 t3 t4 t5
  obtain ⟨l_e, a0, a1, a2, a3, a4, a5, a6, a7, a8⟩ := P_e.out.facts
  clear hcell hf hc
  go_wp2_with fail
  refine (of_lens C1 _ _ _ P_e.out (G_p.out.below HB.out) (G_q.out.below HB.out) M.out).mono ?_
  rintro e w4 ⟨rfl, hM, hb4⟩
  obtain ⟨B0, e0, B1, e1, B2, e2, B3, e3, B4, e4, B5, e5, B6, e6, B7, e7, hx, hm⟩ := hM.form
  have pr : Hex w4 _ _ _ _ _ _ _ _ _ _ _ _ _ _ _ _ _ _ := ⟨PR.out.blk.below hb4 hlt⟩
  have hb9 := HB.out.trans (hb4.mono (by omega))
  clear t0 t1 t2 t3 t4 t5 a0 a1 a2 a3 a4 a5 a6 a7 a8
  obtain ⟨l_q, q0, q1, q2, q3, q4, q5, q6, q7, q8, q9, q10, q11, q12, q13, q14, q15⟩ := hx.facts
  obtain ⟨g0, g1, g2, g3, g4, g5, g6, g7, g8, g9, g10, g11, g12, g13, g14, g15⟩ := hx.free
  obtain ⟨l_r, r0, r1, r2, r3, r4, r5, r6, r7, r8, r9, r10, r11, r12, r13, r14, r15⟩ := pr.facts
  obtain ⟨f0, f1, f2, f3, f4, f5, f6, f7, f8, f9, f10, f11, f12, f13, f14, f15⟩ := pr.free
  have H9 := Hd (mstore hm pr hb9 (show w.heap.size ≤ w.heap.size + 1 by omega) (by decide))
  clear hm hx pr hb9 hb4 hM
  go_wp2_with fail
  obtain ⟨_, k0, k1, k2, k3, k4, k5, k6, k7, k8, k9, k10, k11, k12, k13, k14, k15⟩ := H9.out.1.facts
  exact bodyPost_ret (by simp [results, Tryz.results53, go_sem, k0, k1, k2, k3, k4, k5, k6, k7, k8, k9, k10, k11, k12, k13, k14, k15]) rfl ⟨_, rfl, H9.out.2.2, H9.out.2.1⟩
/- row.Of. (Written by wip/top/genrowof.py.) -/


theorem rowof_slab {n d m f : Int} {P1 P2 P3 P4 : Option Addr} {q1 q2 q3 q4 : Nat} {n1 d1 n2 d2 n3 d3 n4 d4 N D : Int} (C0 : ∀ V : World, Calls Tryz.prog 62 #[] V (RetMatIn V n1 d1 n2 d2 n3 d3 n4 d4)) (C1 : OpI 84 n d m f N D) (w : World) (g_p : FracAt w (.agg #[.bool (decide (n < 0)), .slice P1 (natL n.natAbs).length q1, .bool (decide (d < 0)), .slice P2 (natL d.natAbs).length q2]) n d) (g_q : FracAt w (.agg #[.bool (decide (m < 0)), .slice P3 (natL m.natAbs).length q3, .bool (decide (f < 0)), .slice P4 (natL f.natAbs).length q4]) m f) :
    Calls Tryz.prog 53 #[.agg #[.int .u8 3, .bool (decide (n < 0)), .slice P1 (natL n.natAbs).length q1, .bool (decide (d < 0)), .slice P2 (natL d.natAbs).length q2, .bool (decide (m < 0)), .slice P3 (natL m.natAbs).length q3, .bool (decide (f < 0)), .slice P4 (natL f.natAbs).length q4]] w (RetMatIn w n1 d1 N D n3 d3 n4 d4) := by
  have hmf : ∀ (fn : Fn) (first cap : Array Value) (w : World), (Instr.makeFunc fn first cap).run Tryz.prog w = .ok (.func fn first cap) w := fun _ _ _ _ => rfl
  have hsf : ∀ (a : Addr) (fn : Fn) (first cap : Array Value) (m : Mode) (w : World), (store a (.func fn first cap) m).run Tryz.prog w = stored Tryz.prog w a (.func fn first cap) m := fun a fn first cap m w => run_store Tryz.prog w a _ m rfl
  have G_p := Hd g_p
  have G_q := Hd g_q
  have H0 := Hd C0
  clear g_p g_q C0
  go_enter Tryz.func53, Tryz.ntmps53
  go_upto_region 1 with fail
  refine boxes2 (P := fun W => Code.wp _ _ _ _ W) fun W p0 p1 b0 => ?_
  have P_e := Hd (Nine.mk p0)
  have PR := Hd (Hex.mk p1)
  have HB := Hd b0
  clear p0 p1 b0
  go_wp2_with fail
  refine (H0.out W).mono ?_
  rintro e w1 ⟨v, rfl, hI, hb⟩
  obtain ⟨A0, c0, A1, c1, A2, c2, A3, c3, A4, c4, A5, c5, A6, c6, A7, c7, rfl, -⟩ := hI.form
  have P_e := Hd (P_e.out.below hb)
  have PR := Hd (PR.out.below hb)
  have HB := Hd (belowTo HB.out hb)
  clear hb
  go_upto_region 2 with fail
  refine boxes1 (P := fun W => Code.wp _ _ _ _ W) fun W2 hq ha => ?_
  obtain ⟨b, hbq⟩ : ∃ q, q = w1.heap.size := ⟨_, rfl⟩
  have hlt : w.heap.size + 1 < b := by
    have := PR.out.blk.lt
    omega
  have hI2 := hI.below ha
  rw [← hbq] at hq ⊢
  have M := Hd (show MO W2 b 38 n1 d1 n2 d2 n3 d3 n4 d4 from ⟨A0, c0, A1, c1, A2, c2, A3, c3, A4, c4, A5, c5, A6, c6, A7, c7, ⟨hq⟩, hI2⟩)
  have P_e := Hd (P_e.out.below ha)
  have PR := Hd (PR.out.below ha)
  have HB := Hd (belowTo HB.out ha)
  clear hI hI2 hq ha hbq
  go_upto_region 3 with fail
  refine boxes1 (P := fun W => Code.wp _ _ _ _ W) fun W3 hf hc => ?_
  have M := Hd (M.out.below hc)
  have P_e := Hd (P_e.out.below hc)
  have PR := Hd (PR.out.below hc)
  have HB := Hd (belowTo HB.out hc)
  have hcell : ∀ i : Nat, _ := hf.cell
  have t0 := hcell 0
  have t1 := hcell 1
  have t2 := hcell 2
  have t3 := hcell 3
  have t4 := hcell 4
  have t5 := hcell 5
  simp at t0 t1 t2 t3 t4 t5
  obtain ⟨l_e, a0, a1, a2, a3, a4, a5, a6, a7, a8⟩ := P_e.out.facts
  clear hcell hf hc
  go_wp2_with fail
  refine (of_slab C1 _ _ _ P_e.out (G_p.out.below HB.out) (G_q.out.below HB.out) M.out).mono ?_
  rintro e w4 ⟨rfl, hM, hb4⟩
  obtain ⟨B0, e0, B1, e1, B2, e2, B3, e3, B4, e4, B5, e5, B6, e6, B7, e7, hx, hm⟩ := hM.form
  have pr : Hex w4 _ _ _ _ _ _ _ _ _ _ _ _ _ _ _ _ _ _ := ⟨PR.out.blk.below hb4 hlt⟩
  have hb9 := HB.out.trans (hb4.mono (by omega))
  clear t0 t1 t2 t3 t4 t5 a0 a1 a2 a3 a4 a5 a6 a7 a8
  obtain ⟨l_q, q0, q1, q2, q3, q4, q5, q6, q7, q8, q9, q10, q11, q12, q13, q14, q15⟩ := hx.facts
  obtain ⟨g0, g1, g2, g3, g4, g5, g6, g7, g8, g9, g10, g11, g12, g13, g14, g15⟩ := hx.free
  obtain ⟨l_r, r0, r1, r2, r3, r4, r5, r6, r7, r8, r9, r10, r11, r12, r13, r14, r15⟩ := pr.facts
  obtain ⟨f0, f1, f2, f3, f4, f5, f6, f7, f8, f9, f10, f11, f12, f13, f14, f15⟩ := pr.free
  have H9 := Hd (mstore hm pr hb9 (show w.heap.size ≤ w.heap.size + 1 by omega) (by decide))
  clear hm hx pr hb9 hb4 hM
  go_wp2_with fail
  obtain ⟨_, k0, k1, k2, k3, k4, k5, k6, k7, k8, k9, k10, k11, k12, k13, k14, k15⟩ := H9.out.1.facts
  exact bodyPost_ret (by simp [results, Tryz.results53, go_sem, k0, k1, k2, k3, k4, k5, k6, k7, k8, k9, k10, k11, k12, k13, k14, k15]) rfl ⟨_, rfl, H9.out.2.2, H9.out.2.1⟩
/- row.Of. (Written by wip/top/genrowof.py.) -/


theorem rowof_surface {n d m f : Int} {P1 P2 P3 P4 : Option Addr} {q1 q2 q3 q4 : Nat} {n1 d1 n2 d2 n3 d3 n4 d4 N D T1 T2 : Int} (C0 : ∀ V : World, Calls Tryz.prog 62 #[] V (RetMatIn V n1 d1 n2 d2 n3 d3 n4 d4)) (C1 : OpI 67 n d m f T1 T2) (C2 : OpI1 82 T1 T2 N D) (w : World) (g_p : FracAt w (.agg #[.bool (decide (n < 0)), .slice P1 (natL n.natAbs).length q1, .bool (decide (d < 0)), .slice P2 (natL d.natAbs).length q2]) n d) (g_q : FracAt w (.agg #[.bool (decide (m < 0)), .slice P3 (natL m.natAbs).length q3, .bool (decide (f < 0)), .slice P4 (natL f.natAbs).length q4]) m f) :
    Calls Tryz.prog 53 #[.agg #[.int .u8 4, .bool (decide (n < 0)), .slice P1 (natL n.natAbs).length q1, .bool (decide (d < 0)), .slice P2 (natL d.natAbs).length q2, .bool (decide (m < 0)), .slice P3 (natL m.natAbs).length q3, .bool (decide (f < 0)), .slice P4 (natL f.natAbs).length q4]] w (RetMatIn w n1 d1 n2 d2 N D n4 d4) := by
  have hmf : ∀ (fn : Fn) (first cap : Array Value) (w : World), (Instr.makeFunc fn first cap).run Tryz.prog w = .ok (.func fn first cap) w := fun _ _ _ _ => rfl
  have hsf : ∀ (a : Addr) (fn : Fn) (first cap : Array Value) (m : Mode) (w : World), (store a (.func fn first cap) m).run Tryz.prog w = stored Tryz.prog w a (.func fn first cap) m := fun a fn first cap m w => run_store Tryz.prog w a _ m rfl
  have G_p := Hd g_p
  have G_q := Hd g_q
  have H0 := Hd C0
  clear g_p g_q C0
  go_enter Tryz.func53, Tryz.ntmps53
  go_upto_region 1 with fail
  refine boxes2 (P := fun W => Code.wp _ _ _ _ W) fun W p0 p1 b0 => ?_
  have P_e := Hd (Nine.mk p0)
  have PR := Hd (Hex.mk p1)
  have HB := Hd b0
  clear p0 p1 b0
  go_wp2_with fail
  refine (H0.out W).mono ?_
  rintro e w1 ⟨v, rfl, hI, hb⟩
  obtain ⟨A0, c0, A1, c1, A2, c2, A3, c3, A4, c4, A5, c5, A6, c6, A7, c7, rfl, -⟩ := hI.form
  have P_e := Hd (P_e.out.below hb)
  have PR := Hd (PR.out.below hb)
  have HB := Hd (belowTo HB.out hb)
  clear hb
  go_upto_region 2 with fail
  refine boxes1 (P := fun W => Code.wp _ _ _ _ W) fun W2 hq ha => ?_
  obtain ⟨b, hbq⟩ : ∃ q, q = w1.heap.size := ⟨_, rfl⟩
  have hlt : w.heap.size + 1 < b := by
    have := PR.out.blk.lt
    omega
  have hI2 := hI.below ha
  rw [← hbq] at hq ⊢
  have M := Hd (show MO W2 b 38 n1 d1 n2 d2 n3 d3 n4 d4 from ⟨A0, c0, A1, c1, A2, c2, A3, c3, A4, c4, A5, c5, A6, c6, A7, c7, ⟨hq⟩, hI2⟩)
  have P_e := Hd (P_e.out.below ha)
  have PR := Hd (PR.out.below ha)
  have HB := Hd (belowTo HB.out ha)
  clear hI hI2 hq ha hbq
  go_upto_region 3 with fail
  refine boxes1 (P := fun W => Code.wp _ _ _ _ W) fun W3 hf hc => ?_
  have M := Hd (M.out.below hc)
  have P_e := Hd (P_e.out.below hc)
  have PR := Hd (PR.out.below hc)
  have HB := Hd (belowTo HB.out hc)
  have hcell : ∀ i : Nat, _ := hf.cell
  have t0 := hcell 0
  have t1 := hcell 1
  have t2 := hcell 2
  have t3 := hcell 3
  have t4 := hcell 4
  have t5 := hcell 5
  simp at t0 t1 t2 t3 t4 t5
  obtain ⟨l_e, a0, a1, a2, a3, a4, a5, a6, a7, a8⟩ := P_e.out.facts
  clear hcell hf hc
  go_wp2_with fail
  refine (of_surface C1 C2 _ _ _ P_e.out (G_p.out.below HB.out) (G_q.out.below HB.out) M.out).mono ?_
  rintro e w4 ⟨rfl, hM, hb4⟩
  obtain ⟨B0, e0, B1, e1, B2, e2, B3, e3, B4, e4, B5, e5, B6, e6, B7, e7, hx, hm⟩ := hM.form
  have pr : Hex w4 _ _ _ _ _ _ _ _ _ _ _ _ _ _ _ _ _ _ := ⟨PR.out.blk.below hb4 hlt⟩
  have hb9 := HB.out.trans (hb4.mono (by omega))
  clear t0 t1 t2 t3 t4 t5 a0 a1 a2 a3 a4 a5 a6 a7 a8
  obtain ⟨l_q, q0, q1, q2, q3, q4, q5, q6, q7, q8, q9, q10, q11, q12, q13, q14, q15⟩ := hx.facts
  obtain ⟨g0, g1, g2, g3, g4, g5, g6, g7, g8, g9, g10, g11, g12, g13, g14, g15⟩ := hx.free
  obtain ⟨l_r, r0, r1, r2, r3, r4, r5, r6, r7, r8, r9, r10, r11, r12, r13, r14, r15⟩ := pr.facts
  obtain ⟨f0, f1, f2, f3, f4, f5, f6, f7, f8, f9, f10, f11, f12, f13, f14, f15⟩ := pr.free
  have H9 := Hd (mstore hm pr hb9 (show w.heap.size ≤ w.heap.size + 1 by omega) (by decide))
  clear hm hx pr hb9 hb4 hM
  go_wp2_with fail
  obtain ⟨_, k0, k1, k2, k3, k4, k5, k6, k7, k8, k9, k10, k11, k12, k13, k14, k15⟩ := H9.out.1.facts
  exact bodyPost_ret (by simp [results, Tryz.results53, go_sem, k0, k1, k2, k3, k4, k5, k6, k7, k8, k9, k10, k11, k12, k13, k14, k15]) rfl ⟨_, rfl, H9.out.2.2, H9.out.2.1⟩
/- row.Of. (Written by wip/top/genrowof.py.) -/


theorem rowof_flip {n d m f : Int} {P1 P2 P3 P4 : Option Addr} {q1 q2 q3 q4 : Nat} {n1 d1 n2 d2 n3 d3 n4 d4 N1 D1 N2 D2 N3 D3 N4 D4 : Int} (C0 : ∀ V : World, Calls Tryz.prog 62 #[] V (RetMatIn V n1 d1 n2 d2 n3 d3 n4 d4)) (C1 : ∀ (V : World) (v : Value), MatAt V v n1 d1 n2 d2 n3 d3 n4 d4 → Calls Tryz.prog 87 #[v] V (RetMatIn V N1 D1 N2 D2 N3 D3 N4 D4)) (w : World) (g_p : FracAt w (.agg #[.bool (decide (n < 0)), .slice P1 (natL n.natAbs).length q1, .bool (decide (d < 0)), .slice P2 (natL d.natAbs).length q2]) n d) (g_q : FracAt w (.agg #[.bool (decide (m < 0)), .slice P3 (natL m.natAbs).length q3, .bool (decide (f < 0)), .slice P4 (natL f.natAbs).length q4]) m f) :
    Calls Tryz.prog 53 #[.agg #[.int .u8 5, .bool (decide (n < 0)), .slice P1 (natL n.natAbs).length q1, .bool (decide (d < 0)), .slice P2 (natL d.natAbs).length q2, .bool (decide (m < 0)), .slice P3 (natL m.natAbs).length q3, .bool (decide (f < 0)), .slice P4 (natL f.natAbs).length q4]] w (RetMatIn w N1 D1 N2 D2 N3 D3 N4 D4) := by
  have hmf : ∀ (fn : Fn) (first cap : Array Value) (w : World), (Instr.makeFunc fn first cap).run Tryz.prog w = .ok (.func fn first cap) w := fun _ _ _ _ => rfl
  have hsf : ∀ (a : Addr) (fn : Fn) (first cap : Array Value) (m : Mode) (w : World), (store a (.func fn first cap) m).run Tryz.prog w = stored Tryz.prog w a (.func fn first cap) m := fun a fn first cap m w => run_store Tryz.prog w a _ m rfl
  have G_p := Hd g_p
  have G_q := Hd g_q
  have H0 := Hd C0
  clear g_p g_q C0
  go_enter Tryz.func53, Tryz.ntmps53
  go_upto_region 1 with fail
  refine boxes2 (P := fun W => Code.wp _ _ _ _ W) fun W p0 p1 b0 => ?_
  have P_e := Hd (Nine.mk p0)
  have PR := Hd (Hex.mk p1)
  have HB := Hd b0
  clear p0 p1 b0
  go_wp2_with fail
  refine (H0.out W).mono ?_
  rintro e w1 ⟨v, rfl, hI, hb⟩
  obtain ⟨A0, c0, A1, c1, A2, c2, A3, c3, A4, c4, A5, c5, A6, c6, A7, c7, rfl, -⟩ := hI.form
  have P_e := Hd (P_e.out.below hb)
  have PR := Hd (PR.out.below hb)
  have HB := Hd (belowTo HB.out hb)
  clear hb
  go_upto_region 2 with fail
  refine boxes1 (P := fun W => Code.wp _ _ _ _ W) fun W2 hq ha => ?_
  obtain ⟨b, hbq⟩ : ∃ q, q = w1.heap.size := ⟨_, rfl⟩
  have hlt : w.heap.size + 1 < b := by
    have := PR.out.blk.lt
    omega
  have hI2 := hI.below ha
  rw [← hbq] at hq ⊢
  have M := Hd (show MO W2 b 38 n1 d1 n2 d2 n3 d3 n4 d4 from ⟨A0, c0, A1, c1, A2, c2, A3, c3, A4, c4, A5, c5, A6, c6, A7, c7, ⟨hq⟩, hI2⟩)
  have P_e := Hd (P_e.out.below ha)
  have PR := Hd (PR.out.below ha)
  have HB := Hd (belowTo HB.out ha)
  clear hI hI2 hq ha hbq
  go_upto_region 3 with fail
  refine boxes1 (P := fun W => Code.wp _ _ _ _ W) fun W3 hf hc => ?_
  have M := Hd (M.out.below hc)
  have P_e := Hd (P_e.out.below hc)
  have PR := Hd (PR.out.below hc)
  have HB := Hd (belowTo HB.out hc)
  have hcell : ∀ i : Nat, _ := hf.cell
  have t0 := hcell 0
  have t1 := hcell 1
  have t2 := hcell 2
  have t3 := hcell 3
  have t4 := hcell 4
  have t5 := hcell 5
  simp at t0 t1 t2 t3 t4 t5
  obtain ⟨l_e, a0, a1, a2, a3, a4, a5, a6, a7, a8⟩ := P_e.out.facts
  clear hcell hf hc
  go_wp2_with fail
  refine (of_flip C1 _ _ M.out).mono ?_
  rintro e w4 ⟨rfl, hM, hb4⟩
  obtain ⟨B0, e0, B1, e1, B2, e2, B3, e3, B4, e4, B5, e5, B6, e6, B7, e7, hx, hm⟩ := hM.form
  have pr : Hex w4 _ _ _ _ _ _ _ _ _ _ _ _ _ _ _ _ _ _ := ⟨PR.out.blk.below hb4 hlt⟩
  have hb9 := HB.out.trans (hb4.mono (by omega))
  clear t0 t1 t2 t3 t4 t5 a0 a1 a2 a3 a4 a5 a6 a7 a8
  obtain ⟨l_q, q0, q1, q2, q3, q4, q5, q6, q7, q8, q9, q10, q11, q12, q13, q14, q15⟩ := hx.facts
  obtain ⟨g0, g1, g2, g3, g4, g5, g6, g7, g8, g9, g10, g11, g12, g13, g14, g15⟩ := hx.free
  obtain ⟨l_r, r0, r1, r2, r3, r4, r5, r6, r7, r8, r9, r10, r11, r12, r13, r14, r15⟩ := pr.facts
  obtain ⟨f0, f1, f2, f3, f4, f5, f6, f7, f8, f9, f10, f11, f12, f13, f14, f15⟩ := pr.free
  have H9 := Hd (mstore hm pr hb9 (show w.heap.size ≤ w.heap.size + 1 by omega) (by decide))
  clear hm hx pr hb9 hb4 hM
  go_wp2_with fail
  obtain ⟨_, k0, k1, k2, k3, k4, k5, k6, k7, k8, k9, k10, k11, k12, k13, k14, k15⟩ := H9.out.1.facts
  exact bodyPost_ret (by simp [results, Tryz.results53, go_sem, k0, k1, k2, k3, k4, k5, k6, k7, k8, k9, k10, k11, k12, k13, k14, k15]) rfl ⟨_, rfl, H9.out.2.2, H9.out.2.1⟩
end Go.Proofs.YtmcnmoljliggfaaGreatDoor
