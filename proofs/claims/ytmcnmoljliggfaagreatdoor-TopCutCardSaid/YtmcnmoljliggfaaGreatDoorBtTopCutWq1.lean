/- Several texts in one: TopCutWq1. -/
import Derived.Test.YtmcnmoljliggfaaGreatDoorBtTopCutW
import Derived.Test.YtmcnmoljliggfaaGreatDoorBt40
set_option maxRecDepth 100000
set_option maxHeartbeats 8000000
/- TopCut: the walk. (Written by wip/top/gentopcut.py.) -/
namespace Go.Proofs.YtmcnmoljliggfaaGreatDoor
open Go.RowKit

theorem cut_true (x : LRaw) (z : Int) (w : World) (hbn : BenchIn w w.heap.size x.A x.l) (hlc : x.l.length ≤ x.c) (hl2 : x.l.length ≤ 4611686018427387904) (hr : x.r.In w) (hs : x.s.In w) (sm : ∀ e ∈ x.l, e.small) (sr : x.r.small) (ss : x.s.small) (htab : powTab w) :
    Calls Tryz.prog 3 #[.agg #[.slice x.A x.l.length x.c, .bool x.r.y.n1, .slice x.r.y.A x.r.y.xs.length x.r.y.c, .bool x.r.y.n2, .slice x.r.y.B x.r.y.ys.length x.r.y.e, .bool x.r.u.n1, .slice x.r.u.A x.r.u.xs.length x.r.u.c, .bool x.r.u.n2, .slice x.r.u.B x.r.u.ys.length x.r.u.e, .bool x.s.y.n1, .slice x.s.y.A x.s.y.xs.length x.s.y.c, .bool x.s.y.n2, .slice x.s.y.B x.s.y.ys.length x.s.y.e, .bool x.s.u.n1, .slice x.s.u.A x.s.u.xs.length x.s.u.c, .bool x.s.u.n2, .slice x.s.u.B x.s.u.ys.length x.s.u.e], .int .i64 z] w fun e w' => e = .returned (.bool true) ∧ Below w.heap.size w w' := by
  have hlen := hlc
  have M0 : ∀ c ∈ x.l.map ERaw.cost, c ≤ 4611826755915743236 := fun c hc => by
    obtain ⟨e, he, rfl⟩ := List.mem_map.1 hc
    exact ERaw.cost_le (sm e he)
  obtain ⟨T, hT⟩ : ∃ n : Nat, costE (x.l.map ERaw.cost) x.l.length = n := ⟨_, rfl⟩
  have hT9 := costE_le (x.l.map ERaw.cost) x.l.length M0 (by omega)
  have C1 := fun (V : World) (h : BenchIn V V.heap.size x.A x.l) => els_cost x.l (x.l.map ERaw.cost) T x.A x.c hl2 (by simp) M0 hT V h.row (fun i hi U hU => by
    have := el_cost x.l[i] U ((h.els _ (List.getElem_mem hi)).below hU) (sm _ (List.getElem_mem hi))
    rw [List.getD_eq_getElem?_getD, List.getElem?_map, List.getElem?_eq_getElem hi]
    exact this)
  have C2 := fun (V : World) (h : x.r.In V) => ray_cost sr.1.1 sr.1.2 sr.2.1 sr.2.2 V _ h.raw
  have C3 := fun (V : World) (h : x.s.In V) => ray_cost ss.1.1 ss.1.2 ss.2.1 ss.2.2 V _ h.raw
  have b1 := fcost_le sr.1.1 sr.1.2
  have b2 := fcost_le sr.2.1 sr.2.2
  have b3 := fcost_le ss.1.1 ss.1.2
  have b4 := fcost_le ss.2.1 ss.2.2
  obtain ⟨s2, e2⟩ : ∃ k : Nat, k = fcost x.r.y.xs.length x.r.y.ys.length + fcost x.r.u.xs.length x.r.u.ys.length := ⟨_, rfl⟩
  obtain ⟨s3, e3⟩ : ∃ k : Nat, k = fcost x.s.y.xs.length x.s.y.ys.length + fcost x.s.u.xs.length x.s.u.ys.length := ⟨_, rfl⟩
  rw [← e2] at C2
  rw [← e3] at C3
  obtain ⟨b, hbe⟩ : ∃ b : Bool, b = decide (1048576 < [T, s2, s3].sum) := ⟨_, rfl⟩
  have HLEN := Hd (show b = false → x.l.length + (x.l.map ERaw.cost).sum ≤ 1048576 from by
    intro e
    rw [e] at hbe
    have h9 := of_decide_eq_false hbe.symm
    simp at h9
    exact costE_sum _ _ (by omega))
  have H4 := Hd (fun (u : Value) (V : World) (h : SliceOf [T, s2, s3] u V) => beyond_of3 [T, s2, s3] b (by simp) (by simp; omega) hbe u V h)
  have H1 := Hd C1
  have H2 := Hd C2
  have H3 := Hd C3
  have HL2 := Hd (And.intro hl2 hlen)
  clear C1 C2 C3 M0 hT hT9 b1 b2 b3 b4 e2 e3 hbe hl2 sm sr ss hlen hlc
  go_enter Tryz.func3, Tryz.ntmps3
  go_upto_region 1 with fail
  refine boxes1 (P := fun W => Code.wp _ _ _ _ W) fun W p0 b0 => ?_
  have X := Hd (show LightS w W w.heap.size x from ⟨p0, hbn.to b0, hr.below b0, hs.below b0, htab.below2 b0, b0⟩)
  clear p0 b0 hbn hr hs htab
  go_wp2_with fail
  refine wp_region_free [.val (.pointer (some ⟨w.heap.size, 0, none⟩)) [], .val (.slice x.A x.l.length x.c) [], .val (.int .i64 T) [], .val (.pointer (some ⟨w.heap.size, 1, none⟩)) [], .val (.agg #[.bool x.r.y.n1, .slice x.r.y.A x.r.y.xs.length x.r.y.c, .bool x.r.y.n2, .slice x.r.y.B x.r.y.ys.length x.r.y.e, .bool x.r.u.n1, .slice x.r.u.A x.r.u.xs.length x.r.u.c, .bool x.r.u.n2, .slice x.r.u.B x.r.u.ys.length x.r.u.e]) [], .val (.int .i64 s2) [], .val (.pointer (some ⟨w.heap.size, 9, none⟩)) [], .val (.agg #[.bool x.s.y.n1, .slice x.s.y.A x.s.y.xs.length x.s.y.c, .bool x.s.y.n2, .slice x.s.y.B x.s.y.ys.length x.s.y.e, .bool x.s.u.n1, .slice x.s.u.A x.s.u.xs.length x.s.u.c, .bool x.s.u.n2, .slice x.s.u.B x.s.u.ys.length x.s.u.e]) [], .val (.int .i64 s3) [], .any false (SliceOf [T, s2, s3]) [], .val (.bool b) [9]] W.heap.size W [] (fun _ _ => False) _ mixedOrders2 (Nat.le_refl _) (Below.refl _ _) (KeptV.refl _ _ _) rfl (by kernel_rfl) (by kernel_rfl) (by kernel_rfl) (by kernel_rfl) (by kernel_rfl) (by kernel_rfl) (by kernel_rfl) (by kernel_rfl) rfl (by simp [oldsF]) ?_ ?_ ?_ ?_
  · simp only [StableF, and_true]
    exact fun u V V' h k => h.kept k
  · simp only [OldsF]
  · simp (maxSteps := 4000000) [StepsF, DepF, freeAct, fill, pairs]
    repeat' (first | apply And.intro | (intro (u : Value)) | (intro (u : Nat)))
    all_goals first
    | (intro V hV hK
       have xx := Hd (X.out.below hV)
       obtain ⟨-, x0, x1, x2, x3, x4, x5, x6, x7, x8, x9, x10, x11, x12, x13, x14, x15, x16⟩ := xx.out.facts
       clear hV hK
       go_simp
       first
       | exact Below.refl _ _
       | exact ⟨SliceOf.new [T, s2, s3] _ _ _ rfl, (Below.refl _ _).alloc (Nat.le_refl _) _⟩
       | ((with_reducible refine (H1.out V xx.out.bench).mono ?_); rintro e w' ⟨rfl, hb⟩; exact ⟨rfl, hb⟩)
       | ((with_reducible refine (H2.out V xx.out.r).mono ?_); rintro e w' ⟨rfl, hb⟩; exact ⟨rfl, hb⟩)
       | ((with_reducible refine (H3.out V xx.out.s).mono ?_); rintro e w' ⟨rfl, hb⟩; exact ⟨rfl, hb⟩))
    | (intro V hV hK h1
       have h2 := H4.out _ V h1
       obtain ⟨g, t, rfl, -⟩ := h1.form
       clear hV hK
       go_simp
       (refine h2.mono ?_); rintro e w' ⟨rfl, hb⟩; exact ⟨rfl, hb⟩)
  · simp [EndF, FactsF, freeAct, fill, pairs]
    intro u1 V0 hV hK h1 _ _ _
    obtain ⟨g, t, rfl, -⟩ := h1.form
    have X := Hd (X.out.below hV)
    clear hV hK h1 H1 H2 H3 H4
    cases b
    case true =>
      go_wp2_with fail
      refine (known10_true V0 X.out.tab).mono ?_
      rintro e u0 ⟨rfl, hb⟩
      have HB9 := Hd (belowTo X.out.hb hb)
      clear hb
      go_wp2_with fail
      go_ret
      exact ⟨rfl, HB9.out⟩
    have HS := Hd (HLEN.out rfl)
    have HSL := Hd (sumL_cost _ HS.out)
    clear HLEN
    obtain ⟨n9, hn9⟩ : ∃ n : Nat, n = x.l.length + 1 := ⟨_, rfl⟩
    have hl1 : x.l.length ≤ 1048576 := by have := HS.out; omega
    have hw : IntKind.i64.wrap ((x.l.length : Int) + 1) = (n9 : Int) := by rw [IntKind.wrap_i64]; omega
    obtain ⟨-, x0, -⟩ := X.out.facts
    have CC := counted_w z n9 (by omega) (by omega) V0
    rw [show ((n9 : Nat) : Int) = (x.l.length : Int) + 1 from by omega] at CC
    have CC := Hd CC
    go_wp2_with fail
    refine (CC.out).mono ?_
    rintro e u1 ⟨⟨k, hk, rfl⟩, hb⟩
    have X := Hd (X.out.below hb)
    clear hb
    clear x0 hw CC
    have hkl : k ≤ x.l.length := by omega
    have HKL := Hd hkl
    have hkc : (k : Int) ≤ (x.c : Int) := by have := HL2.out.2; omega
    have hkl2 : (k : Int) ≤ (x.l.length : Int) := by omega
    have hk0 : (0 : Int) ≤ (k : Int) := by omega
    clear hn9 hk
    obtain ⟨m1n, m1d, m2n, m2d, m3n, m3d, m4n, m4d, km, BM⟩ := bench_any x.l (by omega) HSL.out
    obtain ⟨a1n, a1d, a2n, a2d, a3n, a3d, a4n, a4d, ka, BA⟩ := bench_any (x.l.take k) (by rw [List.length_take]; omega) (Nat.le_trans (sumL_take _ _) HSL.out)
    obtain ⟨b1n, b1d, b2n, b2d, b3n, b3d, b4n, b4d, kb, BB⟩ := bench_any (x.l.drop k) (by rw [List.length_drop]; omega) (Nat.le_trans (sumL_drop _ _) HSL.out)
    have e1 : (x.l.take k).length = k := by rw [List.length_take]; omega
    have e2 : (x.l.drop k).length = x.l.length - k := by rw [List.length_drop]
    have CM := Hd BM.con
    have CA := BA.con
    have CB := BB.con
    rw [e1] at CA
    rw [e2] at CB
    have CA := Hd CA
    have CB := Hd CB
    have OM := Hd BM.ok
    have OA := Hd BA.ok
    have OB := Hd BB.ok
    clear BM BA BB e1 e2 hl1 hkl
    obtain ⟨-, x0, -⟩ := X.out.facts
    go_wp2_with fail
    refine (CM.out u1 _ _ X.out.bench).mono ?_
    rintro e u2 ⟨v_m, rfl, h_m, hb⟩
    obtain ⟨c_m, rfl⟩ := h_m.isagg
    have X := Hd (X.out.below hb)
    clear hb
    go_upto_region 5 with (refine wpList_store_N rfl 38 _ _ (by rfl) (by rfl) _ _ _ 16 (by rfl) (by rfl) (Blk.new u2 _ _) rfl h_m.cells matInfo ?_; intro y2 hput)
    obtain ⟨hb, V_m⟩ := newM h_m hput
    have V_m := Hd V_m
    have X := Hd (X.out.below hb)
    clear hb hput h_m
    clear x0
    obtain ⟨-, x0, -⟩ := X.out.facts
    go_wp2_with (first | (refine wpList_load_row rfl _ _ (by rfl) _ (by rfl) _ _ _ _ V_m.out.blk Tryz.underlying38 rfl (by rw [V_m.out.size]; exact matInfo) ?_))
    refine (CA.out y2 _ _ (X.out.bench.take k HKL.out)).mono ?_
    rintro e u3 ⟨v_a, rfl, h_a, hb⟩
    obtain ⟨c_a, rfl⟩ := h_a.isagg
    have X := Hd (X.out.below hb)
    have V_m := Hd (V_m.out.below hb)
    clear hb
    go_upto_region 6 with (refine wpList_store_N rfl 38 _ _ (by rfl) (by rfl) _ _ _ 16 (by rfl) (by rfl) (Blk.new u3 _ _) rfl h_a.cells matInfo ?_; intro y3 hput)
    obtain ⟨hb, V_a⟩ := newM h_a hput
    have V_a := Hd V_a
    have X := Hd (X.out.below hb)
    have V_m := Hd (V_m.out.below hb)
    clear hb hput h_a
    clear x0
    obtain ⟨-, x0, -⟩ := X.out.facts
    have hd := X.out.bench.drop k x.c HKL.out HL2.out.2
    obtain ⟨A2, hA2⟩ : ∃ A2, (if x.c = k then x.A else x.A.map (·.add (k * 9))) = A2 := ⟨_, rfl⟩
    rw [hA2] at hd
    have HD := Hd hd
    clear hd
    go_wp2_with (first | (refine wpList_load_row rfl _ _ (by rfl) _ (by rfl) _ _ _ _ V_m.out.blk Tryz.underlying38 rfl (by rw [V_m.out.size]; exact matInfo) ?_) | (refine wpList_load_row rfl _ _ (by rfl) _ (by rfl) _ _ _ _ V_a.out.blk Tryz.underlying38 rfl (by rw [V_a.out.size]; exact matInfo) ?_))
    refine (CB.out y3 _ _ HD.out).mono ?_
    rintro e u4 ⟨v_b, rfl, h_b, hb⟩
    obtain ⟨c_b, rfl⟩ := h_b.isagg
    have X := Hd (X.out.below hb)
    have V_m := Hd (V_m.out.below hb)
    have V_a := Hd (V_a.out.below hb)
    clear hb
    go_upto_region 7 with (refine wpList_store_N rfl 38 _ _ (by rfl) (by rfl) _ _ _ 16 (by rfl) (by rfl) (Blk.new u4 _ _) rfl h_b.cells matInfo ?_; intro y4 hput)
    obtain ⟨hb, V_b⟩ := newM h_b hput
    have V_b := Hd V_b
    have X := Hd (X.out.below hb)
    have V_m := Hd (V_m.out.below hb)
    have V_a := Hd (V_a.out.below hb)
    clear hb hput h_b
    clear x0 CM CA CB HD hA2
    by_cases g1 : km = 0
    case neg =>
      have z_g1 : (km == 0) = false := beq_eq_false_iff_ne.2 g1
      go_wp2_with fail
      refine (known10_true y4 X.out.tab).mono ?_
      rintro e u5 ⟨rfl, hb⟩
      have HB9 := Hd (belowTo X.out.hb hb)
      clear hb
      go_wp2_with fail
      go_ret
      exact ⟨rfl, HB9.out⟩
    subst g1
    by_cases g2 : ka = 0
    case neg =>
      have z_g2 : (ka == 0) = false := beq_eq_false_iff_ne.2 g2
      go_wp2_with fail
      refine (known10_true y4 X.out.tab).mono ?_
      rintro e u6 ⟨rfl, hb⟩
      have HB9 := Hd (belowTo X.out.hb hb)
      clear hb
      go_wp2_with fail
      go_ret
      exact ⟨rfl, HB9.out⟩
    subst g2
    by_cases g3 : kb = 0
    case neg =>
      have z_g3 : (kb == 0) = false := beq_eq_false_iff_ne.2 g3
      go_wp2_with fail
      refine (known10_true y4 X.out.tab).mono ?_
      rintro e u7 ⟨rfl, hb⟩
      have HB9 := Hd (belowTo X.out.hb hb)
      clear hb
      go_wp2_with fail
      go_ret
      exact ⟨rfl, HB9.out⟩
    subst g3
    obtain ⟨F_m, rfl, rfl, rfl, rfl, rfl, rfl, rfl, rfl⟩ := OM.out rfl
    clear OM
    obtain ⟨F_a, rfl, rfl, rfl, rfl, rfl, rfl, rfl, rfl⟩ := OA.out rfl
    clear OA
    obtain ⟨F_b, rfl, rfl, rfl, rfl, rfl, rfl, rfl, rfl⟩ := OB.out rfl
    clear OB
    have em : (benchM ((x.l.drop k).map ERaw.el)).mul (benchM ((x.l.take k).map ERaw.el)) = benchM (x.l.map ERaw.el) := by rw [← benchM_app, ← List.map_append, List.take_append_drop]
    obtain ⟨m, hm⟩ : ∃ m, m = benchM (x.l.map ERaw.el) := ⟨_, rfl⟩
    obtain ⟨a, ha⟩ : ∃ m, m = benchM ((x.l.take k).map ERaw.el) := ⟨_, rfl⟩
    obtain ⟨b, hb⟩ : ∃ m, m = benchM ((x.l.drop k).map ERaw.el) := ⟨_, rfl⟩
    rw [← hm, ← ha, ← hb] at em
    rw [← hm] at F_m V_m
    rw [← ha] at F_a V_a
    rw [← hb] at F_b V_b
    have FM := Hd F_m
    have FA_ := Hd F_a
    have FB := Hd F_b
    have EM := Hd em
    have CX := Hd (show ∀ (V : World) (v1 v2 : Value), MAt V v1 b → MAt V v2 a → Calls Tryz.prog 12 #[v1, v2] V (RetM2 V m 0) from fun V v1 v2 h1 h2 => by
        have := mul_ok F_b F_a (by rw [em]; exact F_m.long) V v1 v2 h1 h2
        rwa [em] at this)
    clear hm ha hb F_m F_a F_b em hkc hkl2 hk0
    go_wp2_with (first | (refine wpList_load_row rfl _ _ (by rfl) _ (by rfl) _ _ _ _ V_m.out.blk Tryz.underlying38 rfl (by rw [V_m.out.size]; exact matInfo) ?_) | (refine wpList_load_row rfl _ _ (by rfl) _ (by rfl) _ _ _ _ V_a.out.blk Tryz.underlying38 rfl (by rw [V_a.out.size]; exact matInfo) ?_) | (refine wpList_load_row rfl _ _ (by rfl) _ (by rfl) _ _ _ _ V_b.out.blk Tryz.underlying38 rfl (by rw [V_b.out.size]; exact matInfo) ?_))
    refine (CX.out y4 _ _ V_b.out.at_ V_a.out.at_).mono ?_
    rintro e u8 ⟨v_n, rfl, h_n, hb⟩
    obtain ⟨c_n, rfl⟩ := h_n.isagg
    have X := Hd (X.out.below hb)
    have V_m := Hd (V_m.out.below hb)
    have V_a := Hd (V_a.out.below hb)
    have V_b := Hd (V_b.out.below hb)
    clear hb
    go_upto_region 10 with (refine wpList_store_N rfl 38 _ _ (by rfl) (by rfl) _ _ _ 16 (by rfl) (by rfl) (Blk.new u8 _ _) rfl h_n.cells matInfo ?_; intro y8 hput)
    obtain ⟨hb, V_n⟩ := newM h_n hput
    have V_n := Hd V_n
    have X := Hd (X.out.below hb)
    have V_m := Hd (V_m.out.below hb)
    have V_a := Hd (V_a.out.below hb)
    have V_b := Hd (V_b.out.below hb)
    clear hb hput h_n
    clear CX
    go_wp2_with (first | (refine wpList_load_row rfl _ _ (by rfl) _ (by rfl) _ _ _ _ V_m.out.blk Tryz.underlying38 rfl (by rw [V_m.out.size]; exact matInfo) ?_) | (refine wpList_load_rowG (by rfl) _ _ (by rfl) _ (by rfl) _ _ _ _ V_m.out.blk Tryz.underlying38 rfl (by rw [V_m.out.size]; exact matInfo) ?_) | (refine wpList_load_row rfl _ _ (by rfl) _ (by rfl) _ _ _ _ V_a.out.blk Tryz.underlying38 rfl (by rw [V_a.out.size]; exact matInfo) ?_) | (refine wpList_load_rowG (by rfl) _ _ (by rfl) _ (by rfl) _ _ _ _ V_a.out.blk Tryz.underlying38 rfl (by rw [V_a.out.size]; exact matInfo) ?_) | (refine wpList_load_row rfl _ _ (by rfl) _ (by rfl) _ _ _ _ V_b.out.blk Tryz.underlying38 rfl (by rw [V_b.out.size]; exact matInfo) ?_) | (refine wpList_load_rowG (by rfl) _ _ (by rfl) _ (by rfl) _ _ _ _ V_b.out.blk Tryz.underlying38 rfl (by rw [V_b.out.size]; exact matInfo) ?_) | (refine wpList_load_row rfl _ _ (by rfl) _ (by rfl) _ _ _ _ V_n.out.blk Tryz.underlying38 rfl (by rw [V_n.out.size]; exact matInfo) ?_) | (refine wpList_load_rowG (by rfl) _ _ (by rfl) _ (by rfl) _ _ _ _ V_n.out.blk Tryz.underlying38 rfl (by rw [V_n.out.size]; exact matInfo) ?_))
    refine (sameMatrix_true y8 _ _ V_m.out.at_ V_n.out.at_).mono ?_
    rintro e u9 ⟨rfl, hb⟩
    have X := Hd (X.out.below hb)
    have V_m := Hd (V_m.out.below hb)
    have V_a := Hd (V_a.out.below hb)
    have V_b := Hd (V_b.out.below hb)
    have V_n := Hd (V_n.out.below hb)
    clear hb
    have HG := Hd (And.intro rfl rfl : x.r.y.may = (chkE x.r.y.n1 x.r.y.n2 x.r.y.xs x.r.y.ys == 0) ∧ x.r.u.may = (chkE x.r.u.n1 x.r.u.n2 x.r.u.xs x.r.u.ys == 0))
    by_cases h1 : chkE x.r.y.n1 x.r.y.n2 x.r.y.xs x.r.y.ys = 0
    case neg =>
      go_wp2_with (first | (refine wpList_load_row rfl _ _ (by rfl) _ (by rfl) _ _ _ _ V_m.out.blk Tryz.underlying38 rfl (by rw [V_m.out.size]; exact matInfo) ?_) | (refine wpList_load_row rfl _ _ (by rfl) _ (by rfl) _ _ _ _ V_a.out.blk Tryz.underlying38 rfl (by rw [V_a.out.size]; exact matInfo) ?_) | (refine wpList_load_row rfl _ _ (by rfl) _ (by rfl) _ _ _ _ V_b.out.blk Tryz.underlying38 rfl (by rw [V_b.out.size]; exact matInfo) ?_) | (refine wpList_load_row rfl _ _ (by rfl) _ (by rfl) _ _ _ _ V_n.out.blk Tryz.underlying38 rfl (by rw [V_n.out.size]; exact matInfo) ?_) | (refine wpList_load_mid rfl 29 _ (by rfl) _ _ (by rfl) _ _ X.out.ray Tryz.underlying29 rfl rayInfo ?_))
      refine (good_no1 rfl h1 u9 _ X.out.r.raw).mono ?_
      rintro e u10 ⟨rfl, hb⟩
      have X := Hd (X.out.below hb)
      have V_m := Hd (V_m.out.below hb)
      have V_a := Hd (V_a.out.below hb)
      have V_b := Hd (V_b.out.below hb)
      have V_n := Hd (V_n.out.below hb)
      clear hb
      go_wp2_with fail
      refine (known10_true u10 X.out.tab).mono ?_
      rintro e u11 ⟨rfl, hb⟩
      have HB9 := Hd (belowTo X.out.hb hb)
      clear hb
      go_wp2_with fail
      go_ret
      exact ⟨rfl, HB9.out⟩
    by_cases h2 : chkE x.r.u.n1 x.r.u.n2 x.r.u.xs x.r.u.ys = 0
    case neg =>
      go_wp2_with (first | (refine wpList_load_row rfl _ _ (by rfl) _ (by rfl) _ _ _ _ V_m.out.blk Tryz.underlying38 rfl (by rw [V_m.out.size]; exact matInfo) ?_) | (refine wpList_load_row rfl _ _ (by rfl) _ (by rfl) _ _ _ _ V_a.out.blk Tryz.underlying38 rfl (by rw [V_a.out.size]; exact matInfo) ?_) | (refine wpList_load_row rfl _ _ (by rfl) _ (by rfl) _ _ _ _ V_b.out.blk Tryz.underlying38 rfl (by rw [V_b.out.size]; exact matInfo) ?_) | (refine wpList_load_row rfl _ _ (by rfl) _ (by rfl) _ _ _ _ V_n.out.blk Tryz.underlying38 rfl (by rw [V_n.out.size]; exact matInfo) ?_) | (refine wpList_load_mid rfl 29 _ (by rfl) _ _ (by rfl) _ _ X.out.ray Tryz.underlying29 rfl rayInfo ?_))
      refine (good_no2 h1 rfl h2 u9 _ X.out.r.raw).mono ?_
      rintro e u12 ⟨rfl, hb⟩
      have X := Hd (X.out.below hb)
      have V_m := Hd (V_m.out.below hb)
      have V_a := Hd (V_a.out.below hb)
      have V_b := Hd (V_b.out.below hb)
      have V_n := Hd (V_n.out.below hb)
      clear hb
      go_wp2_with fail
      refine (known10_true u12 X.out.tab).mono ?_
      rintro e u13 ⟨rfl, hb⟩
      have HB9 := Hd (belowTo X.out.hb hb)
      clear hb
      go_wp2_with fail
      go_ret
      exact ⟨rfl, HB9.out⟩
    go_wp2_with (first | (refine wpList_load_row rfl _ _ (by rfl) _ (by rfl) _ _ _ _ V_m.out.blk Tryz.underlying38 rfl (by rw [V_m.out.size]; exact matInfo) ?_) | (refine wpList_load_row rfl _ _ (by rfl) _ (by rfl) _ _ _ _ V_a.out.blk Tryz.underlying38 rfl (by rw [V_a.out.size]; exact matInfo) ?_) | (refine wpList_load_row rfl _ _ (by rfl) _ (by rfl) _ _ _ _ V_b.out.blk Tryz.underlying38 rfl (by rw [V_b.out.size]; exact matInfo) ?_) | (refine wpList_load_row rfl _ _ (by rfl) _ (by rfl) _ _ _ _ V_n.out.blk Tryz.underlying38 rfl (by rw [V_n.out.size]; exact matInfo) ?_) | (refine wpList_load_mid rfl 29 _ (by rfl) _ _ (by rfl) _ _ X.out.ray Tryz.underlying29 rfl rayInfo ?_))
    refine (good_yes h1 h2 u9 _ X.out.r.raw).mono ?_
    rintro e u14 ⟨rfl, hb⟩
    have X := Hd (X.out.below hb)
    have V_m := Hd (V_m.out.below hb)
    have V_a := Hd (V_a.out.below hb)
    have V_b := Hd (V_b.out.below hb)
    have V_n := Hd (V_n.out.below hb)
    clear hb
    have hmay : x.r.may = true := by unfold RRaw.may; rw [HG.out.1, HG.out.2, h1, h2]; rfl
    have HMAY := Hd hmay
    have FR := Hd (RRaw.at_ X.out.r hmay).1
    clear h1 h2 hmay HG
    obtain ⟨p1n, p1d, p2n, p2d, kp, RP, CP⟩ := through_any (rayM a x.r.rat)
    have CP := Hd (CP a x.r.rat FA_.out FR.out rfl)
    have RP := Hd RP.ok
    go_wp2_with (first | (refine wpList_load_row rfl _ _ (by rfl) _ (by rfl) _ _ _ _ V_m.out.blk Tryz.underlying38 rfl (by rw [V_m.out.size]; exact matInfo) ?_) | (refine wpList_load_row rfl _ _ (by rfl) _ (by rfl) _ _ _ _ V_a.out.blk Tryz.underlying38 rfl (by rw [V_a.out.size]; exact matInfo) ?_) | (refine wpList_load_row rfl _ _ (by rfl) _ (by rfl) _ _ _ _ V_b.out.blk Tryz.underlying38 rfl (by rw [V_b.out.size]; exact matInfo) ?_) | (refine wpList_load_row rfl _ _ (by rfl) _ (by rfl) _ _ _ _ V_n.out.blk Tryz.underlying38 rfl (by rw [V_n.out.size]; exact matInfo) ?_) | (refine wpList_load_mid rfl 29 _ (by rfl) _ _ (by rfl) _ _ X.out.ray Tryz.underlying29 rfl rayInfo ?_))
    refine (CP.out u14 _ _ V_a.out.at_ (RRaw.at_ X.out.r HMAY.out).2).mono ?_
    rintro e u15 ⟨v_r, rfl, h_r, hb⟩
    obtain ⟨c_r, rfl⟩ := h_r.isagg
    have X := Hd (X.out.below hb)
    have V_m := Hd (V_m.out.below hb)
    have V_a := Hd (V_a.out.below hb)
    have V_b := Hd (V_b.out.below hb)
    have V_n := Hd (V_n.out.below hb)
    clear hb
    go_upto_region 15 with (refine wpList_store_N rfl 29 _ _ (by rfl) (by rfl) _ _ _ 8 (by rfl) (by rfl) (Blk.new u15 _ _) rfl h_r.cells rayInfo ?_; intro y15 hput)
    obtain ⟨hb, V_r⟩ := newR h_r hput
    have V_r := Hd V_r
    have X := Hd (X.out.below hb)
    have V_m := Hd (V_m.out.below hb)
    have V_a := Hd (V_a.out.below hb)
    have V_b := Hd (V_b.out.below hb)
    have V_n := Hd (V_n.out.below hb)
    clear hb hput h_r
    by_cases g4 : kp = 0
    case neg =>
      have z_g4 : (kp == 0) = false := beq_eq_false_iff_ne.2 g4
      go_wp2_with fail
      refine (known10_true y15 X.out.tab).mono ?_
      rintro e u16 ⟨rfl, hb⟩
      have HB9 := Hd (belowTo X.out.hb hb)
      clear hb
      go_wp2_with fail
      go_ret
      exact ⟨rfl, HB9.out⟩
    subst g4
    obtain ⟨F_r, rfl, rfl, rfl, rfl⟩ := RP.out rfl
    have FRR := Hd F_r
    clear RP CP F_r
    obtain ⟨q1n, q1d, q2n, q2d, kq, -, CQ⟩ := through_any (rayM m x.r.rat)
    have C1 := Hd (CQ b (rayM a x.r.rat) FB.out FRR.out (by rw [← rayM_mul, EM.out]))
    have C2 := Hd (CQ m x.r.rat FM.out FR.out rfl)
    clear CQ
    go_wp2_with (first | (refine wpList_load_row rfl _ _ (by rfl) _ (by rfl) _ _ _ _ V_m.out.blk Tryz.underlying38 rfl (by rw [V_m.out.size]; exact matInfo) ?_) | (refine wpList_load_row rfl _ _ (by rfl) _ (by rfl) _ _ _ _ V_a.out.blk Tryz.underlying38 rfl (by rw [V_a.out.size]; exact matInfo) ?_) | (refine wpList_load_row rfl _ _ (by rfl) _ (by rfl) _ _ _ _ V_b.out.blk Tryz.underlying38 rfl (by rw [V_b.out.size]; exact matInfo) ?_) | (refine wpList_load_row rfl _ _ (by rfl) _ (by rfl) _ _ _ _ V_n.out.blk Tryz.underlying38 rfl (by rw [V_n.out.size]; exact matInfo) ?_) | (refine wpList_load_row rfl _ _ (by rfl) _ (by rfl) _ _ _ _ V_r.out.blk Tryz.underlying29 rfl (by rw [V_r.out.size]; exact rayInfo) ?_))
    refine (C1.out y15 _ _ V_b.out.at_ V_r.out.at_).mono ?_
    rintro e u17 ⟨v_s, rfl, h_s, hb⟩
    obtain ⟨c_s, rfl⟩ := h_s.isagg
    have X := Hd (X.out.below hb)
    have V_m := Hd (V_m.out.below hb)
    have V_a := Hd (V_a.out.below hb)
    have V_b := Hd (V_b.out.below hb)
    have V_n := Hd (V_n.out.below hb)
    have V_r := Hd (V_r.out.below hb)
    clear hb
    go_upto_region 18 with (refine wpList_store_N rfl 29 _ _ (by rfl) (by rfl) _ _ _ 8 (by rfl) (by rfl) (Blk.new u17 _ _) rfl h_s.cells rayInfo ?_; intro y17 hput)
    obtain ⟨hb, V_s⟩ := newR h_s hput
    have V_s := Hd V_s
    have X := Hd (X.out.below hb)
    have V_m := Hd (V_m.out.below hb)
    have V_a := Hd (V_a.out.below hb)
    have V_b := Hd (V_b.out.below hb)
    have V_n := Hd (V_n.out.below hb)
    have V_r := Hd (V_r.out.below hb)
    clear hb hput h_s
    go_wp2_with (first | (refine wpList_load_row rfl _ _ (by rfl) _ (by rfl) _ _ _ _ V_m.out.blk Tryz.underlying38 rfl (by rw [V_m.out.size]; exact matInfo) ?_) | (refine wpList_load_row rfl _ _ (by rfl) _ (by rfl) _ _ _ _ V_a.out.blk Tryz.underlying38 rfl (by rw [V_a.out.size]; exact matInfo) ?_) | (refine wpList_load_row rfl _ _ (by rfl) _ (by rfl) _ _ _ _ V_b.out.blk Tryz.underlying38 rfl (by rw [V_b.out.size]; exact matInfo) ?_) | (refine wpList_load_row rfl _ _ (by rfl) _ (by rfl) _ _ _ _ V_n.out.blk Tryz.underlying38 rfl (by rw [V_n.out.size]; exact matInfo) ?_) | (refine wpList_load_row rfl _ _ (by rfl) _ (by rfl) _ _ _ _ V_r.out.blk Tryz.underlying29 rfl (by rw [V_r.out.size]; exact rayInfo) ?_) | (refine wpList_load_row rfl _ _ (by rfl) _ (by rfl) _ _ _ _ V_s.out.blk Tryz.underlying29 rfl (by rw [V_s.out.size]; exact rayInfo) ?_) | (refine wpList_load_mid rfl 29 _ (by rfl) _ _ (by rfl) _ _ X.out.ray Tryz.underlying29 rfl rayInfo ?_))
    refine (C2.out y17 _ _ V_m.out.at_ (RRaw.at_ X.out.r HMAY.out).2).mono ?_
    rintro e u18 ⟨v_t, rfl, h_t, hb⟩
    obtain ⟨c_t, rfl⟩ := h_t.isagg
    have X := Hd (X.out.below hb)
    have V_m := Hd (V_m.out.below hb)
    have V_a := Hd (V_a.out.below hb)
    have V_b := Hd (V_b.out.below hb)
    have V_n := Hd (V_n.out.below hb)
    have V_r := Hd (V_r.out.below hb)
    have V_s := Hd (V_s.out.below hb)
    clear hb
    go_upto_region 19 with (refine wpList_store_N rfl 29 _ _ (by rfl) (by rfl) _ _ _ 8 (by rfl) (by rfl) (Blk.new u18 _ _) rfl h_t.cells rayInfo ?_; intro y18 hput)
    obtain ⟨hb, V_t⟩ := newR h_t hput
    have V_t := Hd V_t
    have X := Hd (X.out.below hb)
    have V_m := Hd (V_m.out.below hb)
    have V_a := Hd (V_a.out.below hb)
    have V_b := Hd (V_b.out.below hb)
    have V_n := Hd (V_n.out.below hb)
    have V_r := Hd (V_r.out.below hb)
    have V_s := Hd (V_s.out.below hb)
    clear hb hput h_t
    clear C1 C2
    by_cases g5 : kq = 0
    case neg =>
      have z_g5 : (kq == 0) = false := beq_eq_false_iff_ne.2 g5
      go_wp2_with fail
      refine (known10_true y18 X.out.tab).mono ?_
      rintro e u19 ⟨rfl, hb⟩
      have HB9 := Hd (belowTo X.out.hb hb)
      clear hb
      go_wp2_with fail
      go_ret
      exact ⟨rfl, HB9.out⟩
    subst g5
    go_wp2_with (first | (refine wpList_load_row rfl _ _ (by rfl) _ (by rfl) _ _ _ _ V_m.out.blk Tryz.underlying38 rfl (by rw [V_m.out.size]; exact matInfo) ?_) | (refine wpList_load_rowG (by rfl) _ _ (by rfl) _ (by rfl) _ _ _ _ V_m.out.blk Tryz.underlying38 rfl (by rw [V_m.out.size]; exact matInfo) ?_) | (refine wpList_load_row rfl _ _ (by rfl) _ (by rfl) _ _ _ _ V_a.out.blk Tryz.underlying38 rfl (by rw [V_a.out.size]; exact matInfo) ?_) | (refine wpList_load_rowG (by rfl) _ _ (by rfl) _ (by rfl) _ _ _ _ V_a.out.blk Tryz.underlying38 rfl (by rw [V_a.out.size]; exact matInfo) ?_) | (refine wpList_load_row rfl _ _ (by rfl) _ (by rfl) _ _ _ _ V_b.out.blk Tryz.underlying38 rfl (by rw [V_b.out.size]; exact matInfo) ?_) | (refine wpList_load_rowG (by rfl) _ _ (by rfl) _ (by rfl) _ _ _ _ V_b.out.blk Tryz.underlying38 rfl (by rw [V_b.out.size]; exact matInfo) ?_) | (refine wpList_load_row rfl _ _ (by rfl) _ (by rfl) _ _ _ _ V_n.out.blk Tryz.underlying38 rfl (by rw [V_n.out.size]; exact matInfo) ?_) | (refine wpList_load_rowG (by rfl) _ _ (by rfl) _ (by rfl) _ _ _ _ V_n.out.blk Tryz.underlying38 rfl (by rw [V_n.out.size]; exact matInfo) ?_) | (refine wpList_load_row rfl _ _ (by rfl) _ (by rfl) _ _ _ _ V_r.out.blk Tryz.underlying29 rfl (by rw [V_r.out.size]; exact rayInfo) ?_) | (refine wpList_load_rowG (by rfl) _ _ (by rfl) _ (by rfl) _ _ _ _ V_r.out.blk Tryz.underlying29 rfl (by rw [V_r.out.size]; exact rayInfo) ?_) | (refine wpList_load_row rfl _ _ (by rfl) _ (by rfl) _ _ _ _ V_s.out.blk Tryz.underlying29 rfl (by rw [V_s.out.size]; exact rayInfo) ?_) | (refine wpList_load_rowG (by rfl) _ _ (by rfl) _ (by rfl) _ _ _ _ V_s.out.blk Tryz.underlying29 rfl (by rw [V_s.out.size]; exact rayInfo) ?_) | (refine wpList_load_row rfl _ _ (by rfl) _ (by rfl) _ _ _ _ V_t.out.blk Tryz.underlying29 rfl (by rw [V_t.out.size]; exact rayInfo) ?_) | (refine wpList_load_rowG (by rfl) _ _ (by rfl) _ (by rfl) _ _ _ _ V_t.out.blk Tryz.underlying29 rfl (by rw [V_t.out.size]; exact rayInfo) ?_))
    refine (sameRay_true y18 _ _ V_s.out.at_ V_t.out.at_).mono ?_
    rintro e u20 ⟨rfl, hb⟩
    have X := Hd (X.out.below hb)
    have V_m := Hd (V_m.out.below hb)
    have V_a := Hd (V_a.out.below hb)
    have V_b := Hd (V_b.out.below hb)
    have V_n := Hd (V_n.out.below hb)
    have V_r := Hd (V_r.out.below hb)
    have V_s := Hd (V_s.out.below hb)
    have V_t := Hd (V_t.out.below hb)
    clear hb
    go_wp2_with fail
    refine (known10_true u20 X.out.tab).mono ?_
    rintro e u21 ⟨rfl, hb⟩
    have HB9 := Hd (belowTo X.out.hb hb)
    clear hb
    go_wp2_with fail
    go_ret
    exact ⟨rfl, HB9.out⟩
end Go.Proofs.YtmcnmoljliggfaaGreatDoor
