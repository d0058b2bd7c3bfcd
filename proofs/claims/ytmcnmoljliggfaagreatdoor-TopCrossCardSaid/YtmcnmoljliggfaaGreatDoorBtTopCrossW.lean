/- Several texts in one: TopCrossW. -/
import Derived.Test.YtmcnmoljliggfaaGreatDoorBtTopCutW
import Derived.Test.YtmcnmoljliggfaaGreatDoorBt37
set_option maxRecDepth 100000
set_option maxHeartbeats 8000000
/- TopCross: the walk. (Written by wip/top/gentopcross.py.) -/
namespace Go.Proofs.YtmcnmoljliggfaaGreatDoor
open Go.RowKit

theorem cross_true (x : LRaw) (w : World) (hbn : BenchIn w w.heap.size x.A x.l) (hlc : x.l.length ≤ x.c) (hl2 : x.l.length ≤ 4611686018427387904) (hr : x.r.In w) (hs : x.s.In w) (sm : ∀ e ∈ x.l, e.small) (sr : x.r.small) (ss : x.s.small) (htab : powTab w) :
    Calls Tryz.prog 4 #[.agg #[.slice x.A x.l.length x.c, .bool x.r.y.n1, .slice x.r.y.A x.r.y.xs.length x.r.y.c, .bool x.r.y.n2, .slice x.r.y.B x.r.y.ys.length x.r.y.e, .bool x.r.u.n1, .slice x.r.u.A x.r.u.xs.length x.r.u.c, .bool x.r.u.n2, .slice x.r.u.B x.r.u.ys.length x.r.u.e, .bool x.s.y.n1, .slice x.s.y.A x.s.y.xs.length x.s.y.c, .bool x.s.y.n2, .slice x.s.y.B x.s.y.ys.length x.s.y.e, .bool x.s.u.n1, .slice x.s.u.A x.s.u.xs.length x.s.u.c, .bool x.s.u.n2, .slice x.s.u.B x.s.u.ys.length x.s.u.e]] w fun e w' => e = .returned (.bool true) ∧ Below w.heap.size w w' := by
  have hlen := hlc
  have M0 : ∀ c ∈ x.l.map ERaw.cost, c ≤ 4611826755915743236 := fun c hc => by
    obtain ⟨e, he, rfl⟩ := List.mem_map.1 hc
    exact ERaw.cost_le (sm e he)
  obtain ⟨T, hT⟩ : ∃ n : Nat, costE (x.l.map ERaw.cost) x.l.length = n := ⟨_, rfl⟩
  have hT9 := costE_le (x.l.map ERaw.cost) x.l.length M0 (by omega)
  have C1 := fun (V : World) (h : BenchIn V V.heap.size x.A x.l) => els_cost x.l (x.l.map ERaw.cost) T x.A x.c hl2 (by simp) M0 hT V h.row (fun i hi U hU => by
    have := el_cost x.l[i] U ((h.els _ (List.getElem_mem hi)).below hU) (sm _ (List.getElem_mem hi))
    rw [List.getD_eq_getElem?_getD, List.getElem?_map, List.getElem?_eq_getElem hi]
    exact this)
  have C2 := fun (V : World) (h : x.r.In V) => ray_cost sr.1.1 sr.1.2 sr.2.1 sr.2.2 V _ h.raw
  have C3 := fun (V : World) (h : x.s.In V) => ray_cost ss.1.1 ss.1.2 ss.2.1 ss.2.2 V _ h.raw
  have b1 := fcost_le sr.1.1 sr.1.2
  have b2 := fcost_le sr.2.1 sr.2.2
  have b3 := fcost_le ss.1.1 ss.1.2
  have b4 := fcost_le ss.2.1 ss.2.2
  obtain ⟨s2, e2⟩ : ∃ k : Nat, k = fcost x.r.y.xs.length x.r.y.ys.length + fcost x.r.u.xs.length x.r.u.ys.length := ⟨_, rfl⟩
  obtain ⟨s3, e3⟩ : ∃ k : Nat, k = fcost x.s.y.xs.length x.s.y.ys.length + fcost x.s.u.xs.length x.s.u.ys.length := ⟨_, rfl⟩
  rw [← e2] at C2
  rw [← e3] at C3
  obtain ⟨b, hbe⟩ : ∃ b : Bool, b = decide (1048576 < [T, s2, s3].sum) := ⟨_, rfl⟩
  have HLEN := Hd (show b = false → x.l.length + (x.l.map ERaw.cost).sum ≤ 1048576 from by
    intro e
    rw [e] at hbe
    have h9 := of_decide_eq_false hbe.symm
    simp at h9
    exact costE_sum _ _ (by omega))
  have H4 := Hd (fun (u : Value) (V : World) (h : SliceOf [T, s2, s3] u V) => beyond_of3 [T, s2, s3] b (by simp) (by simp; omega) hbe u V h)
  have H1 := Hd C1
  have H2 := Hd C2
  have H3 := Hd C3
  have HL2 := Hd (And.intro hl2 hlen)
  clear C1 C2 C3 M0 hT hT9 b1 b2 b3 b4 e2 e3 hbe hl2 sm sr ss hlen hlc
  go_enter Tryz.func4, Tryz.ntmps4
  go_upto_region 1 with fail
  refine boxes1 (P := fun W => Code.wp _ _ _ _ W) fun W p0 b0 => ?_
  have X := Hd (show LightS w W w.heap.size x from ⟨p0, hbn.to b0, hr.below b0, hs.below b0, htab.below2 b0, b0⟩)
  clear p0 b0 hbn hr hs htab
  go_wp2_with fail
  refine wp_region_free [.val (.pointer (some ⟨w.heap.size, 0, none⟩)) [], .val (.slice x.A x.l.length x.c) [], .val (.int .i64 T) [], .val (.pointer (some ⟨w.heap.size, 1, none⟩)) [], .val (.agg #[.bool x.r.y.n1, .slice x.r.y.A x.r.y.xs.length x.r.y.c, .bool x.r.y.n2, .slice x.r.y.B x.r.y.ys.length x.r.y.e, .bool x.r.u.n1, .slice x.r.u.A x.r.u.xs.length x.r.u.c, .bool x.r.u.n2, .slice x.r.u.B x.r.u.ys.length x.r.u.e]) [], .val (.int .i64 s2) [], .val (.pointer (some ⟨w.heap.size, 9, none⟩)) [], .val (.agg #[.bool x.s.y.n1, .slice x.s.y.A x.s.y.xs.length x.s.y.c, .bool x.s.y.n2, .slice x.s.y.B x.s.y.ys.length x.s.y.e, .bool x.s.u.n1, .slice x.s.u.A x.s.u.xs.length x.s.u.c, .bool x.s.u.n2, .slice x.s.u.B x.s.u.ys.length x.s.u.e]) [], .val (.int .i64 s3) [], .any false (SliceOf [T, s2, s3]) [], .val (.bool b) [9]] W.heap.size W [] (fun _ _ => False) _ mixedOrders2 (Nat.le_refl _) (Below.refl _ _) (KeptV.refl _ _ _) rfl (by kernel_rfl) (by kernel_rfl) (by kernel_rfl) (by kernel_rfl) (by kernel_rfl) (by kernel_rfl) (by kernel_rfl) (by kernel_rfl) rfl (by simp [oldsF]) ?_ ?_ ?_ ?_
  · simp only [StableF, and_true]
    exact fun u V V' h k => h.kept k
  · simp only [OldsF]
  · simp (maxSteps := 4000000) [StepsF, DepF, freeAct, fill, pairs]
    repeat' (first | apply And.intro | (intro (u : Value)) | (intro (u : Nat)))
    all_goals first
    | (intro V hV hK
       have xx := Hd (X.out.below hV)
       obtain ⟨-, x0, x1, x2, x3, x4, x5, x6, x7, x8, x9, x10, x11, x12, x13, x14, x15, x16⟩ := xx.out.facts
       clear hV hK
       go_simp
       first
       | exact Below.refl _ _
       | exact ⟨SliceOf.new [T, s2, s3] _ _ _ rfl, (Below.refl _ _).alloc (Nat.le_refl _) _⟩
       | ((with_reducible refine (H1.out V xx.out.bench).mono ?_); rintro e w' ⟨rfl, hb⟩; exact ⟨rfl, hb⟩)
       | ((with_reducible refine (H2.out V xx.out.r).mono ?_); rintro e w' ⟨rfl, hb⟩; exact ⟨rfl, hb⟩)
       | ((with_reducible refine (H3.out V xx.out.s).mono ?_); rintro e w' ⟨rfl, hb⟩; exact ⟨rfl, hb⟩))
    | (intro V hV hK h1
       have h2 := H4.out _ V h1
       obtain ⟨g, t, rfl, -⟩ := h1.form
       clear hV hK
       go_simp
       (refine h2.mono ?_); rintro e w' ⟨rfl, hb⟩; exact ⟨rfl, hb⟩)
  · simp [EndF, FactsF, freeAct, fill, pairs]
    intro u1 V0 hV hK h1 _ _ _
    obtain ⟨g, t, rfl, -⟩ := h1.form
    have X := Hd (X.out.below hV)
    clear hV hK h1 H1 H2 H3 H4
    cases b
    case true =>
      go_wp2_with fail
      refine (known10_true V0 X.out.tab).mono ?_
      rintro e u0 ⟨rfl, hb⟩
      have HB9 := Hd (belowTo X.out.hb hb)
      clear hb
      go_wp2_with fail
      go_ret
      exact ⟨rfl, HB9.out⟩
    have HS := Hd (HLEN.out rfl)
    have HSL := Hd (sumL_cost _ HS.out)
    clear HLEN
    have hl1 : x.l.length ≤ 1048576 := by have := HS.out; omega
    obtain ⟨m1n, m1d, m2n, m2d, m3n, m3d, m4n, m4d, km, BM⟩ := bench_any x.l (by omega) HSL.out
    have CM := Hd BM.con
    have OM := Hd BM.ok
    clear BM hl1
    obtain ⟨-, x0, -⟩ := X.out.facts
    go_wp2_with fail
    refine (CM.out V0 _ _ X.out.bench).mono ?_
    rintro e u1 ⟨v_m, rfl, h_m, hb⟩
    obtain ⟨c_m, rfl⟩ := h_m.isagg
    have X := Hd (X.out.below hb)
    clear hb
    go_upto_region 4 with (refine wpList_store_N rfl 38 _ _ (by rfl) (by rfl) _ _ _ 16 (by rfl) (by rfl) (Blk.new u1 _ _) rfl h_m.cells matInfo ?_; intro y1 hput)
    obtain ⟨hb, V_m⟩ := newM h_m hput
    have V_m := Hd V_m
    have X := Hd (X.out.below hb)
    clear hb hput h_m
    clear x0 CM
    by_cases g1 : km = 0
    case neg =>
      have z_g1 : (km == 0) = false := beq_eq_false_iff_ne.2 g1
      go_wp2_with fail
      refine (known10_true y1 X.out.tab).mono ?_
      rintro e u2 ⟨rfl, hb⟩
      have HB9 := Hd (belowTo X.out.hb hb)
      clear hb
      go_wp2_with fail
      go_ret
      exact ⟨rfl, HB9.out⟩
    subst g1
    obtain ⟨F_m, rfl, rfl, rfl, rfl, rfl, rfl, rfl, rfl⟩ := OM.out rfl
    clear OM
    obtain ⟨m, hm⟩ : ∃ m, m = benchM (x.l.map ERaw.el) := ⟨_, rfl⟩
    rw [← hm] at F_m V_m
    have FM := Hd F_m
    clear hm F_m
    have HG := Hd (And.intro (And.intro rfl rfl : x.r.y.may = (chkE x.r.y.n1 x.r.y.n2 x.r.y.xs x.r.y.ys == 0) ∧ x.r.u.may = (chkE x.r.u.n1 x.r.u.n2 x.r.u.xs x.r.u.ys == 0)) (And.intro rfl rfl : x.s.y.may = (chkE x.s.y.n1 x.s.y.n2 x.s.y.xs x.s.y.ys == 0) ∧ x.s.u.may = (chkE x.s.u.n1 x.s.u.n2 x.s.u.xs x.s.u.ys == 0)))
    by_cases h1 : chkE x.r.y.n1 x.r.y.n2 x.r.y.xs x.r.y.ys = 0
    case neg =>
      go_wp2_with (first | (refine wpList_load_row rfl _ _ (by rfl) _ (by rfl) _ _ _ _ V_m.out.blk Tryz.underlying38 rfl (by rw [V_m.out.size]; exact matInfo) ?_) | (refine wpList_load_midG (by rfl) 29 _ (by rfl) _ _ (by rfl) _ _ X.out.ray Tryz.underlying29 rfl rayInfo ?_))
      refine (good_no1 rfl h1 y1 _ X.out.r.raw).mono ?_
      rintro e u3 ⟨rfl, hb⟩
      have X := Hd (X.out.below hb)
      have V_m := Hd (V_m.out.below hb)
      clear hb
      go_wp2_with fail
      refine (known10_true u3 X.out.tab).mono ?_
      rintro e u4 ⟨rfl, hb⟩
      have HB9 := Hd (belowTo X.out.hb hb)
      clear hb
      go_wp2_with fail
      go_ret
      exact ⟨rfl, HB9.out⟩
    by_cases h2 : chkE x.r.u.n1 x.r.u.n2 x.r.u.xs x.r.u.ys = 0
    case neg =>
      go_wp2_with (first | (refine wpList_load_row rfl _ _ (by rfl) _ (by rfl) _ _ _ _ V_m.out.blk Tryz.underlying38 rfl (by rw [V_m.out.size]; exact matInfo) ?_) | (refine wpList_load_midG (by rfl) 29 _ (by rfl) _ _ (by rfl) _ _ X.out.ray Tryz.underlying29 rfl rayInfo ?_))
      refine (good_no2 h1 rfl h2 y1 _ X.out.r.raw).mono ?_
      rintro e u5 ⟨rfl, hb⟩
      have X := Hd (X.out.below hb)
      have V_m := Hd (V_m.out.below hb)
      clear hb
      go_wp2_with fail
      refine (known10_true u5 X.out.tab).mono ?_
      rintro e u6 ⟨rfl, hb⟩
      have HB9 := Hd (belowTo X.out.hb hb)
      clear hb
      go_wp2_with fail
      go_ret
      exact ⟨rfl, HB9.out⟩
    go_wp2_with (first | (refine wpList_load_row rfl _ _ (by rfl) _ (by rfl) _ _ _ _ V_m.out.blk Tryz.underlying38 rfl (by rw [V_m.out.size]; exact matInfo) ?_) | (refine wpList_load_midG (by rfl) 29 _ (by rfl) _ _ (by rfl) _ _ X.out.ray Tryz.underlying29 rfl rayInfo ?_))
    refine (good_yes h1 h2 y1 _ X.out.r.raw).mono ?_
    rintro e u7 ⟨rfl, hb⟩
    have X := Hd (X.out.below hb)
    have V_m := Hd (V_m.out.below hb)
    clear hb
    by_cases h3 : chkE x.s.y.n1 x.s.y.n2 x.s.y.xs x.s.y.ys = 0
    case neg =>
      go_wp2_with (first | (refine wpList_load_row rfl _ _ (by rfl) _ (by rfl) _ _ _ _ V_m.out.blk Tryz.underlying38 rfl (by rw [V_m.out.size]; exact matInfo) ?_) | (refine wpList_load_midG (by rfl) 29 _ (by rfl) _ _ (by rfl) _ _ X.out.ray2 Tryz.underlying29 rfl rayInfo ?_))
      refine (good_no1 rfl h3 u7 _ X.out.s.raw).mono ?_
      rintro e u8 ⟨rfl, hb⟩
      have X := Hd (X.out.below hb)
      have V_m := Hd (V_m.out.below hb)
      clear hb
      go_wp2_with fail
      refine (known10_true u8 X.out.tab).mono ?_
      rintro e u9 ⟨rfl, hb⟩
      have HB9 := Hd (belowTo X.out.hb hb)
      clear hb
      go_wp2_with fail
      go_ret
      exact ⟨rfl, HB9.out⟩
    by_cases h4 : chkE x.s.u.n1 x.s.u.n2 x.s.u.xs x.s.u.ys = 0
    case neg =>
      go_wp2_with (first | (refine wpList_load_row rfl _ _ (by rfl) _ (by rfl) _ _ _ _ V_m.out.blk Tryz.underlying38 rfl (by rw [V_m.out.size]; exact matInfo) ?_) | (refine wpList_load_midG (by rfl) 29 _ (by rfl) _ _ (by rfl) _ _ X.out.ray2 Tryz.underlying29 rfl rayInfo ?_))
      refine (good_no2 h3 rfl h4 u7 _ X.out.s.raw).mono ?_
      rintro e u10 ⟨rfl, hb⟩
      have X := Hd (X.out.below hb)
      have V_m := Hd (V_m.out.below hb)
      clear hb
      go_wp2_with fail
      refine (known10_true u10 X.out.tab).mono ?_
      rintro e u11 ⟨rfl, hb⟩
      have HB9 := Hd (belowTo X.out.hb hb)
      clear hb
      go_wp2_with fail
      go_ret
      exact ⟨rfl, HB9.out⟩
    go_wp2_with (first | (refine wpList_load_row rfl _ _ (by rfl) _ (by rfl) _ _ _ _ V_m.out.blk Tryz.underlying38 rfl (by rw [V_m.out.size]; exact matInfo) ?_) | (refine wpList_load_midG (by rfl) 29 _ (by rfl) _ _ (by rfl) _ _ X.out.ray2 Tryz.underlying29 rfl rayInfo ?_))
    refine (good_yes h3 h4 u7 _ X.out.s.raw).mono ?_
    rintro e u12 ⟨rfl, hb⟩
    have X := Hd (X.out.below hb)
    have V_m := Hd (V_m.out.below hb)
    clear hb
    have hmayr : x.r.may = true := by unfold RRaw.may; rw [HG.out.1.1, HG.out.1.2, h1, h2]; rfl
    have HMr := Hd hmayr
    have Fr := Hd (RRaw.at_ X.out.r hmayr).1
    have hmays : x.s.may = true := by unfold RRaw.may; rw [HG.out.2.1, HG.out.2.2, h3, h4]; rfl
    have HMs := Hd hmays
    have Fs := Hd (RRaw.at_ X.out.s hmays).1
    clear h1 h2 h3 h4 hmayr hmays HG
    go_wp2_with (first | (refine wpList_load_row rfl _ _ (by rfl) _ (by rfl) _ _ _ _ V_m.out.blk Tryz.underlying38 rfl (by rw [V_m.out.size]; exact matInfo) ?_))
    refine (chk_q FM.out u12 _ V_m.out.at_).mono ?_
    rintro e u13 ⟨rfl, hb⟩
    have X := Hd (X.out.below hb)
    have V_m := Hd (V_m.out.below hb)
    clear hb
    obtain ⟨p1n, p1d, p2n, p2d, kp, RPp, CPp⟩ := through_any (rayM m x.r.rat)
    have CPp := Hd (CPp m x.r.rat FM.out Fr.out rfl)
    have RPp := Hd RPp.ok
    go_wp2_with (first | (refine wpList_load_row rfl _ _ (by rfl) _ (by rfl) _ _ _ _ V_m.out.blk Tryz.underlying38 rfl (by rw [V_m.out.size]; exact matInfo) ?_) | (refine wpList_load_mid rfl 29 _ (by rfl) _ _ (by rfl) _ _ X.out.ray Tryz.underlying29 rfl rayInfo ?_))
    refine (CPp.out u13 _ _ V_m.out.at_ (RRaw.at_ X.out.r HMr.out).2).mono ?_
    rintro e u14 ⟨v_p, rfl, h_p, hb⟩
    obtain ⟨c_p, rfl⟩ := h_p.isagg
    have X := Hd (X.out.below hb)
    have V_m := Hd (V_m.out.below hb)
    clear hb
    go_upto_region 9 with (refine wpList_store_N rfl 29 _ _ (by rfl) (by rfl) _ _ _ 8 (by rfl) (by rfl) (Blk.new u14 _ _) rfl h_p.cells rayInfo ?_; intro y14 hput)
    obtain ⟨hb, V_p⟩ := newR h_p hput
    have V_p := Hd V_p
    have X := Hd (X.out.below hb)
    have V_m := Hd (V_m.out.below hb)
    clear hb hput h_p
    clear CPp
    obtain ⟨q1n, q1d, q2n, q2d, kq, RPq, CPq⟩ := through_any (rayM m x.s.rat)
    have CPq := Hd (CPq m x.s.rat FM.out Fs.out rfl)
    have RPq := Hd RPq.ok
    go_wp2_with (first | (refine wpList_load_row rfl _ _ (by rfl) _ (by rfl) _ _ _ _ V_m.out.blk Tryz.underlying38 rfl (by rw [V_m.out.size]; exact matInfo) ?_) | (refine wpList_load_row rfl _ _ (by rfl) _ (by rfl) _ _ _ _ V_p.out.blk Tryz.underlying29 rfl (by rw [V_p.out.size]; exact rayInfo) ?_) | (refine wpList_load_mid rfl 29 _ (by rfl) _ _ (by rfl) _ _ X.out.ray2 Tryz.underlying29 rfl rayInfo ?_))
    refine (CPq.out y14 _ _ V_m.out.at_ (RRaw.at_ X.out.s HMs.out).2).mono ?_
    rintro e u15 ⟨v_q, rfl, h_q, hb⟩
    obtain ⟨c_q, rfl⟩ := h_q.isagg
    have X := Hd (X.out.below hb)
    have V_m := Hd (V_m.out.below hb)
    have V_p := Hd (V_p.out.below hb)
    clear hb
    go_upto_region 10 with (refine wpList_store_N rfl 29 _ _ (by rfl) (by rfl) _ _ _ 8 (by rfl) (by rfl) (Blk.new u15 _ _) rfl h_q.cells rayInfo ?_; intro y15 hput)
    obtain ⟨hb, V_q⟩ := newR h_q hput
    have V_q := Hd V_q
    have X := Hd (X.out.below hb)
    have V_m := Hd (V_m.out.below hb)
    have V_p := Hd (V_p.out.below hb)
    clear hb hput h_q
    clear CPq
    by_cases g4 : kp = 0
    case neg =>
      have z_g4 : (kp == 0) = false := beq_eq_false_iff_ne.2 g4
      go_wp2_with fail
      refine (known10_true y15 X.out.tab).mono ?_
      rintro e u16 ⟨rfl, hb⟩
      have HB9 := Hd (belowTo X.out.hb hb)
      clear hb
      go_wp2_with fail
      go_ret
      exact ⟨rfl, HB9.out⟩
    subst g4
    obtain ⟨F_p, rfl, rfl, rfl, rfl⟩ := RPp.out rfl
    have Fp := Hd F_p
    clear RPp F_p
    by_cases g5 : kq = 0
    case neg =>
      have z_g5 : (kq == 0) = false := beq_eq_false_iff_ne.2 g5
      go_wp2_with fail
      refine (known10_true y15 X.out.tab).mono ?_
      rintro e u17 ⟨rfl, hb⟩
      have HB9 := Hd (belowTo X.out.hb hb)
      clear hb
      go_wp2_with fail
      go_ret
      exact ⟨rfl, HB9.out⟩
    subst g5
    obtain ⟨F_q, rfl, rfl, rfl, rfl⟩ := RPq.out rfl
    have Fq := Hd F_q
    clear RPq F_q
    obtain ⟨an, ad, ka, CA⟩ := cross_any (crossM x.r.rat x.s.rat)
    have C1 := Hd (CA x.r.rat x.s.rat Fr.out Fs.out rfl)
    have C2 := Hd (CA (rayM m x.r.rat) (rayM m x.s.rat) Fp.out Fq.out (cross_kept FM.out.det _ _))
    clear CA
    go_wp2_with (first | (refine wpList_load_row rfl _ _ (by rfl) _ (by rfl) _ _ _ _ V_m.out.blk Tryz.underlying38 rfl (by rw [V_m.out.size]; exact matInfo) ?_) | (refine wpList_load_row rfl _ _ (by rfl) _ (by rfl) _ _ _ _ V_p.out.blk Tryz.underlying29 rfl (by rw [V_p.out.size]; exact rayInfo) ?_) | (refine wpList_load_row rfl _ _ (by rfl) _ (by rfl) _ _ _ _ V_q.out.blk Tryz.underlying29 rfl (by rw [V_q.out.size]; exact rayInfo) ?_) | (refine wpList_load_mid rfl 29 _ (by rfl) _ _ (by rfl) _ _ X.out.ray Tryz.underlying29 rfl rayInfo ?_) | (refine wpList_load_mid rfl 29 _ (by rfl) _ _ (by rfl) _ _ X.out.ray2 Tryz.underlying29 rfl rayInfo ?_))
    refine (C1.out y15 _ _ (RRaw.at_ X.out.r HMr.out).2 (RRaw.at_ X.out.s HMs.out).2).mono ?_
    rintro e u18 ⟨v_a, rfl, h_a, hb⟩
    obtain ⟨c_a, rfl⟩ := h_a.isagg
    have X := Hd (X.out.below hb)
    have V_m := Hd (V_m.out.below hb)
    have V_p := Hd (V_p.out.below hb)
    have V_q := Hd (V_q.out.below hb)
    clear hb
    go_upto_region 13 with (refine wpList_store_N rfl 27 _ _ (by rfl) (by rfl) _ _ _ 4 (by rfl) (by rfl) (Blk.new u18 _ _) rfl h_a.cells fracInfo4 ?_; intro y18 hput)
    obtain ⟨hb, V_a⟩ := newF h_a hput
    have V_a := Hd V_a
    have X := Hd (X.out.below hb)
    have V_m := Hd (V_m.out.below hb)
    have V_p := Hd (V_p.out.below hb)
    have V_q := Hd (V_q.out.below hb)
    clear hb hput h_a
    go_wp2_with (first | (refine wpList_load_row rfl _ _ (by rfl) _ (by rfl) _ _ _ _ V_m.out.blk Tryz.underlying38 rfl (by rw [V_m.out.size]; exact matInfo) ?_) | (refine wpList_load_row rfl _ _ (by rfl) _ (by rfl) _ _ _ _ V_p.out.blk Tryz.underlying29 rfl (by rw [V_p.out.size]; exact rayInfo) ?_) | (refine wpList_load_row rfl _ _ (by rfl) _ (by rfl) _ _ _ _ V_q.out.blk Tryz.underlying29 rfl (by rw [V_q.out.size]; exact rayInfo) ?_) | (refine wpList_load_row rfl _ _ (by rfl) _ (by rfl) _ _ _ _ V_a.out.blk Tryz.underlying27 rfl (by rw [V_a.out.size]; exact fracInfo4) ?_))
    refine (C2.out y18 _ _ V_p.out.at_ V_q.out.at_).mono ?_
    rintro e u19 ⟨v_b, rfl, h_b, hb⟩
    obtain ⟨c_b, rfl⟩ := h_b.isagg
    have X := Hd (X.out.below hb)
    have V_m := Hd (V_m.out.below hb)
    have V_p := Hd (V_p.out.below hb)
    have V_q := Hd (V_q.out.below hb)
    have V_a := Hd (V_a.out.below hb)
    clear hb
    go_upto_region 14 with (refine wpList_store_N rfl 27 _ _ (by rfl) (by rfl) _ _ _ 4 (by rfl) (by rfl) (Blk.new u19 _ _) rfl h_b.cells fracInfo4 ?_; intro y19 hput)
    obtain ⟨hb, V_b⟩ := newF h_b hput
    have V_b := Hd V_b
    have X := Hd (X.out.below hb)
    have V_m := Hd (V_m.out.below hb)
    have V_p := Hd (V_p.out.below hb)
    have V_q := Hd (V_q.out.below hb)
    have V_a := Hd (V_a.out.below hb)
    clear hb hput h_b
    clear C1 C2
    by_cases g6 : ka = 0
    case neg =>
      have z_g6 : (ka == 0) = false := beq_eq_false_iff_ne.2 g6
      go_wp2_with (first | (refine wpList_load_row rfl _ _ (by rfl) _ (by rfl) _ _ _ _ V_m.out.blk Tryz.underlying38 rfl (by rw [V_m.out.size]; exact matInfo) ?_) | (refine wpList_load_row rfl _ _ (by rfl) _ (by rfl) _ _ _ _ V_p.out.blk Tryz.underlying29 rfl (by rw [V_p.out.size]; exact rayInfo) ?_) | (refine wpList_load_row rfl _ _ (by rfl) _ (by rfl) _ _ _ _ V_q.out.blk Tryz.underlying29 rfl (by rw [V_q.out.size]; exact rayInfo) ?_) | (refine wpList_load_row rfl _ _ (by rfl) _ (by rfl) _ _ _ _ V_a.out.blk Tryz.underlying27 rfl (by rw [V_a.out.size]; exact fracInfo4) ?_) | (refine wpList_load_row rfl _ _ (by rfl) _ (by rfl) _ _ _ _ V_b.out.blk Tryz.underlying27 rfl (by rw [V_b.out.size]; exact fracInfo4) ?_))
      refine (back_ok FM.out y19 _ V_m.out.at_).mono ?_
      rintro e u20 ⟨v_k, rfl, h_k, hb⟩
      obtain ⟨c_k, rfl⟩ := h_k.isagg
      have X := Hd (X.out.below hb)
      have V_m := Hd (V_m.out.below hb)
      have V_p := Hd (V_p.out.below hb)
      have V_q := Hd (V_q.out.below hb)
      have V_a := Hd (V_a.out.below hb)
      have V_b := Hd (V_b.out.below hb)
      clear hb
      go_upto_region 17 with (refine wpList_store_N rfl 38 _ _ (by rfl) (by rfl) _ _ _ 16 (by rfl) (by rfl) (Blk.new u20 _ _) rfl h_k.cells matInfo ?_; intro y20 hput)
      obtain ⟨hb, V_k⟩ := newM h_k hput
      have V_k := Hd V_k
      have X := Hd (X.out.below hb)
      have V_m := Hd (V_m.out.below hb)
      have V_p := Hd (V_p.out.below hb)
      have V_q := Hd (V_q.out.below hb)
      have V_a := Hd (V_a.out.below hb)
      have V_b := Hd (V_b.out.below hb)
      clear hb hput h_k
      have e9 : rayM m.back (rayM m x.r.rat) = x.r.rat := by rw [← rayM_mul, M2.back_mul FM.out.det, rayM_one]
      have C3 := Hd (show ∀ (V : World) (v1 v2 : Value), MAt V v1 m.back → RAt V v2 (rayM m x.r.rat) → Calls Tryz.prog 15 #[v1, v2] V (RetR2 V x.r.rat 0) from fun V v1 v2 h1 h2 => by
          have := through_ok FM.out.back Fp.out (by rw [e9]; exact Fr.out.long) V v1 v2 h1 h2
          rwa [e9] at this)
      clear e9
      go_wp2_with (first | (refine wpList_load_row rfl _ _ (by rfl) _ (by rfl) _ _ _ _ V_m.out.blk Tryz.underlying38 rfl (by rw [V_m.out.size]; exact matInfo) ?_) | (refine wpList_load_row rfl _ _ (by rfl) _ (by rfl) _ _ _ _ V_p.out.blk Tryz.underlying29 rfl (by rw [V_p.out.size]; exact rayInfo) ?_) | (refine wpList_load_row rfl _ _ (by rfl) _ (by rfl) _ _ _ _ V_q.out.blk Tryz.underlying29 rfl (by rw [V_q.out.size]; exact rayInfo) ?_) | (refine wpList_load_row rfl _ _ (by rfl) _ (by rfl) _ _ _ _ V_a.out.blk Tryz.underlying27 rfl (by rw [V_a.out.size]; exact fracInfo4) ?_) | (refine wpList_load_row rfl _ _ (by rfl) _ (by rfl) _ _ _ _ V_b.out.blk Tryz.underlying27 rfl (by rw [V_b.out.size]; exact fracInfo4) ?_) | (refine wpList_load_row rfl _ _ (by rfl) _ (by rfl) _ _ _ _ V_k.out.blk Tryz.underlying38 rfl (by rw [V_k.out.size]; exact matInfo) ?_))
      refine (C3.out y20 _ _ V_k.out.at_ V_p.out.at_).mono ?_
      rintro e u21 ⟨v_y, rfl, h_y, hb⟩
      obtain ⟨c_y, rfl⟩ := h_y.isagg
      have X := Hd (X.out.below hb)
      have V_m := Hd (V_m.out.below hb)
      have V_p := Hd (V_p.out.below hb)
      have V_q := Hd (V_q.out.below hb)
      have V_a := Hd (V_a.out.below hb)
      have V_b := Hd (V_b.out.below hb)
      have V_k := Hd (V_k.out.below hb)
      clear hb
      go_upto_region 18 with (refine wpList_store_N rfl 29 _ _ (by rfl) (by rfl) _ _ _ 8 (by rfl) (by rfl) (Blk.new u21 _ _) rfl h_y.cells rayInfo ?_; intro y21 hput)
      obtain ⟨hb, V_y⟩ := newR h_y hput
      have V_y := Hd V_y
      have X := Hd (X.out.below hb)
      have V_m := Hd (V_m.out.below hb)
      have V_p := Hd (V_p.out.below hb)
      have V_q := Hd (V_q.out.below hb)
      have V_a := Hd (V_a.out.below hb)
      have V_b := Hd (V_b.out.below hb)
      have V_k := Hd (V_k.out.below hb)
      clear hb hput h_y
      clear C3
      go_wp2_with (first | (refine wpList_load_row rfl _ _ (by rfl) _ (by rfl) _ _ _ _ V_m.out.blk Tryz.underlying38 rfl (by rw [V_m.out.size]; exact matInfo) ?_) | (refine wpList_load_rowG (by rfl) _ _ (by rfl) _ (by rfl) _ _ _ _ V_m.out.blk Tryz.underlying38 rfl (by rw [V_m.out.size]; exact matInfo) ?_) | (refine wpList_load_row rfl _ _ (by rfl) _ (by rfl) _ _ _ _ V_p.out.blk Tryz.underlying29 rfl (by rw [V_p.out.size]; exact rayInfo) ?_) | (refine wpList_load_rowG (by rfl) _ _ (by rfl) _ (by rfl) _ _ _ _ V_p.out.blk Tryz.underlying29 rfl (by rw [V_p.out.size]; exact rayInfo) ?_) | (refine wpList_load_row rfl _ _ (by rfl) _ (by rfl) _ _ _ _ V_q.out.blk Tryz.underlying29 rfl (by rw [V_q.out.size]; exact rayInfo) ?_) | (refine wpList_load_rowG (by rfl) _ _ (by rfl) _ (by rfl) _ _ _ _ V_q.out.blk Tryz.underlying29 rfl (by rw [V_q.out.size]; exact rayInfo) ?_) | (refine wpList_load_row rfl _ _ (by rfl) _ (by rfl) _ _ _ _ V_a.out.blk Tryz.underlying27 rfl (by rw [V_a.out.size]; exact fracInfo4) ?_) | (refine wpList_load_rowG (by rfl) _ _ (by rfl) _ (by rfl) _ _ _ _ V_a.out.blk Tryz.underlying27 rfl (by rw [V_a.out.size]; exact fracInfo4) ?_) | (refine wpList_load_row rfl _ _ (by rfl) _ (by rfl) _ _ _ _ V_b.out.blk Tryz.underlying27 rfl (by rw [V_b.out.size]; exact fracInfo4) ?_) | (refine wpList_load_rowG (by rfl) _ _ (by rfl) _ (by rfl) _ _ _ _ V_b.out.blk Tryz.underlying27 rfl (by rw [V_b.out.size]; exact fracInfo4) ?_) | (refine wpList_load_row rfl _ _ (by rfl) _ (by rfl) _ _ _ _ V_k.out.blk Tryz.underlying38 rfl (by rw [V_k.out.size]; exact matInfo) ?_) | (refine wpList_load_rowG (by rfl) _ _ (by rfl) _ (by rfl) _ _ _ _ V_k.out.blk Tryz.underlying38 rfl (by rw [V_k.out.size]; exact matInfo) ?_) | (refine wpList_load_row rfl _ _ (by rfl) _ (by rfl) _ _ _ _ V_y.out.blk Tryz.underlying29 rfl (by rw [V_y.out.size]; exact rayInfo) ?_) | (refine wpList_load_rowG (by rfl) _ _ (by rfl) _ (by rfl) _ _ _ _ V_y.out.blk Tryz.underlying29 rfl (by rw [V_y.out.size]; exact rayInfo) ?_) | (refine wpList_load_midG (by rfl) 29 _ (by rfl) _ _ (by rfl) _ _ X.out.ray Tryz.underlying29 rfl rayInfo ?_))
      refine (sameRay_true y21 _ _ V_y.out.at_ (RRaw.at_ X.out.r HMr.out).2).mono ?_
      rintro e u22 ⟨rfl, hb⟩
      have X := Hd (X.out.below hb)
      have V_m := Hd (V_m.out.below hb)
      have V_p := Hd (V_p.out.below hb)
      have V_q := Hd (V_q.out.below hb)
      have V_a := Hd (V_a.out.below hb)
      have V_b := Hd (V_b.out.below hb)
      have V_k := Hd (V_k.out.below hb)
      have V_y := Hd (V_y.out.below hb)
      clear hb
      go_wp2_with fail
      refine (known10_true u22 X.out.tab).mono ?_
      rintro e u23 ⟨rfl, hb⟩
      have HB9 := Hd (belowTo X.out.hb hb)
      clear hb
      go_wp2_with fail
      go_ret
      exact ⟨rfl, HB9.out⟩
    subst g6
    go_wp2_with (first | (refine wpList_load_row rfl _ _ (by rfl) _ (by rfl) _ _ _ _ V_m.out.blk Tryz.underlying38 rfl (by rw [V_m.out.size]; exact matInfo) ?_) | (refine wpList_load_rowG (by rfl) _ _ (by rfl) _ (by rfl) _ _ _ _ V_m.out.blk Tryz.underlying38 rfl (by rw [V_m.out.size]; exact matInfo) ?_) | (refine wpList_load_row rfl _ _ (by rfl) _ (by rfl) _ _ _ _ V_p.out.blk Tryz.underlying29 rfl (by rw [V_p.out.size]; exact rayInfo) ?_) | (refine wpList_load_rowG (by rfl) _ _ (by rfl) _ (by rfl) _ _ _ _ V_p.out.blk Tryz.underlying29 rfl (by rw [V_p.out.size]; exact rayInfo) ?_) | (refine wpList_load_row rfl _ _ (by rfl) _ (by rfl) _ _ _ _ V_q.out.blk Tryz.underlying29 rfl (by rw [V_q.out.size]; exact rayInfo) ?_) | (refine wpList_load_rowG (by rfl) _ _ (by rfl) _ (by rfl) _ _ _ _ V_q.out.blk Tryz.underlying29 rfl (by rw [V_q.out.size]; exact rayInfo) ?_) | (refine wpList_load_row rfl _ _ (by rfl) _ (by rfl) _ _ _ _ V_a.out.blk Tryz.underlying27 rfl (by rw [V_a.out.size]; exact fracInfo4) ?_) | (refine wpList_load_rowG (by rfl) _ _ (by rfl) _ (by rfl) _ _ _ _ V_a.out.blk Tryz.underlying27 rfl (by rw [V_a.out.size]; exact fracInfo4) ?_) | (refine wpList_load_row rfl _ _ (by rfl) _ (by rfl) _ _ _ _ V_b.out.blk Tryz.underlying27 rfl (by rw [V_b.out.size]; exact fracInfo4) ?_) | (refine wpList_load_rowG (by rfl) _ _ (by rfl) _ (by rfl) _ _ _ _ V_b.out.blk Tryz.underlying27 rfl (by rw [V_b.out.size]; exact fracInfo4) ?_))
    refine (sameFrac_true _ _ an ad y19 V_a.out.at_ V_b.out.at_).mono ?_
    rintro e u24 ⟨rfl, hb⟩
    have X := Hd (X.out.below hb)
    have V_m := Hd (V_m.out.below hb)
    have V_p := Hd (V_p.out.below hb)
    have V_q := Hd (V_q.out.below hb)
    have V_a := Hd (V_a.out.below hb)
    have V_b := Hd (V_b.out.below hb)
    clear hb
    go_wp2_with (first | (refine wpList_load_row rfl _ _ (by rfl) _ (by rfl) _ _ _ _ V_m.out.blk Tryz.underlying38 rfl (by rw [V_m.out.size]; exact matInfo) ?_) | (refine wpList_load_row rfl _ _ (by rfl) _ (by rfl) _ _ _ _ V_p.out.blk Tryz.underlying29 rfl (by rw [V_p.out.size]; exact rayInfo) ?_) | (refine wpList_load_row rfl _ _ (by rfl) _ (by rfl) _ _ _ _ V_q.out.blk Tryz.underlying29 rfl (by rw [V_q.out.size]; exact rayInfo) ?_) | (refine wpList_load_row rfl _ _ (by rfl) _ (by rfl) _ _ _ _ V_a.out.blk Tryz.underlying27 rfl (by rw [V_a.out.size]; exact fracInfo4) ?_) | (refine wpList_load_row rfl _ _ (by rfl) _ (by rfl) _ _ _ _ V_b.out.blk Tryz.underlying27 rfl (by rw [V_b.out.size]; exact fracInfo4) ?_))
    refine (back_ok FM.out u24 _ V_m.out.at_).mono ?_
    rintro e u25 ⟨v_k, rfl, h_k, hb⟩
    obtain ⟨c_k, rfl⟩ := h_k.isagg
    have X := Hd (X.out.below hb)
    have V_m := Hd (V_m.out.below hb)
    have V_p := Hd (V_p.out.below hb)
    have V_q := Hd (V_q.out.below hb)
    have V_a := Hd (V_a.out.below hb)
    have V_b := Hd (V_b.out.below hb)
    clear hb
    go_upto_region 17 with (refine wpList_store_N rfl 38 _ _ (by rfl) (by rfl) _ _ _ 16 (by rfl) (by rfl) (Blk.new u25 _ _) rfl h_k.cells matInfo ?_; intro y25 hput)
    obtain ⟨hb, V_k⟩ := newM h_k hput
    have V_k := Hd V_k
    have X := Hd (X.out.below hb)
    have V_m := Hd (V_m.out.below hb)
    have V_p := Hd (V_p.out.below hb)
    have V_q := Hd (V_q.out.below hb)
    have V_a := Hd (V_a.out.below hb)
    have V_b := Hd (V_b.out.below hb)
    clear hb hput h_k
    have e9 : rayM m.back (rayM m x.r.rat) = x.r.rat := by rw [← rayM_mul, M2.back_mul FM.out.det, rayM_one]
    have C3 := Hd (show ∀ (V : World) (v1 v2 : Value), MAt V v1 m.back → RAt V v2 (rayM m x.r.rat) → Calls Tryz.prog 15 #[v1, v2] V (RetR2 V x.r.rat 0) from fun V v1 v2 h1 h2 => by
        have := through_ok FM.out.back Fp.out (by rw [e9]; exact Fr.out.long) V v1 v2 h1 h2
        rwa [e9] at this)
    clear e9
    go_wp2_with (first | (refine wpList_load_row rfl _ _ (by rfl) _ (by rfl) _ _ _ _ V_m.out.blk Tryz.underlying38 rfl (by rw [V_m.out.size]; exact matInfo) ?_) | (refine wpList_load_row rfl _ _ (by rfl) _ (by rfl) _ _ _ _ V_p.out.blk Tryz.underlying29 rfl (by rw [V_p.out.size]; exact rayInfo) ?_) | (refine wpList_load_row rfl _ _ (by rfl) _ (by rfl) _ _ _ _ V_q.out.blk Tryz.underlying29 rfl (by rw [V_q.out.size]; exact rayInfo) ?_) | (refine wpList_load_row rfl _ _ (by rfl) _ (by rfl) _ _ _ _ V_a.out.blk Tryz.underlying27 rfl (by rw [V_a.out.size]; exact fracInfo4) ?_) | (refine wpList_load_row rfl _ _ (by rfl) _ (by rfl) _ _ _ _ V_b.out.blk Tryz.underlying27 rfl (by rw [V_b.out.size]; exact fracInfo4) ?_) | (refine wpList_load_row rfl _ _ (by rfl) _ (by rfl) _ _ _ _ V_k.out.blk Tryz.underlying38 rfl (by rw [V_k.out.size]; exact matInfo) ?_))
    refine (C3.out y25 _ _ V_k.out.at_ V_p.out.at_).mono ?_
    rintro e u26 ⟨v_y, rfl, h_y, hb⟩
    obtain ⟨c_y, rfl⟩ := h_y.isagg
    have X := Hd (X.out.below hb)
    have V_m := Hd (V_m.out.below hb)
    have V_p := Hd (V_p.out.below hb)
    have V_q := Hd (V_q.out.below hb)
    have V_a := Hd (V_a.out.below hb)
    have V_b := Hd (V_b.out.below hb)
    have V_k := Hd (V_k.out.below hb)
    clear hb
    go_upto_region 18 with (refine wpList_store_N rfl 29 _ _ (by rfl) (by rfl) _ _ _ 8 (by rfl) (by rfl) (Blk.new u26 _ _) rfl h_y.cells rayInfo ?_; intro y26 hput)
    obtain ⟨hb, V_y⟩ := newR h_y hput
    have V_y := Hd V_y
    have X := Hd (X.out.below hb)
    have V_m := Hd (V_m.out.below hb)
    have V_p := Hd (V_p.out.below hb)
    have V_q := Hd (V_q.out.below hb)
    have V_a := Hd (V_a.out.below hb)
    have V_b := Hd (V_b.out.below hb)
    have V_k := Hd (V_k.out.below hb)
    clear hb hput h_y
    clear C3
    go_wp2_with (first | (refine wpList_load_row rfl _ _ (by rfl) _ (by rfl) _ _ _ _ V_m.out.blk Tryz.underlying38 rfl (by rw [V_m.out.size]; exact matInfo) ?_) | (refine wpList_load_rowG (by rfl) _ _ (by rfl) _ (by rfl) _ _ _ _ V_m.out.blk Tryz.underlying38 rfl (by rw [V_m.out.size]; exact matInfo) ?_) | (refine wpList_load_row rfl _ _ (by rfl) _ (by rfl) _ _ _ _ V_p.out.blk Tryz.underlying29 rfl (by rw [V_p.out.size]; exact rayInfo) ?_) | (refine wpList_load_rowG (by rfl) _ _ (by rfl) _ (by rfl) _ _ _ _ V_p.out.blk Tryz.underlying29 rfl (by rw [V_p.out.size]; exact rayInfo) ?_) | (refine wpList_load_row rfl _ _ (by rfl) _ (by rfl) _ _ _ _ V_q.out.blk Tryz.underlying29 rfl (by rw [V_q.out.size]; exact rayInfo) ?_) | (refine wpList_load_rowG (by rfl) _ _ (by rfl) _ (by rfl) _ _ _ _ V_q.out.blk Tryz.underlying29 rfl (by rw [V_q.out.size]; exact rayInfo) ?_) | (refine wpList_load_row rfl _ _ (by rfl) _ (by rfl) _ _ _ _ V_a.out.blk Tryz.underlying27 rfl (by rw [V_a.out.size]; exact fracInfo4) ?_) | (refine wpList_load_rowG (by rfl) _ _ (by rfl) _ (by rfl) _ _ _ _ V_a.out.blk Tryz.underlying27 rfl (by rw [V_a.out.size]; exact fracInfo4) ?_) | (refine wpList_load_row rfl _ _ (by rfl) _ (by rfl) _ _ _ _ V_b.out.blk Tryz.underlying27 rfl (by rw [V_b.out.size]; exact fracInfo4) ?_) | (refine wpList_load_rowG (by rfl) _ _ (by rfl) _ (by rfl) _ _ _ _ V_b.out.blk Tryz.underlying27 rfl (by rw [V_b.out.size]; exact fracInfo4) ?_) | (refine wpList_load_row rfl _ _ (by rfl) _ (by rfl) _ _ _ _ V_k.out.blk Tryz.underlying38 rfl (by rw [V_k.out.size]; exact matInfo) ?_) | (refine wpList_load_rowG (by rfl) _ _ (by rfl) _ (by rfl) _ _ _ _ V_k.out.blk Tryz.underlying38 rfl (by rw [V_k.out.size]; exact matInfo) ?_) | (refine wpList_load_row rfl _ _ (by rfl) _ (by rfl) _ _ _ _ V_y.out.blk Tryz.underlying29 rfl (by rw [V_y.out.size]; exact rayInfo) ?_) | (refine wpList_load_rowG (by rfl) _ _ (by rfl) _ (by rfl) _ _ _ _ V_y.out.blk Tryz.underlying29 rfl (by rw [V_y.out.size]; exact rayInfo) ?_) | (refine wpList_load_midG (by rfl) 29 _ (by rfl) _ _ (by rfl) _ _ X.out.ray Tryz.underlying29 rfl rayInfo ?_))
    refine (sameRay_true y26 _ _ V_y.out.at_ (RRaw.at_ X.out.r HMr.out).2).mono ?_
    rintro e u27 ⟨rfl, hb⟩
    have X := Hd (X.out.below hb)
    have V_m := Hd (V_m.out.below hb)
    have V_p := Hd (V_p.out.below hb)
    have V_q := Hd (V_q.out.below hb)
    have V_a := Hd (V_a.out.below hb)
    have V_b := Hd (V_b.out.below hb)
    have V_k := Hd (V_k.out.below hb)
    have V_y := Hd (V_y.out.below hb)
    clear hb
    go_wp2_with fail
    refine (known10_true u27 X.out.tab).mono ?_
    rintro e u28 ⟨rfl, hb⟩
    have HB9 := Hd (belowTo X.out.hb hb)
    clear hb
    go_wp2_with fail
    go_ret
    exact ⟨rfl, HB9.out⟩
end Go.Proofs.YtmcnmoljliggfaaGreatDoor
