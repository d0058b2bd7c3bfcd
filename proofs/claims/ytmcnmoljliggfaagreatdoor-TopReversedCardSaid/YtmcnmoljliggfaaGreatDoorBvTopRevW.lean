/- TopReversed: the walk. (Written by wip/top/gentoprev.py.) -/
import Derived.Test.YtmcnmoljliggfaaGreatDoorBvRevH
import Derived.Test.YtmcnmoljliggfaaGreatDoorBvMore
namespace Go.Proofs.YtmcnmoljliggfaaGreatDoor
open Go.RowKit

set_option maxRecDepth 100000 in
set_option maxHeartbeats 2000000 in
theorem reversed_true (x : LRaw) (w : World) (hbn : BenchIn w w.heap.size x.A x.l) (hlc : x.l.length ≤ x.c) (hl2 : x.l.length ≤ 4611686018427387904) (hr : x.r.In w) (hs : x.s.In w) (sm : ∀ e ∈ x.l, e.small) (sr : x.r.small) (ss : x.s.small) (htab : powTab w) :
    Calls Tryz.prog 5 #[.agg #[.slice x.A x.l.length x.c, .bool x.r.y.n1, .slice x.r.y.A x.r.y.xs.length x.r.y.c, .bool x.r.y.n2, .slice x.r.y.B x.r.y.ys.length x.r.y.e, .bool x.r.u.n1, .slice x.r.u.A x.r.u.xs.length x.r.u.c, .bool x.r.u.n2, .slice x.r.u.B x.r.u.ys.length x.r.u.e, .bool x.s.y.n1, .slice x.s.y.A x.s.y.xs.length x.s.y.c, .bool x.s.y.n2, .slice x.s.y.B x.s.y.ys.length x.s.y.e, .bool x.s.u.n1, .slice x.s.u.A x.s.u.xs.length x.s.u.c, .bool x.s.u.n2, .slice x.s.u.B x.s.u.ys.length x.s.u.e]] w fun e w' => e = .returned (.bool true) ∧ Below w.heap.size w w' := by
  have hlen := hlc
  have M0 : ∀ c ∈ x.l.map ERaw.cost, c ≤ 4611826755915743236 := fun c hc => by
    obtain ⟨e, he, rfl⟩ := List.mem_map.1 hc
    exact ERaw.cost_le (sm e he)
  obtain ⟨T, hT⟩ : ∃ n : Nat, costE (x.l.map ERaw.cost) x.l.length = n := ⟨_, rfl⟩
  have hT9 := costE_le (x.l.map ERaw.cost) x.l.length M0 (by omega)
  have C1 := fun (V : World) (h : BenchIn V V.heap.size x.A x.l) => els_cost x.l (x.l.map ERaw.cost) T x.A x.c hl2 (by simp) M0 hT V h.row (fun i hi U hU => by
    have := el_cost x.l[i] U ((h.els _ (List.getElem_mem hi)).below hU) (sm _ (List.getElem_mem hi))
    rw [List.getD_eq_getElem?_getD, List.getElem?_map, List.getElem?_eq_getElem hi]
    exact this)
  have C2 := fun (V : World) (h : x.r.In V) => ray_cost sr.1.1 sr.1.2 sr.2.1 sr.2.2 V _ h.raw
  have C3 := fun (V : World) (h : x.s.In V) => ray_cost ss.1.1 ss.1.2 ss.2.1 ss.2.2 V _ h.raw
  have b1 := fcost_le sr.1.1 sr.1.2
  have b2 := fcost_le sr.2.1 sr.2.2
  have b3 := fcost_le ss.1.1 ss.1.2
  have b4 := fcost_le ss.2.1 ss.2.2
  obtain ⟨s2, e2⟩ : ∃ k : Nat, k = fcost x.r.y.xs.length x.r.y.ys.length + fcost x.r.u.xs.length x.r.u.ys.length := ⟨_, rfl⟩
  obtain ⟨s3, e3⟩ : ∃ k : Nat, k = fcost x.s.y.xs.length x.s.y.ys.length + fcost x.s.u.xs.length x.s.u.ys.length := ⟨_, rfl⟩
  rw [← e2] at C2
  rw [← e3] at C3
  obtain ⟨b, hbe⟩ : ∃ b : Bool, b = decide (1048576 < [T, s2, s3].sum) := ⟨_, rfl⟩
  have HLEN := Lib.hid (show b = false → x.l.length + (x.l.map ERaw.cost).sum ≤ 1048576 from by
    intro e
    rw [e] at hbe
    have h9 := of_decide_eq_false hbe.symm
    simp at h9
    exact costE_sum _ _ (by omega))
  have H4 := Lib.hid (fun (u : Value) (V : World) (h : SliceOf [T, s2, s3] u V) => beyond_of3 [T, s2, s3] b (by simp) (by simp; omega) hbe u V h)
  have H1 := Lib.hid C1
  have H2 := Lib.hid C2
  have H3 := Lib.hid C3
  have HL2 := Lib.hid (And.intro hl2 hlen)
  clear C1 C2 C3 M0 hT hT9 b1 b2 b3 b4 e2 e3 hbe hl2 sm sr ss hlen hlc
  go_enter Tryz.func5, Tryz.ntmps5
  go_upto_region 1 with fail
  refine boxes1 (P := fun W => Code.wp _ _ _ _ W) fun W p0 b0 => ?_
  have X := Lib.hid (show LightS w W w.heap.size x from ⟨p0, hbn.to b0, hr.below b0, hs.below b0, htab.below2 b0, b0⟩)
  clear p0 b0 hbn hr hs htab
  go_wp2_with fail
  refine wp_region_free [.val (.pointer (some ⟨w.heap.size, 0, none⟩)) [], .val (.slice x.A x.l.length x.c) [], .val (.int .i64 T) [], .val (.pointer (some ⟨w.heap.size, 1, none⟩)) [], .val (.agg #[.bool x.r.y.n1, .slice x.r.y.A x.r.y.xs.length x.r.y.c, .bool x.r.y.n2, .slice x.r.y.B x.r.y.ys.length x.r.y.e, .bool x.r.u.n1, .slice x.r.u.A x.r.u.xs.length x.r.u.c, .bool x.r.u.n2, .slice x.r.u.B x.r.u.ys.length x.r.u.e]) [], .val (.int .i64 s2) [], .val (.pointer (some ⟨w.heap.size, 9, none⟩)) [], .val (.agg #[.bool x.s.y.n1, .slice x.s.y.A x.s.y.xs.length x.s.y.c, .bool x.s.y.n2, .slice x.s.y.B x.s.y.ys.length x.s.y.e, .bool x.s.u.n1, .slice x.s.u.A x.s.u.xs.length x.s.u.c, .bool x.s.u.n2, .slice x.s.u.B x.s.u.ys.length x.s.u.e]) [], .val (.int .i64 s3) [], .any false (SliceOf [T, s2, s3]) [], .val (.bool b) [9]] W.heap.size W [] (fun _ _ => False) _ mixedOrders2 (Nat.le_refl _) (Below.refl _ _) (KeptV.refl _ _ _) rfl (by kernel_rfl) (by kernel_rfl) (by kernel_rfl) (by kernel_rfl) (by kernel_rfl) (by kernel_rfl) (by kernel_rfl) (by kernel_rfl) rfl (by simp [oldsF]) ?_ ?_ ?_ ?_
  · simp only [StableF, and_true]
    exact fun u V V' h k => h.kept k
  · simp only [OldsF]
  · simp (maxSteps := 4000000) [StepsF, DepF, freeAct, fill, pairs]
    repeat' (first | apply And.intro | (intro (u : Value)) | (intro (u : Nat)))
    all_goals first
    | (intro V hV hK
       have xx := Lib.hid (X.out.below hV)
       obtain ⟨-, x0, x1, x2, x3, x4, x5, x6, x7, x8, x9, x10, x11, x12, x13, x14, x15, x16⟩ := xx.out.facts
       clear hV hK
       go_simp
       first
       | exact Below.refl _ _
       | exact ⟨SliceOf.new [T, s2, s3] _ _ _ rfl, (Below.refl _ _).alloc (Nat.le_refl _) _⟩
       | ((with_reducible refine (H1.out V xx.out.bench).mono ?_); rintro e w' ⟨rfl, hb⟩; exact ⟨rfl, hb⟩)
       | ((with_reducible refine (H2.out V xx.out.r).mono ?_); rintro e w' ⟨rfl, hb⟩; exact ⟨rfl, hb⟩)
       | ((with_reducible refine (H3.out V xx.out.s).mono ?_); rintro e w' ⟨rfl, hb⟩; exact ⟨rfl, hb⟩))
    | (intro V hV hK h1
       have h2 := H4.out _ V h1
       obtain ⟨g, t, rfl, -⟩ := h1.form
       clear hV hK
       go_simp
       (refine h2.mono ?_); rintro e w' ⟨rfl, hb⟩; exact ⟨rfl, hb⟩)
  · simp [EndF, FactsF, freeAct, fill, pairs]
    intro u1 V0 hV hK h1 _ _ _
    obtain ⟨g, t, rfl, -⟩ := h1.form
    have X := Lib.hid (X.out.below hV)
    clear hV hK h1 H1 H2 H3 H4
    cases b
    case true =>
      go_wp2_with fail
      refine (known10_true V0 X.out.tab).mono ?_
      rintro e u0 ⟨rfl, hb⟩
      have HB9 := Lib.hid (belowTo X.out.hb hb)
      clear hb
      go_wp2_with fail
      go_ret
      exact ⟨rfl, HB9.out⟩
    have HS := Lib.hid (HLEN.out rfl)
    have HSL := Lib.hid (sumL_cost _ HS.out)
    clear HLEN
    have hl1 : x.l.length ≤ 1048576 := by have := HS.out; omega
    clear hl1
    obtain ⟨k, hk⟩ : ∃ k, k = chkB x.l ERaw.may := ⟨_, rfl⟩
    have C := reverse_w x.l x.A x.c V0 HL2.out.1 HSL.out X.out.bench
    rw [← hk] at C
    have CR := Lib.hid C
    have HK := Lib.hid hk
    clear C hk
    obtain ⟨-, x0, -⟩ := X.out.facts
    go_wp2_with fail
    refine CR.out.mono ?_
    rintro e u1 ⟨vr, rfl, hG, hb⟩
    have X := Lib.hid (X.out.below hb)
    have HE0 := Lib.hid hG
    clear hG hb x0 CR
    by_cases g1 : k = 0
    case neg =>
      have z_g1 : (k == 0) = false := beq_eq_false_iff_ne.2 g1
      go_wp2_with fail
      refine (known10_true u1 X.out.tab).mono ?_
      rintro e u2 ⟨rfl, hb⟩
      have HB9 := Lib.hid (belowTo X.out.hb hb)
      clear hb
      go_wp2_with fail
      go_ret
      exact ⟨rfl, HB9.out⟩
    subst g1
    have HE := Lib.hid (HE0.out rfl)
    clear HE0
    have HG := Lib.hid (And.intro rfl rfl : x.r.y.may = (chkE x.r.y.n1 x.r.y.n2 x.r.y.xs x.r.y.ys == 0) ∧ x.r.u.may = (chkE x.r.u.n1 x.r.u.n2 x.r.u.xs x.r.u.ys == 0))
    by_cases h1 : chkE x.r.y.n1 x.r.y.n2 x.r.y.xs x.r.y.ys = 0
    case neg =>
      go_wp2_with (first | (refine wpList_load_mid rfl 29 _ (by rfl) _ _ (by rfl) _ _ X.out.ray Tryz.underlying29 rfl rayInfo ?_) | (refine wpList_load_midG (by rfl) 29 _ (by rfl) _ _ (by rfl) _ _ X.out.ray Tryz.underlying29 rfl rayInfo ?_))
      refine (good_no1 rfl h1 u1 _ X.out.r.raw).mono ?_
      rintro e u3 ⟨rfl, hb⟩
      have X := Lib.hid (X.out.below hb)
      have HE := Lib.hid (HE.out.below hb)
      clear hb
      go_wp2_with fail
      refine (known10_true u3 X.out.tab).mono ?_
      rintro e u4 ⟨rfl, hb⟩
      have HB9 := Lib.hid (belowTo X.out.hb hb)
      clear hb
      go_wp2_with fail
      go_ret
      exact ⟨rfl, HB9.out⟩
    by_cases h2 : chkE x.r.u.n1 x.r.u.n2 x.r.u.xs x.r.u.ys = 0
    case neg =>
      go_wp2_with (first | (refine wpList_load_mid rfl 29 _ (by rfl) _ _ (by rfl) _ _ X.out.ray Tryz.underlying29 rfl rayInfo ?_) | (refine wpList_load_midG (by rfl) 29 _ (by rfl) _ _ (by rfl) _ _ X.out.ray Tryz.underlying29 rfl rayInfo ?_))
      refine (good_no2 h1 rfl h2 u1 _ X.out.r.raw).mono ?_
      rintro e u5 ⟨rfl, hb⟩
      have X := Lib.hid (X.out.below hb)
      have HE := Lib.hid (HE.out.below hb)
      clear hb
      go_wp2_with fail
      refine (known10_true u5 X.out.tab).mono ?_
      rintro e u6 ⟨rfl, hb⟩
      have HB9 := Lib.hid (belowTo X.out.hb hb)
      clear hb
      go_wp2_with fail
      go_ret
      exact ⟨rfl, HB9.out⟩
    go_wp2_with (first | (refine wpList_load_mid rfl 29 _ (by rfl) _ _ (by rfl) _ _ X.out.ray Tryz.underlying29 rfl rayInfo ?_) | (refine wpList_load_midG (by rfl) 29 _ (by rfl) _ _ (by rfl) _ _ X.out.ray Tryz.underlying29 rfl rayInfo ?_))
    refine (good_yes h1 h2 u1 _ X.out.r.raw).mono ?_
    rintro e u7 ⟨rfl, hb⟩
    have X := Lib.hid (X.out.below hb)
    have HE := Lib.hid (HE.out.below hb)
    clear hb
    have hmay : x.r.may = true := by unfold RRaw.may; rw [HG.out.1, HG.out.2, h1, h2]; rfl
    have HMAY := Lib.hid hmay
    have FR := Lib.hid (RRaw.at_ X.out.r hmay).1
    clear h1 h2 hmay HG
    obtain ⟨k1, hk1⟩ : ∃ k1 : Int, k1 = if longZ (flatR (traceR (x.l.map ERaw.el) x.r.rat)) then 4 else 0 := ⟨_, rfl⟩
    have HK1 := Lib.hid hk1
    clear hk1
    obtain ⟨-, x0, -⟩ := X.out.facts
    go_wp2_with (first | (refine wpList_load_mid rfl 29 _ (by rfl) _ _ (by rfl) _ _ X.out.ray Tryz.underlying29 rfl rayInfo ?_) | (refine wpList_load_midG (by rfl) 29 _ (by rfl) _ _ (by rfl) _ _ X.out.ray Tryz.underlying29 rfl rayInfo ?_))
    refine (trace_w x.l x.A x.c x.r.rat k1 u7 (chkB_len HK.out.symm) X.out.bench HK.out.symm HSL.out FR.out _ (RRaw.at_ X.out.r HMAY.out).2 HK1.out).mono ?_
    rintro e u8 ⟨vt, rfl, hG, hb⟩
    have HT0 := Lib.hid hG
    clear hG
    have X := Lib.hid (X.out.below hb)
    have HE := Lib.hid (HE.out.below hb)
    clear hb x0
    by_cases g2 : k1 = 0
    case neg =>
      have z_g2 : (k1 == 0) = false := beq_eq_false_iff_ne.2 g2
      go_wp2_with fail
      refine (known10_true u8 X.out.tab).mono ?_
      rintro e u9 ⟨rfl, hb⟩
      have HB9 := Lib.hid (belowTo X.out.hb hb)
      clear hb
      go_wp2_with fail
      go_ret
      exact ⟨rfl, HB9.out⟩
    subst g2
    have hf := flat_fine.1 (show longZ (flatR (traceR (x.l.map ERaw.el) x.r.rat)) = false from by
      cases h : longZ (flatR (traceR (x.l.map ERaw.el) x.r.rat))
      · rfl
      · have h9 := HK1.out
        rw [h] at h9
        cases h9)
    have HF := Lib.hid (fineAt hf FR.out)
    clear hf HK1
    obtain ⟨n, hn⟩ : ∃ n, n = x.l.length := ⟨_, rfl⟩
    have HN := Lib.hid hn
    have hn4 : n ≤ 4096 := by rw [hn]; exact chkB_len HK.out.symm
    clear hn
    have HT := Lib.hid ((HT0.out rfl).base (Nat.zero_le _))
    clear HT0
    obtain ⟨At, ct, rfl⟩ := HT.out.sliceN (n := n) (by rw [traceR_length, List.length_map]; exact HN.out.symm)
    have HAT := Lib.hid (show ∀ i, i < n → (traceR (x.l.map ERaw.el) x.r.rat)[i]? = some (rayAt (x.l.map ERaw.el) x.r.rat (i + 1)) from fun i hi => traceR_at _ _ i (by rw [List.length_map]; have := HN.out; omega))
    have HFN := Lib.hid (show ∀ i, i ≤ n → FineR (rayAt (x.l.map ERaw.el) x.r.rat i) from fun i hi => HF.out i (by rw [List.length_map]; have := HN.out; omega))
    clear HF
    have hq0 := (RRaw.at_ X.out.r HMAY.out).2
    obtain ⟨cr, hcr, -, hcc⟩ := hq0.isagg
    rw [hcr] at hq0
    have HQ := Lib.hid (And.intro hq0 (And.intro hcc hcr))
    clear hq0 hcc hcr
    go_upto_region 10 with (first | (refine wpList_load_mid rfl 29 _ (by rfl) _ _ (by rfl) _ _ X.out.ray Tryz.underlying29 rfl rayInfo ?_) | (refine wpList_store_N rfl 29 _ _ (by rfl) (by rfl) _ _ _ 8 (by rfl) (by rfl) (Blk.new u8 _ _) rfl HQ.out.2.1 rayInfo ?_; intro y1 hput))
    rw [HQ.out.2.2] at hput
    obtain ⟨hb, hv⟩ := RVar.new HQ.out.1 hput
    have HB1 := Lib.hid hb
    have HV := Lib.hid hv
    clear hb hv hput
    obtain ⟨g, hg⟩ : ∃ g, g = u8.heap.size := ⟨_, rfl⟩
    rw [← hg] at HV ⊢
    have HGL := Lib.hid (Nat.le_of_eq hg.symm : u8.heap.size ≤ g)
    clear hg
    obtain ⟨bn, hbn⟩ : ∃ b, b = decide (0 < n) := ⟨_, rfl⟩
    have hb1 : decide ((0 : Int) < (n : Int)) = bn := by rw [hbn]; exact decide_eq_decide.2 (by omega)
    have hb2 : decide (0 < n) = bn := hbn.symm
    have HBN := Lib.hid hbn
    clear hbn
    go_upto_if 52 with fail
    clear hb1 hb2
    go_cut [] from 53 to 58 (fun wc => ∃ cs, Hid (RVar wc g cs (rayAt (x.l.map ERaw.el) x.r.rat n)) ∧ Hid (Below u8.heap.size u8 wc))
    case first =>
      cases bn
      · have hn0 : n = 0 := by have := of_decide_eq_false HBN.out.symm; omega
        have HN0 := Lib.hid hn0
        clear hn0
        go_wp2_with fail
        go_meet
        case rel => exact ⟨cr, by rw [HN0.out, rayAt_zero]; exact HV, HB1⟩
      · obtain ⟨m, hm⟩ : ∃ m, n = m + 1 := ⟨n - 1, by have := of_decide_eq_true HBN.out.symm; omega⟩
        have hw : IntKind.i64.wrap ((n : Int) - 1) = (m : Int) := by rw [IntKind.wrap_i64]; omega
        have a1 : (0 : Int) ≤ (m : Int) := by omega
        have a2 : (m : Int) < (n : Int) := by omega
        obtain ⟨ad, x0, x1, x2, x3, x4, x5, x6, x7, rfl, hrow, hin⟩ := (HT.out.below HB1.out).row m _ (HAT.out m (by omega))
        obtain ⟨-, c0, c1, c2, c3, c4, c5, c6, c7⟩ := hrow
        rw [← hm] at hin
        have HI := Lib.hid hin
        clear hin hm
        go_wp2_with (refine wpList_store_N rfl 29 _ _ (by rfl) (by rfl) _ _ _ 8 (by rfl) (by rfl) HV.out.blk HV.out.size HI.out.cells rayInfo ?_; intro y2 hput)
        obtain ⟨hb, hv⟩ := RVar.put HI.out HB1.out HGL.out hput
        go_meet
        case rel => exact ⟨_, Lib.hid hv, Lib.hid hb⟩
    case rest =>
      obtain ⟨cs, HV, hb⟩ := hcut
      have hb := hb.out
      obtain ⟨W9, hW⟩ : ∃ Y, Y = wc := ⟨_, rfl⟩
      subst hW
      clear HB1 HGL
      have X := Lib.hid (X.out.below hb)
      have HE := Lib.hid (HE.out.below hb)
      have HT := Lib.hid (HT.out.below hb)
      clear hb
      go_wp2_with (refine wpList_load_row rfl _ _ (by rfl) _ (by rfl) _ _ _ _ HV.out.blk Tryz.underlying29 rfl (by rw [HV.out.size]; exact rayInfo) ?_)
      refine (turnray_q (HFN.out n (Nat.le_refl _)) W9 _ HV.out.at_).mono ?_
      rintro e u10 ⟨vq, rfl, hI, hb⟩
      obtain ⟨cq, rfl, -⟩ := RAt.isagg (q := turnR (rayAt (x.l.map ERaw.el) x.r.rat n)) hI.at_
      have HI := Lib.hid hI
      clear hI
      have X := Lib.hid (X.out.below hb)
      have HE := Lib.hid (HE.out.below hb)
      have HT := Lib.hid (HT.out.below hb)
      clear hb HV
      obtain ⟨k2, hk2⟩ : ∃ k2 : Int, k2 = if longZ (flatR (traceR (x.l.map ERaw.el).reverse (turnR (rayAt (x.l.map ERaw.el) x.r.rat n)))) then 4 else 0 := ⟨_, rfl⟩
      have HK2 := Lib.hid hk2
      clear hk2
      go_wp2_with fail
      refine (trace_rev x.l _ k2 u10 _ HE.out HK.out.symm HSL.out (HFN.out n (Nat.le_refl _)).turn _ HI.out.at_ HK2.out).mono ?_
      rintro e u11 ⟨vu, rfl, hG, hb⟩
      have HU0 := Lib.hid hG
      clear hG HI
      have X := Lib.hid (X.out.below hb)
      have HE := Lib.hid (HE.out.below hb)
      have HT := Lib.hid (HT.out.below hb)
      clear hb
      by_cases g3 : k2 = 0
      case neg =>
        have z_g3 : (k2 == 0) = false := beq_eq_false_iff_ne.2 g3
        go_wp2_with fail
        refine (known10_true u11 X.out.tab).mono ?_
        rintro e u12 ⟨rfl, hb⟩
        have HB9 := Lib.hid (belowTo X.out.hb hb)
        clear hb
        go_wp2_with fail
        go_ret
        exact ⟨rfl, HB9.out⟩
      subst g3
      have HU := Lib.hid ((HU0.out rfl).base (Nat.zero_le _))
      clear HU0 HK2 HE
      obtain ⟨Au, cu, rfl⟩ := HU.out.sliceN (n := n) (by rw [traceR_length, List.length_reverse, List.length_map]; exact HN.out.symm)
      have HAU := Lib.hid (show ∀ i, i < n → (traceR (x.l.map ERaw.el).reverse (turnR (rayAt (x.l.map ERaw.el) x.r.rat n)))[i]? = some (turnR (rayAt (x.l.map ERaw.el) x.r.rat (n - 1 - i))) from fun i hi => by
        have e := HN.out
        rw [traceR_at _ _ i (by rw [List.length_reverse, List.length_map]; omega)]
        have h := rayAt_back (x.l.map ERaw.el) x.r.rat (i + 1) (by rw [List.length_map]; omega)
        rw [List.length_map, ← e] at h
        rw [h, show n - (i + 1) = n - 1 - i by omega])
      go_wp2_with fail
      go_loopw [8] (fun s wr => ∃ i : Nat, s = .int .i64 i ∧ i ≤ n ∧ Hid (Below u11.heap.size u11 wr)) (fun s _ => n - (intOf s).toNat)
      case atStart => exact ⟨0, rfl, Nat.zero_le _, Lib.hid (Below.refl _ _)⟩
      case round =>
        obtain ⟨i, rfl, hi, HL⟩ := hrel
        obtain ⟨V2, hV2⟩ : ∃ Y, Y = wr := ⟨_, rfl⟩
        subst hV2
        have hb := HL.out
        have X := Lib.hid (X.out.below hb)
        have HT := Lib.hid (HT.out.below hb)
        have HU := Lib.hid (HU.out.below hb)
        clear hb
        by_cases hlt : i < n
        case neg =>
          have a9 : ¬ (i : Int) < (n : Int) := by omega
          go_wp2_with fail
          refine (known10_true V2 X.out.tab).mono ?_
          rintro e u13 ⟨rfl, hb⟩
          have HB9 := Lib.hid (belowTo X.out.hb hb)
          clear hb
          go_wp2_with fail
          go_ret
          exact ⟨rfl, HB9.out⟩
        have a0 : (0 : Int) ≤ (i : Int) := by omega
        have a1 : (i : Int) < (n : Int) := by omega
        have hq0 := (RRaw.at_ X.out.r HMAY.out).2
        rw [HQ.out.2.2] at hq0
        have HQ2 := Lib.hid hq0
        clear hq0
        go_upto_region 21 with (first | (refine wpList_load_mid rfl 29 _ (by rfl) _ _ (by rfl) _ _ X.out.ray Tryz.underlying29 rfl rayInfo ?_) | (refine wpList_store_N rfl 29 _ _ (by rfl) (by rfl) _ _ _ 8 (by rfl) (by rfl) (Blk.new V2 _ _) rfl HQ.out.2.1 rayInfo ?_; intro y3 hput))
        rw [HQ.out.2.2] at hput
        obtain ⟨hb, hv⟩ := RVar.new HQ2.out hput
        have HB1 := Lib.hid hb
        have HV := Lib.hid hv
        clear hb hv hput
        obtain ⟨g5, hg⟩ : ∃ g, g = V2.heap.size := ⟨_, rfl⟩
        rw [← hg] at HV ⊢
        have HGL := Lib.hid (Nat.le_of_eq hg.symm : V2.heap.size ≤ g5)
        clear hg
        obtain ⟨m, hm⟩ : ∃ m, n = m + 1 := ⟨n - 1, by omega⟩
        have hw : IntKind.i64.wrap ((n : Int) - 1) = (m : Int) := by rw [IntKind.wrap_i64]; omega
        obtain ⟨bi, hbi⟩ : ∃ b, b = decide (i < m) := ⟨_, rfl⟩
        have hb1 : decide ((i : Int) < (m : Int)) = bi := by rw [hbi]; exact decide_eq_decide.2 (by omega)
        have hb2 : decide (i < m) = bi := hbi.symm
        have HBI := Lib.hid hbi
        clear hbi
        go_upto_if 86 with fail
        clear hb1 hb2
        go_cut [] from 87 to 94 (fun wc => ∃ cs, Hid (RVar wc g5 cs (rayAt (x.l.map ERaw.el) x.r.rat (n - 1 - i))) ∧ Hid (Below V2.heap.size V2 wc))
        case first =>
          cases bi
          case true =>
            have h9 := of_decide_eq_true HBI.out.symm
            obtain ⟨z, hz⟩ : ∃ z, n = z + 2 := ⟨n - 2, by omega⟩
            obtain ⟨p, hp⟩ : ∃ p, z = p + i := ⟨z - i, by omega⟩
            clear hw
            have hw2 : IntKind.i64.wrap ((n : Int) - 2) = (z : Int) := by rw [IntKind.wrap_i64]; omega
            have hw3 : IntKind.i64.wrap ((z : Int) - (i : Int)) = (p : Int) := by rw [IntKind.wrap_i64]; omega
            have a3 : (0 : Int) ≤ (p : Int) := by omega
            have a4 : (p : Int) < (n : Int) := by omega
            obtain ⟨ad, x0, x1, x2, x3, x4, x5, x6, x7, rfl, hrow, hin⟩ := (HT.out.below HB1.out).row p _ (HAT.out p (by omega))
            obtain ⟨-, c0, c1, c2, c3, c4, c5, c6, c7⟩ := hrow
            rw [show p + 1 = n - 1 - i by omega] at hin
            have HI := Lib.hid hin
            clear hin hz hp hm h9
            go_wp2_with (refine wpList_store_N rfl 29 _ _ (by rfl) (by rfl) _ _ _ 8 (by rfl) (by rfl) HV.out.blk HV.out.size HI.out.cells rayInfo ?_; intro y4 hput)
            obtain ⟨hb, hv⟩ := RVar.put HI.out HB1.out HGL.out hput
            go_meet
            case rel => exact ⟨_, Lib.hid hv, Lib.hid hb⟩
          case false =>
            have h9 := of_decide_eq_false HBI.out.symm
            have e0 : n - 1 - i = 0 := by omega
            have HE0 := Lib.hid e0
            clear e0 hm h9 hw
            go_wp2_with fail
            go_meet
            case rel => exact ⟨cr, by rw [HE0.out, rayAt_zero]; exact HV, HB1⟩
        case rest =>
          obtain ⟨cs, HV, hb⟩ := hcut
          have hb := hb.out
          obtain ⟨W8, hW⟩ : ∃ Y, Y = wc := ⟨_, rfl⟩
          subst hW
          clear HB1 HGL hw hm HQ2
          have HL := Lib.hid (HL.out.trans (hb.mono HL.out.size))
          have X := Lib.hid (X.out.below hb)
          have HT := Lib.hid (HT.out.below hb)
          have HU := Lib.hid (HU.out.below hb)
          clear hb
          obtain ⟨y0, y1, y2, y3, y4, y5, y6, y7, rfl⟩ := arr8 HV.out.size
          obtain ⟨ad, x0, x1, x2, x3, x4, x5, x6, x7, rfl, hrow, hin⟩ := HU.out.row i _ (HAU.out i hlt)
          have HI := Lib.hid hin
          have HR := Lib.hid hrow
          clear hin hrow
          have FQ := Lib.hid (HFN.out (n - 1 - i) (by omega))
          go_wp2_with fail
          refine wp_region_free [.val (.slice (some ad) n cu) [], .val (.int .i64 i) [], .val (.pointer (some (ad.add (i * 8)))) [], .val (.agg #[x0, x1, x2, x3, x4, x5, x6, x7]) [], .val (.agg #[y0, y1, y2, y3, y4, y5, y6, y7]) [], .any false (fun u V => RIn V u (turnR (rayAt (x.l.map ERaw.el) x.r.rat (n - 1 - i)))) [], .val (.bool true) [5], .val (.bool false) []] W8.heap.size W8 [] (fun _ _ => False) _ mixedOrders2 (Nat.le_refl _) (Below.refl _ _) (KeptV.refl _ _ _) rfl (by kernel_rfl) (by kernel_rfl) (by kernel_rfl) (by kernel_rfl) (by kernel_rfl) (by kernel_rfl) (by kernel_rfl) (by kernel_rfl) rfl (by simp [oldsF]) ?_ ?_ ?_ ?_
          · simp only [StableF, and_true]
            exact fun u V V' h k => h.kept k (by decide)
          · simp only [OldsF]
          · simp (maxSteps := 4000000) [StepsF, DepF, freeAct, fill, pairs]
            repeat' (first | apply And.intro | (intro (u : Value)) | (intro (u : Nat)))
            all_goals first
            | (intro V hV hK
               obtain ⟨-, c0, c1, c2, c3, c4, c5, c6, c7⟩ := HR.out.below hV
               have vv := HV.out.below hV
               have oc : Oct V g5 _ _ _ _ _ _ _ _ _ := ⟨vv.blk⟩
               obtain ⟨-, b0, b1, b2, b3, b4, b5, b6, b7⟩ := oc.facts
               have hat := Lib.hid vv.at_
               clear hV hK vv oc
               go_simp
               first
               | exact Below.refl _ _
               | ((with_reducible refine (turnray_q FQ.out V _ hat.out).mono ?_); rintro e w' ⟨v, rfl, hv, hb⟩; exact ⟨hv, hb⟩))
            | (intro V hV hK h1
               have hi9 := HI.out.below hV
               obtain ⟨A1, c1, B1, e1, A2, c2, B2, e2, rfl, -⟩ := h1.form
               clear hV hK
               go_simp
               refine (sameRay_true V _ _ hi9.at_ h1.at_).mono ?_
               rintro e w' ⟨rfl, hb⟩
               exact ⟨rfl, hb⟩)
          · simp [EndF, FactsF, freeAct, fill, pairs]
            intro u9 V9 hV hK h1 _ _ _
            have HL9 := Lib.hid (HL.out.trans (hV.mono HL.out.size))
            clear hV hK h1
            go_wp2_with fail
            go_roundw
            case rel => exact ⟨i + 1, by go_num, hlt, HL9⟩
            case measure => simp [intOf]; omega
end Go.Proofs.YtmcnmoljliggfaaGreatDoor
