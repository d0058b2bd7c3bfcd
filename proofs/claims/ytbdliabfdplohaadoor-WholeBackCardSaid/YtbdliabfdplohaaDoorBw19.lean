/- Several texts in one: Divide, Own, Quo. -/
import Derived.Test.YtbdliabfdplohaaDoorBw18
import Derived.Test.YtbdliabfdplohaaDoorBwHd
import Derived.Test.YtbdliabfdplohaaDoorBw15
set_option maxRecDepth 100000
set_option maxHeartbeats 8000000
/- divide of package exact: long division, its quotient and what is left. -/
namespace Go.Proofs.YtbdliabfdplohaaDoor
open Go.RowKit

theorem exact_divide (A B : Option Addr) (c d : Nat) (xs ys : List Nat) (m k r : Nat) (hkm : k = m + 1) (hxl : xs.length = k + r) (hr : 1 ≤ r) (hyl : ys.length = k + 1) (h0 : at0 ys k ≠ 0) (hl : xs.length ≤ 536870912) (w : World) (h : Raw w A c xs) (g : Raw w B d ys) :
    Calls Tryd.prog 70 #[.slice A (k + r) c, .slice B (k + 1) d] w fun e w' => ∃ gl gq cl zl zq, e = .returned (.tuple #[.slice (some ⟨gq, 0, none⟩) zq.length zq.length, .slice (some ⟨gl, 0, none⟩) zl.length cl]) ∧ gl ≠ gq ∧ w.heap.size ≤ gl ∧ w.heap.size ≤ gq ∧ Row w' gq zq ∧ Front w' gl cl zl ∧ Limbs zq ∧ Limbs zl ∧ val zq = val xs / val ys ∧ val zl = val xs % val ys ∧ zq.length ≤ xs.length ∧ zl.length = ys.length ∧ cl ≤ 9223372036854775807 ∧ Below w.heap.size w w' := by
  have HX := Hd h
  have HY := Hd g
  have HLX := Hd h.limbs
  have hc := h.cap
  have hm := h.most
  have hd := g.cap
  have hn := g.most
  rw [at0_lt (by omega)] at h0
  obtain ⟨ad, rfl, hbl, hcell⟩ := g.reads.get (k := k) (by omega)
  have hbk : (ad.add k).block < w.heap.size := by rw [block_of_add]; exact hbl
  have hty := limbs_get g.limbs (k := k) (by omega)
  obtain ⟨b1, b2, b3, b4⟩ := bitLen32 _ hty h0
  have hL := lifted (n := 32 - Lib.bitLen ys[k]) (m := k) g.limbs (by omega) (Lib.bitLen ys[k]) (by omega) b3 b4 b2
  have C0 := Hd (fun V => bits_Lead ys[k] _ hty rfl b1 V)
  generalize hnn : 32 - Lib.bitLen ys[k] = n at hL C0
  have hn31 := hL.hn
  have HL := Hd hL
  generalize ys[k] = t at hcell C0 hty
  have C1 := Hd (fun (V : World) (hV : Below w.heap.size w V) => by have := exact_up A c n xs hn31 (by omega) V (HX.out.below hV); rwa [hxl] at this)
  have C2 := Hd (fun (V : World) (hV : Below w.heap.size w V) => by have := exact_up (some ad) d n ys hn31 (by omega) V (HY.out.below hV); rwa [hyl] at this)
  clear h g h0 b1 b2 b3 b4 hL hnn
  rw [hxl] at hc hl
  rw [hyl] at hd
  have hkm2 : (k : Int) + 1 - 2 = (m : Int) := by omega
  have HKM := Hd hkm
  have HXL := Hd hxl
  have HYL := Hd hyl
  have hmax : max 0 ((k : Int) + (r : Int) + 1 - ((k : Int) + 1)) = (r : Int) := by omega
  have hs0 : (0 : Int) ≤ (k : Int) + 1 := by omega
  have hs1 : (k : Int) + 1 ≤ (k : Int) + 1 + 1 := by omega
  clear hkm hxl hyl
  obtain ⟨i0, hi, hz0, hz1, hz2⟩ := info_parts limbInfo
  have hmk : ∀ W : World, (Instr.makeSlice 22 (.int .i64 (r : Int)) (.int .i64 (r : Int))).run Tryd.prog W = .ok (.slice (some ⟨W.heap.size, 0, none⟩) r r) (W.alloc (.cells (madeCells #[.int .u32 0] r) 40)) := fun W => by
    have h := run_make_rowN (P := Tryd.prog) 22 40 i0 _ Tryd.underlying22 hi hz0 .i64 .i64 r r (by omega) (by rw [hz2]; omega) (by omega) W
    rw [hz1, Nat.mul_one] at h
    exact h
  go_enter Tryd.func70, Tryd.ntmps70
  go_wp2_with fail
  go_step3
  go_wp2_with (first | (go_at_call 85; with_reducible refine (C0.out _).mono ?_; rintro e w' ⟨rfl, rfl⟩))
  go_upto_region 2 with fail
  go_cut [1, 7] (fun s1 s7 wx => ∃ gl gd, s7 = .slice (some ⟨gl, 0, none⟩) (k + r + 1) (k + r + 1) ∧ s1 = .slice (some ⟨gd, 0, none⟩) (k + 1) (k + 1 + 1) ∧ w.heap.size ≤ gl ∧ gl < gd ∧ Below w.heap.size w wx ∧
    Hid (∃ zs, zs.length = k + r + 1 ∧ Limbs zs ∧ val zs = val xs * 2 ^ n ∧ Row wx gl zs) ∧ Hid (∃ zs, zs.length = k + 1 + 1 ∧ Limbs zs ∧ val zs = val ys * 2 ^ n ∧ Row wx gd zs))
  case first =>
    have qq : Below w.heap.size w w := Below.refl _ _
    clear hmk hz0 hz1 hz2 hi
    go_region_held3 (fun w' => Below w.heap.size w w' ∧ ∀ b o, b < w.heap.size → w'.cell? ⟨b, o, none⟩ = w.cell? ⟨b, o, none⟩)
      (((with_reducible refine keep_of ?_); (repeat' (with_reducible first | exact qb | exact qa | exact qq | refine Below.drew ?_))))
      (first
      | (go_at_call 86
         with_reducible refine (C1.out _ ?_).mono ?_
         with_reducible first | exact qq.drew
         rintro e wa ⟨gl, zl, rfl, n1, l1, m1, v1, r1, hba⟩
         have qa : Below w.heap.size w wa := by with_reducible first | exact belowTo qq.drew hba)
      | (go_at_call 86
         with_reducible refine (C2.out _ ?_).mono ?_
         with_reducible first | exact qa
         rintro e wb ⟨gd, zd, rfl, n2, l2, m2, v2, r2, hbb⟩
         have qb : Below w.heap.size w wb := by with_reducible first | exact belowTo qa hbb))
    all_goals (go_wp2_with fail; go_meet)
    all_goals exact ⟨gl, gd, rfl, rfl, n1, by have := r1.lt; omega, qb, Hd ⟨zl, l1, m1, v1, r1.below hbb⟩, Hd ⟨zd, l2, m2, v2, r2⟩⟩
  case rest =>
    obtain ⟨gl, gd, rfl, rfl, hgl, hgd, hb, HL0, HD0⟩ := hcut
    clear hcell hbk hbl C0 C1 C2 HX HY
    obtain ⟨zl0, hl1, hl2, hl3, hl4⟩ := HL0.out
    obtain ⟨zd, hd1, hd2, hd3, hd4⟩ := HD0.out
    clear HL0 HD0
    obtain ⟨ds, rfl, hdl, hdm, hdv⟩ := cut_top hd1 hd2 (by rw [hd3]; exact HL.out.high)
    rw [hd3] at hdv
    have htop := top_big hdl hdm (by rw [hdv]; exact HL.out.low)
    have hdc := hd4.head_cell (k := k) (by omega)
    have hgdlt := hd4.lt
    have hbt := limbs_get hdm (k := k) (by omega)
    rw [← at0_lt (by omega)] at htop hdc hbt
    have I0 : Dw w (wc.alloc (.cells (madeCells #[.int .u32 0] r) 40)) gl wc.heap.size gd r zl0 ds (val ys * 2 ^ n) r zl0 (List.replicate r 0) :=
      ⟨by have := Dv.start HL.out (xs := xs) (zl0 := zl0) HLX.out (by rw [HXL.out]; omega) (by rw [HXL.out]; exact hl1) hl2 hl3 (List.replicate r 0) (limbs_noughts _) (by rw [HXL.out]; simp); rw [HXL.out, Nat.add_sub_cancel_left] at this; exact this, ⟨hl4.alloc _, Row.made _ _, hd4.alloc _, hb.alloc hb.size _, by have := hl4.lt; omega, by omega, by omega, hgl, hb.size⟩, by simp⟩
    have H0 := Hd (⟨_, _, I0⟩ : ∃ zs qs, Dw w (wc.alloc (.cells (madeCells #[.int .u32 0] r) 40)) gl wc.heap.size gd r zl0 ds (val ys * 2 ^ n) r zs qs)
    have HDL := Hd hdl
    have HDM := Hd hdm
    have HDV := Hd hdv
    have HTOP := Hd htop
    have HL1 := Hd hl1
    have HL2 := Hd hl2
    have HL3 := Hd hl3
    have HNE : gl ≠ wc.heap.size ∧ gd ≠ wc.heap.size ∧ gl ≠ gd ∧ w.heap.size ≤ wc.heap.size := by have := hl4.lt; have := hb.size; omega
    have htop0 : (0 : Int) < ((at0 ds k : Nat) : Int) := by omega
    generalize htt : at0 ds k = tp at htop hdc hbt HTOP htop0
    have HTT := Hd htt
    clear I0 hd4 hl1 hl2 hl3 hl4 hdl hdm hdv hd1 hd2 hd3 htop htt
    go_wp2_with fail
    go_step3
    go_wp2_with fail
    have HGL : Hid (w.heap.size ≤ gl ∧ w.heap.size ≤ gd) := Hd ⟨hgl, by omega⟩
    clear hmax hs0 hs1 hmk hdc hgdlt hb hgl hgd
    generalize wc.heap.size = gq at HNE H0
    go_loopw [10] (fun s wr => ∃ (j : Nat) (i : Int), s = .int .i64 i ∧ i = (j : Int) - 1 ∧ j ≤ r ∧ Hid (∃ zs qs, Dw w wr gl gq gd r zl0 ds (val ys * 2 ^ n) j zs qs)) (fun s _ => (intOf s + 1).toNat)
    case atStart => exact ⟨r, _, rfl, rfl, Nat.le_refl _, H0⟩
    case round =>
      obtain ⟨j, i, rfl, hij, hj, HR⟩ := hrel
      clear H0
      obtain ⟨zs, qs, hdw⟩ := HR.out
      clear HR
      cases j with
      | zero =>
        obtain rfl : i = -1 := by omega
        clear hij
        obtain ⟨z1, z2⟩ := hdw.dv.stop HL3.out
        obtain ⟨zl, hzl, hzlen, hzm, hzv⟩ : ∃ zl, zs = zl ++ zs.drop (k + 1) ∧ zl.length = k + 1 ∧ Limbs zl ∧ val zl = val xs % val ys * 2 ^ n := by
          have hlt := hdw.dv.lt
          simp only [List.drop_zero] at hlt
          have hlen := hdw.dv.len
          rw [HL1.out] at hlen
          have e := val_part zs (k + 1) (by omega)
          refine ⟨zs.take (k + 1), (List.take_append_drop _ _).symm, by rw [List.length_take]; omega, limbs_take hdw.dv.limbs _, ?_⟩
          rw [← z2, e]
          rcases Nat.eq_zero_or_pos (val (zs.drop (k + 1))) with h | h
          · rw [h, Nat.mul_zero]; rfl
          · exfalso
            have h3 := Nat.le_mul_of_pos_right (4294967296 ^ (k + 1)) h
            have := HL.out.high
            omega
        have fr : Front wr gl (k + r + 1) zl := by
          have e := hdw.rows.rl.front
          rw [hdw.dv.len, HL1.out] at e
          have := e.cut (k + 1)
          have e3 : zs.take (k + 1) = zl := by rw [hzl, List.take_left' hzlen]
          rwa [e3] at this
        have D0 := Hd (⟨zl, Downed.start zl hzm n, fr, hdw.rows.rq, hdw.rows.low⟩ : ∃ zt, Downed zl zt n 0 ∧ Front wr gl (k + r + 1) zt ∧ Row wr gq qs ∧ Below w.heap.size w wr)
        have HZM := Hd hzm
        have HZV := Hd hzv
        have HZ1 := Hd z1
        have HQL := Hd (And.intro hdw.qlen hdw.dv.limbsq)
        have HZL := Hd hzlen
        have hs0 : (0 : Int) ≤ (k : Int) + 1 := by omega
        have hs1 : (k : Int) + 1 ≤ (k : Int) + (r : Int) + 1 := by omega
        clear hzl z1 z2 fr hdw hzm hzv hzlen
        go_wp2_with fail
        go_loopw [169] (fun s wv => ∃ kk : Nat, s = .int .i64 kk ∧ kk ≤ k + 1 ∧ Hid (∃ zt, Downed zl zt n kk ∧ Front wv gl (k + r + 1) zt ∧ Row wv gq qs ∧ Below w.heap.size w wv)) (fun s _ => k + 1 - (intOf s).toNat)
        case atStart => exact ⟨0, rfl, by omega, D0⟩
        case round =>
          obtain ⟨kk, rfl, hkk, HR⟩ := hrel
          clear D0
          obtain ⟨zt, dn, fr, rq, lo⟩ := HR.out
          clear HR
          by_cases hlt : kk < k + 1
          · have hk1 : kk < zl.length := by rw [HZL.out]; exact hlt
            have hk2 : kk < zt.length := by rw [dn.len]; exact hk1
            have c1 := fr.cell hk2
            have f1 := fr.frozen kk
            have q1 := fr.lt
            rw [list_same dn.rest hk2 hk1] at c1
            have x1 := limbs_get HZM.out hk1
            have st := dn.step HZM.out (by omega) hk1
            have x2 := at0_limb HZM.out (kk + 1)
            have c2 : kk + 1 < k + 1 → wr.cell? ⟨gl, kk + 1, none⟩ = some (.int .u32 ((at0 zl (kk + 1) : Nat) : Int)) := fun h => by
              have h1 : kk + 1 < zl.length := by rw [HZL.out]; exact h
              have h2 : kk + 1 < zt.length := by rw [dn.len]; exact h1
              have e := congrArg (List.drop 1) dn.rest
              rw [List.drop_drop, List.drop_drop] at e
              rw [fr.cell h2, list_same e h2 h1, at0_lt h1]
            have hz : ¬ kk + 1 < k + 1 → at0 zl (kk + 1) = 0 := fun h => at0_ge (by rw [HZL.out]; omega)
            have S := Hd (fun d => (⟨zt.set kk d, ·, fr.set hk2 d, rq.far (Ne.symm HNE.1) _, lo.setCell (p := ⟨gl, kk, none⟩) HGL.out.1 _⟩) : ∀ d, Downed zl (zt.set kk d) n (kk + 1) → ∃ zt', Downed zl zt' n (kk + 1) ∧ Front (wr.setCell ⟨gl, kk, none⟩ (.int .u32 (d : Int))) gl (k + r + 1) zt' ∧ Row (wr.setCell ⟨gl, kk, none⟩ (.int .u32 (d : Int))) gq qs ∧ Below w.heap.size w (wr.setCell ⟨gl, kk, none⟩ (.int .u32 (d : Int))))
            have S2 := Hd (S.out _ st)
            generalize zl[kk] = x at c1 x1 S2
            generalize at0 zl (kk + 1) = y at c2 x2 hz S2
            have a0 : (0 : Int) ≤ (kk : Int) := by omega
            have a1 : (kk : Int) < (k : Int) + 1 := by omega
            have a3 : (n : Int) ≤ 64 := by omega
            clear S st dn fr rq lo
            by_cases hh : kk + 1 < k + 1
            · have c3 := c2 hh
              have a4 : (kk : Int) + 1 < (k : Int) + 1 := by omega
              have a5 : (0 : Int) ≤ (kk : Int) + 1 := by omega
              have ej := or_join y x x2 x1
              have en := down_digit (y * 4294967296 + x) n
              have hN : y * 4294967296 + x < 18446744073709551616 := by omega
              generalize (y * 4294967296 + x) / 2 ^ n % 4294967296 = d9 at en S2
              generalize y * 4294967296 + x = N at ej en hN
              have EN := Hd en
              clear c2 hz en
              go_wp2_with fail
              rw [EN.out]
              go_roundw
              case rel => exact ⟨kk + 1, by go_num, by omega, S2⟩
              case measure => simp [intOf]; omega
            · obtain rfl := hz hh
              have a4 : (k : Int) + 1 ≤ (kk : Int) + 1 := by omega
              have ej := or_join 0 x x2 x1
              have en := down_digit (0 * 4294967296 + x) n
              simp only [Int.ofNat_zero, Nat.zero_mul, Int.zero_mul, Nat.zero_add] at ej en S2
              generalize x / 2 ^ n % 4294967296 = d9 at en S2
              have EN := Hd en
              clear c2 hz en
              go_wp2_with fail
              rw [EN.out]
              go_roundw
              case rel => exact ⟨kk + 1, by go_num, by omega, S2⟩
              case measure => simp [intOf]; omega
          · obtain rfl : kk = k + 1 := by omega
            have e := dn
            rw [← HZL.out] at e
            have hv := e.val_end HZM.out
            rw [HZV.out, Nat.mul_div_cancel _ (Nat.two_pow_pos n)] at hv
            have HV := Hd hv
            have HDN := Hd dn
            have HFR := Hd fr
            have HRQ := Hd rq
            have HLO := Hd lo
            clear e hv dn fr rq lo
            go_wp2_with fail
            rw [Exit.noGoto_ret]
            have hlen : zt.length = k + 1 := by rw [HDN.out.len, HZL.out]
            go_ret2
            exact ⟨gl, gq, k + r + 1, zt, qs, by rw [hlen, HQL.out.1]; rfl, HNE.1, HGL.out.1, HNE.2.2.2, HRQ.out, HFR.out, HQL.out.2, HDN.out.limbs, HZ1.out, HV.out, by rw [HQL.out.1, HXL.out]; omega, by rw [hlen, HYL.out], by omega, HLO.out⟩
      | succ i0 =>
        obtain rfl : i = (i0 : Int) := by omega
        clear hij
        obtain ⟨pre, ps, post, rfl, hpre, hps⟩ := split3 zs i0 (k + 2) (by rw [hdw.dv.len, HL1.out]; omega)
        subst hpre
        obtain ⟨p1, p2, p3, p4⟩ := hdw.dv.part rfl (D := k + 1) hps HL.out.high
        have HP := Hd (And.intro p1 p4)
        have hpl : pre.length + (k + 1) + 1 - pre.length = k + 1 + 1 := by omega
        have HDW := Hd hdw
        have a0 : (0 : Int) ≤ (pre.length : Int) := by omega
        have a1 : (pre.length : Int) ≤ (pre.length : Int) + ((k : Int) + 1) + 1 := by omega
        have a2 : (pre.length : Int) + ((k : Int) + 1) + 1 ≤ (k : Int) + (r : Int) + 1 := by omega
        go_wp2_with fail
        have c1 := hdw.rows.rl.mid_cell (k := k + 1) (by omega)
        have c2 := hdw.rows.rl.mid_cell (k := k) (by omega)
        have c3 := hdw.rows.rl.mid_cell (k := m) (by have := HKM.out; omega)
        have d3 := hdw.rows.rd.head_cell (k := m) (by rw [HDL.out]; have := HKM.out; omega)
        have hgl2 := hdw.rows.rl.lt
        have hgd2 := hdw.rows.rd.lt
        rw [← at0_lt (by omega)] at c1 c2
        rw [← at0_lt (by have := HKM.out; omega)] at c3
        rw [← at0_lt (by have := HKM.out; have := HDL.out; omega)] at d3
        have t1 := at0_limb p3 (k + 1)
        have t2 := at0_limb p3 k
        have t3 := at0_limb p3 m
        have t4 := at0_limb HDM.out m
        have hdg : Digits2 tp (at0 ds m) (4294967296 ^ m) (val (ds.take m)) (at0 ps (k + 1) * 4294967296 + at0 ps k) (at0 ps m) (val (ps.take m)) (val ds) (val ps) := by
          have e := HKM.out
          subst e
          have hd1 := HDL.out
          have := digits_of (ds := ds) (ps := ps) (m := m) (by omega) (by omega) HDM.out p3 (by rw [← at0_lt (by omega), HTT.out]; exact HTOP.out) (by rw [HDV.out]; exact p2)
          rw [← at0_lt (by omega), HTT.out, ← at0_lt (by omega), ← at0_lt (by omega), ← at0_lt (by omega), ← at0_lt (by omega)] at this
          exact this
        generalize at0 ps (k + 1) = uh at c1 t1 hdg
        generalize at0 ps k = ul at c2 t2 hdg
        generalize at0 ps m = u2 at c3 t3 hdg
        generalize at0 ds m = d2 at d3 t4 hdg
        have ej := or_join uh ul t1 t2
        have hMb : uh * 4294967296 + ul < 18446744073709551616 := by omega
        generalize hM : uh * 4294967296 + ul = M at ej hdg hMb
        have G0 := Hd hdg.guess0
        have hdiv : (M : Int) / (tp : Int) = ((M / tp : Nat) : Int) := by rw [← Int.natCast_ediv]
        have hmod : (M : Int) % (tp : Int) = ((M % tp : Nat) : Int) := by rw [← Int.natCast_emod]
        have hq0 : M / tp < 18446744073709551616 := Nat.lt_of_le_of_lt (Nat.div_le_self _ _) hMb
        have hr0 : M % tp < tp := Nat.mod_lt _ (by omega)
        generalize M / tp = g0 at hdiv G0 hq0
        generalize M % tp = r0 at hmod G0 hr0
        have hq0' : (g0 : Int) < 18446744073709551616 := by omega
        have HDG := Hd hdg
        clear hM hdg p1 p2 p3 p4
        clear hdw
        go_quiet (fail)
        go_wp2_with fail
        go_quiet (fail)
        go_upto_block 2 with fail
        rw [hpl, hmod]
        have hg1 : ∀ V : World, wr.grownBy V none → Row V gl (pre ++ ps ++ post) ∧ Row V gd (ds ++ [0]) := fun V hV => ⟨HDW.out.rows.rl.stays hV (by simp), HDW.out.rows.rd.stays hV (by simp)⟩
        go_cut [13] (fun s wx => ∃ g : Nat, s = .int .u64 g ∧ wr.grownBy wx none ∧ Hid (Guessed (val ds) (val ps) g))
        case first =>
          go_wp2_with fail
          go_loopw [13, 14] (fun s t wv => ∃ g rr : Nat, s = .int .u64 g ∧ t = .int .u64 rr ∧ g < 18446744073709551616 ∧ wr.grownBy wv none ∧ Hid (Guess tp M (val ds) (val ps) g rr)) (fun s _ _ => (intOf s).toNat)
          case atStart => exact ⟨g0, r0, rfl, rfl, hq0, ⟨rfl, rfl, rfl, Nat.le_refl _, fun _ _ _ => rfl⟩, G0⟩
          case round =>
            obtain ⟨g, rr, rfl, rfl, hgl64, hgx, HG⟩ := hrel
            have hrr := HG.out.small
            have c4 := hgx.cell c3 (by simp)
            have d4 := hgx.cell d3 (by simp)
            have hgl3 : gl < _ := Nat.lt_of_lt_of_le hgl2 hgx.size
            have hgd3 : gd < _ := Nat.lt_of_lt_of_le hgd2 hgx.size
            have ht : (rr : Int) + (tp : Int) < 18446744073709551616 := by omega
            clear G0 hdiv hmod hq0 hr0 c1 c2 c3 d3 hgl2 hgd2 ej hMb hq0' hpl
            by_cases hgB : 4294967296 ≤ g
            · obtain ⟨e1, e2, e3⟩ := HDG.out.down HG.out (.inl hgB)
              have hb1 : decide ((4294967296 : Int) ≤ (g : Int)) = true := by simp; omega
              have E2 := Hd e2
              have E3 := Hd e3
              have hg1 : (1 : Int) ≤ (g : Int) := by omega
              have hsub : (g : Int) - 1 = ((g - 1 : Nat) : Int) := by omega
              clear e2 e3
              by_cases hrB : 4294967296 ≤ rr + tp
              · have hb2 : decide ((4294967296 : Int) ≤ (rr : Int) + (tp : Int)) = true := by simp; omega
                go_wp2_with fail
                go_quiet (fail)
                go_wp2_with fail
                go_meet
                exact ⟨g - 1, rfl, grown_drewN hgx _, Hd (E3.out hrB)⟩
              · have hb2 : decide ((4294967296 : Int) ≤ (rr : Int) + (tp : Int)) = false := by simp; omega
                go_wp2_with fail
                go_quiet (fail)
                go_wp2_with fail
                go_roundw
                case rel => exact ⟨g - 1, rr + tp, rfl, by simp, by omega, grown_drewN hgx _, Hd (E2.out (by omega))⟩
                case measure => simp [intOf]; omega
            · have hb1 : decide ((4294967296 : Int) ≤ (g : Int)) = false := by simp; omega
              have hb0 : (g : Int) < 4294967296 := by omega
              have ej := or_join rr u2 hrr t3
              have hgd : g * d2 ≤ 4294967295 * 4294967295 := Nat.mul_le_mul (by omega) (by omega)
              have hgw : IntKind.u64.wrap ((g : Int) * (d2 : Int)) = ((g * d2 : Nat) : Int) := by
                rw [show (g : Int) * (d2 : Int) = ((g * d2 : Nat) : Int) by simp, IntKind.wrap_u64]; omega
              by_cases hc : rr * 4294967296 + u2 < g * d2
              · obtain ⟨e1, e2, e3⟩ := HDG.out.down HG.out (.inr hc)
                generalize rr * 4294967296 + u2 = N at ej hc
                generalize g * d2 = G at hgw hc hgd
                have hci : (N : Int) < (G : Int) := by omega
                have E2 := Hd e2
                have E3 := Hd e3
                have hg1 : (1 : Int) ≤ (g : Int) := by omega
                have hsub : (g : Int) - 1 = ((g - 1 : Nat) : Int) := by omega
                clear e2 e3 hc
                by_cases hrB : 4294967296 ≤ rr + tp
                · have hb2 : decide ((4294967296 : Int) ≤ (rr : Int) + (tp : Int)) = true := by simp; omega
                  go_wp2_with fail
                  go_quiet (fail)
                  go_wp2_with fail
                  go_meet
                  exact ⟨g - 1, rfl, grown_drewN hgx _, Hd (E3.out hrB)⟩
                · have hb2 : decide ((4294967296 : Int) ≤ (rr : Int) + (tp : Int)) = false := by simp; omega
                  go_wp2_with fail
                  go_quiet (fail)
                  go_wp2_with fail
                  go_roundw
                  case rel => exact ⟨g - 1, rr + tp, rfl, by simp, by omega, grown_drewN hgx _, Hd (E2.out (by omega))⟩
                  case measure => simp [intOf]; omega
              · have HGS := Hd (HDG.out.stop HG.out (by omega) (by omega))
                generalize rr * 4294967296 + u2 = N at ej hc
                generalize g * d2 = G at hgw hc hgd
                have hci : decide (N < G) = false := by simp; omega
                clear hc
                go_wp2_with fail
                go_quiet (fail)
                go_wp2_with fail
                go_meet
                exact ⟨g, rfl, grown_drewN hgx _, HGS⟩
        case rest =>
          obtain ⟨g, rfl, hgx, HG⟩ := hcut
          have hgB := HG.out.limb
          have hgB2 : (g : Int) < 4294967296 := by omega
          have rows1 := HDW.out.rows.stays hgx
          have C3 := exact_less gl gd (k + r + 1 - pre.length) (k + 1 + 1) g pre ps post ds [0] hgB (Ne.symm rows1.nld) (by have := HDL.out; omega) (by have := HDW.out.dv.limbs; rw [List.append_assoc, limbs_append, limbs_append] at this; exact this.2.1) HDM.out (by have := HDL.out; omega) _ rows1.rl rows1.rd
          rw [HDL.out] at C3
          have C4 := Hd C3
          have R1 := Hd rows1
          clear G0 hdiv hmod hq0 hr0 c1 c2 c3 d3 hgl2 hgd2 ej hMb hq0' hg1 C3 rows1
          go_wp2_with fail
          refine C4.out.mono ?_
          rintro e w1 ⟨ps', nn, rfl, l1, l2, r1, g1, v1⟩
          have rows2 := R1.out.lessed g1 r1
          have hiq : pre.length < qs.length := by rw [HDW.out.qlen]; omega
          have hiq2 : (pre.length : Int) < (r : Int) := by omega
          have qc := rows2.rq.cell hiq
          have qf := rows2.rq.frozen pre.length
          generalize qs[pre.length] = old at qc
          cases nn with
          | false =>
            rw [if_neg (by simp), Nat.mul_zero, Nat.add_zero] at v1
            have S := Hd (⟨pre ++ ps' ++ post, qs.set pre.length g, HDW.out.dv.step rfl (D := k + 1) hps HL.out.high l1 l2 hgB (by rw [← HDV.out]; exact v1) (by have := HG.out.high; rw [Nat.add_mul, Nat.one_mul] at this; rw [← HDV.out]; omega) hiq, rows2.setq pre.length g, by simp [HDW.out.qlen]⟩ : ∃ zs qs, Dw w (w1.setCell ⟨gq, pre.length, none⟩ (.int .u32 (g : Int))) gl gq gd r zl0 ds (val ys * 2 ^ n) pre.length zs qs)
            clear rows2 l1 l2 r1 g1 v1 hps
            go_wp2_with fail
            go_roundw
            case rel => exact ⟨pre.length, _, rfl, rfl, by omega, S⟩
            case measure => simp [intOf]
          | true =>
            rw [if_pos rfl, Nat.mul_one] at v1
            have hps'B := val_lt l2
            rw [l1, hps] at hps'B
            have hg1 : 1 ≤ g := by
              rcases Nat.eq_zero_or_pos g with rfl | h
              · exfalso
                rw [Nat.zero_mul, Nat.add_zero] at v1
                exact absurd hps'B (by rw [v1]; exact Nat.not_lt.2 (Nat.le_add_left _ _))
              · exact h
            have hg1i : (1 : Int) ≤ (g : Int) := by omega
            have hsub : (g : Int) - 1 = ((g - 1 : Nat) : Int) := by omega
            have hsb : ((g - 1 : Nat) : Int) < 4294967296 := by omega
            have rows3 := rows2.setq pre.length (g - 1)
            have B0 := Hd (⟨ps', rfl, l2, rows3, rfl, by simp [val]⟩ : ∃ ps'', Backed w (w1.setCell ⟨gq, pre.length, none⟩ (.int .u32 ((g - 1 : Nat) : Int))) gl gq gd pre ps' post (qs.set pre.length (g - 1)) ds 0 0 ps'')
            have HV1 := Hd v1
            have HL2 := Hd l2
            have HL1' := Hd l1
            have HPB := Hd hps'B
            have HPS := Hd hps
            clear rows2 l1 l2 r1 g1 v1 hps hps'B rows3
            go_wp2_with fail
            go_loopw [15, 136] (fun t s wv => ∃ kk cc : Nat, s = .int .i64 kk ∧ t = .int .u32 cc ∧ cc ≤ 1 ∧ kk ≤ k + 1 ∧ Hid (∃ ps'', Backed w wv gl gq gd pre ps' post (qs.set pre.length (g - 1)) ds kk cc ps'')) (fun _ s _ => k + 1 - (intOf s).toNat)
            case atStart => exact ⟨0, 0, rfl, rfl, by omega, by omega, B0⟩
            case round =>
              obtain ⟨kk, cc, rfl, rfl, hcc, hkk, HR⟩ := hrel
              clear B0 qc qf
              obtain ⟨ps'', hbk⟩ := HR.out
              clear HR
              by_cases hlt : kk < k + 1
              · have hk2 : kk < ps''.length := by rw [hbk.len, HL1'.out, HPS.out]; omega
                have hk3 : kk < ps'.length := by rw [HL1'.out, HPS.out]; omega
                have hk4 : kk < ds.length := by rw [HDL.out]; omega
                have a0 : (0 : Int) ≤ (kk : Int) := by omega
                have a1 : (kk : Int) < (k : Int) + 1 := by omega
                have a2 : (kk : Int) < (k : Int) + 1 + 1 := by omega
                have c1 := hbk.rows.rl.mid_cell hk2
                have c2 := hbk.rows.rd.head_cell hk4
                have f1 := hbk.rows.rl.frozen (pre.length + kk)
                have q1 := hbk.rows.rl.lt
                have q2 := hbk.rows.rd.lt
                rw [list_same hbk.rest hk2 hk3] at c1
                have x1 := limbs_get HL2.out hk3
                have x2 := limbs_get HDM.out hk4
                have S := Hd (⟨_, hbk.step hk3 hk4 _ rfl⟩ : ∃ ps4, Backed w _ gl gq gd pre ps' post (qs.set pre.length (g - 1)) ds (kk + 1) ((ps'[kk] + ds[kk] + cc) / 4294967296) ps4)
                generalize ps'[kk] = x at c1 x1 S
                generalize ds[kk] = y at c2 x2 S
                have C := Hd (fun V => bits_Add32 x y cc x1 x2 hcc V)
                have hc2 : (x + y + cc) / 4294967296 ≤ 1 := by omega
                generalize (x + y + cc) / 4294967296 = c9 at C S hc2
                generalize (x + y + cc) % 4294967296 = d9 at C S
                clear hbk
                go_wp2_with (first | (go_at_call 88; with_reducible refine (C.out _).mono ?_; rintro e w' ⟨rfl, rfl⟩))
                go_roundw
                case rel => exact ⟨kk + 1, c9, by go_num, rfl, hc2, hlt, S⟩
                case measure => simp [intOf]; omega
              · obtain rfl : kk = k + 1 := by omega
                have hk2 : k + 1 < ps''.length := by rw [hbk.len, HL1'.out, HPS.out]; omega
                have hk3 : k + 1 < ps'.length := by rw [HL1'.out, HPS.out]; omega
                have c1 := hbk.rows.rl.mid_cell hk2
                have f1 := hbk.rows.rl.frozen (pre.length + (k + 1))
                have q1 := hbk.rows.rl.lt
                rw [list_same hbk.rest hk2 hk3, ← at0_lt hk3] at c1
                have x1 := at0_limb HL2.out (k + 1)
                have hbk2 := hbk
                rw [← HDL.out] at hbk2
                obtain ⟨s1, s2, s3, s4⟩ := hbk2.stop (by rw [HL1'.out, HPS.out, HDL.out]) _ rfl
                rw [HDL.out] at s1 s2 s3 s4
                have hcc2 : (at0 ps' (k + 1) + cc) / 4294967296 ≤ 1 := by omega
                have hF := val_lt s2
                rw [s1, HL1'.out, HPS.out] at hF
                obtain ⟨-, z2, z3⟩ := back_val s4 HV1.out hF HPB.out HG.out.low hcc2
                have S := Hd (⟨_, _, HDW.out.dv.step rfl (D := k + 1) HPS.out HL.out.high (by rw [s1, HL1'.out]) s2 (by omega) (by rw [← HDV.out]; exact z2) (by rw [← HDV.out]; exact z3) hiq, s3, by simp [HDW.out.qlen]⟩ : ∃ zs qs, Dw w _ gl gq gd r zl0 ds (val ys * 2 ^ n) pre.length zs qs)
                generalize at0 ps' (k + 1) = x at c1 x1 S
                have ex : ((x : Int) + (cc : Int)) % 4294967296 = (((x + cc) % 4294967296 : Nat) : Int) := by omega
                generalize (x + cc) % 4294967296 = d9 at ex S
                have a0 : (0 : Int) ≤ (k : Int) + 1 := by omega
                have a2 : (k : Int) + 1 < (k : Int) + 1 + 1 := by omega
                have EX := Hd ex
                clear hbk hbk2 s1 s2 s3 s4 hF z2 z3 ex
                go_wp2_with fail
                go_roundw
                case rel => exact ⟨pre.length, _, rfl, rfl, by omega, by rw [EX.out]; exact S⟩
                case measure => simp [intOf]
/- A number of one's own; two results that share no memory; own of package exact. -/

theorem exact_signed_sv (neg : Bool) (A : Option Addr) (c : Nat) (xs : List Nat) (w : World) (h : Raw w A c xs) :
    Calls Tryd.prog 39 #[.bool neg, .slice A xs.length c] w fun e w' => e = .returned (sv neg A c xs) ∧ Below w.heap.size w w' := by
  unfold sv
  by_cases h0 : val xs = 0
  · rw [if_pos h0]; exact exact_signed_nought neg A c xs w h h0
  · rw [if_neg h0]; exact exact_signed_more neg A c xs w h h0
theorem IntOwn.sv {w : World} {base : Nat} {neg : Bool} {A : Option Addr} {c : Nat} {zs : List Nat} (hz : Limbs zs) (h : w.ownsRow base 40 1 (.slice A zs.length c) zs.length (cellsU zs)) (hc : zs.length ≤ c) (hm : c ≤ 9223372036854775807) : IntOwn w base (sv neg A c zs) (ival neg zs) := by
  unfold Go.Proofs.YtbdliabfdplohaaDoor.sv
  by_cases h0 : val zs = 0
  · rw [if_pos h0]
    have : ival neg zs = 0 := by unfold ival; rw [h0]; cases neg <;> rfl
    rw [this]; exact IntOwn.nought _ _
  · rw [if_neg h0]
    exact IntOwn.signed hz h hc hm rfl h0
def blkOf : Value → Option Nat
  | .agg #[_, s] => s.ownBlock
  | _ => none
theorem sv_blk {neg : Bool} {a : Addr} {c : Nat} {zs : List Nat} {g : Nat} (h : blkOf (sv neg (some a) c zs) = some g) : a.block = g := by
  unfold sv at h
  split at h
  · cases h
  · exact Option.some.inj h
structure Ints2 (w : World) (base : Nat) (v1 : Value) (z1 : Int) (v2 : Value) (z2 : Int) : Prop where
  one : IntOwn w base v1 z1
  two : IntOwn w base v2 z2
  apart : ∀ g, blkOf v1 = some g → blkOf v2 ≠ some g
theorem Ints2.below {w w' : World} {base : Nat} {v1 v2 : Value} {z1 z2 : Int} (h : Ints2 w base v1 z1 v2 z2) (hb : Below w.heap.size w w') : Ints2 w' base v1 z1 v2 z2 := ⟨h.one.below hb, h.two.below hb, h.apart⟩
theorem Ints2.base {w : World} {b b' : Nat} {v1 v2 : Value} {z1 z2 : Int} (h : Ints2 w b v1 z1 v2 z2) (hb : b' ≤ b) : Ints2 w b' v1 z1 v2 z2 := ⟨h.one.base hb, h.two.base hb, h.apart⟩
theorem Ints2.pair {w : World} {g base : Nat} {a b : Value} {v1 v2 : Value} {z1 z2 : Int} (h : Ints2 w base v1 z1 v2 z2) (hne : g < base) : Ints2 ((w.setCell ⟨g, 0, none⟩ a).setCell ⟨g, 1, none⟩ b) base v1 z1 v2 z2 := ⟨h.one.pair hne, h.two.pair hne, h.apart⟩
def RetTwo (base : Nat) (w : World) (z1 z2 : Int) (e : Ending) (w' : World) : Prop := ∃ v1 v2, e = .returned (.tuple #[v1, v2]) ∧ Ints2 w' base v1 z1 v2 z2 ∧ Below w.heap.size w w'

theorem exact_own (n1 : Bool) (A : Option Addr) (c : Nat) (xs : List Nat) (hl : xs.length ≤ 1073741824) (w : World) (h : Raw w A c xs) :
    Calls Tryd.prog 69 #[.bool n1, .slice A xs.length c] w (RetInt w.heap.size w (ival n1 xs)) := by
  have pr := Pair.new w 24 (.bool false) (.slice none 0 0)
  have b0 := (Below.refl w.heap.size w).alloc (Nat.le_refl _) (.cells #[.bool false, .slice none 0 0] 24)
  have rx := h.alloc (.cells #[.bool false, .slice none 0 0] 24)
  clear h
  go_enter Tryd.func69, Tryd.ntmps69
  obtain ⟨W, E⟩ : ∃ W, W = w.alloc (.cells #[.bool false, .slice none 0 0] 24) := ⟨_, rfl⟩
  have C1 := Hd (slices_Clone A c xs hl W (by rw [E]; exact rx))
  go_wp2_with fail
  rw [← E] at pr b0 ⊢
  have hsz : w.heap.size + 1 = W.heap.size := by rw [E]; simp
  clear E rx
  have PR := Hd pr
  have B0 := Hd b0
  clear pr b0
  refine C1.out.mono ?_
  rintro e w1 ⟨v, rfl, hv, hb1⟩
  obtain ⟨A1, c1, rfl, h2, h3, h4⟩ := hv.form
  have C2 := Hd (exact_signed_sv n1 A1 c1 xs w1 ⟨hv.limbs, h2, h3, Reads.of_own h4⟩)
  have I1 := Hd (IntOwn.sv (neg := n1) hv.limbs h4 h2 h3)
  have B1 := Hd (belowTo B0.out hb1)
  have P1 := Hd (PR.out.below hb1)
  obtain ⟨b9, A9, k9, c9, hsv⟩ := sv_form n1 A1 c1 xs
  rw [hsv] at C2 I1
  clear C1 PR hv h4 hb1 hsv
  go_wp2_with fail
  refine C2.out.mono ?_
  rintro e w2 ⟨rfl, hb2⟩
  have pr := P1.out.below hb2
  obtain ⟨q1, q2, q3, q4, q5⟩ := pr.facts
  have hI := (I1.out.below hb2).pair (g := w.heap.size) (a := .bool b9) (b := .slice A9 k9 c9) (by omega)
  have hB := below2 (belowTo B1.out hb2) (Nat.le_refl _) (.bool b9) (.slice A9 k9 c9)
  have hq := pr.store (.bool b9) (.slice A9 k9 c9)
  have HI := Hd hI
  have HB := Hd hB
  have HQ := Hd hq
  clear C2 I1 B1 P1 hb2 pr hI hB hq
  go_wp2_with fail
  obtain ⟨_, k0, k1, _, _⟩ := HQ.out.facts
  exact bodyPost_ret (by simp [results, Tryd.results69, go_sem, k0, k1]) rfl ⟨_, rfl, HI.out.base (by omega), HB.out⟩
/- Divide of package exact: the quotient toward nought, and what is left. (Written by wip/exact/gendivide.py.) -/

theorem exact_Divide_less (n1 n2 : Bool) (A B : Option Addr) (c d : Nat) (xs ys : List Nat) (hcx : Canon xs) (hcy : Canon ys) (hlt : val xs < val ys) (hlx : xs.length ≤ 536870912) (hly : ys.length ≤ 536870912) (w : World) (h : Raw w A c xs) (g : Raw w B d ys) :
    Calls Tryd.prog 50 #[.agg #[.bool n1, .slice A xs.length c], .agg #[.bool n2, .slice B ys.length d]] w (RetTwo w.heap.size w 0 (ival n1 xs)) := by
  have px := (((Pair.new w 24 (.bool n1) (.slice A xs.length c)).alloc (.cells #[.bool n2, .slice B ys.length d] 24)).alloc (.cells #[.bool false, .slice none 0 0] 24)).alloc (.cells #[.bool false, .slice none 0 0] 24)
  have py := ((Pair.new (w.alloc (.cells #[.bool n1, .slice A xs.length c] 24)) 24 (.bool n2) (.slice B ys.length d)).alloc (.cells #[.bool false, .slice none 0 0] 24)).alloc (.cells #[.bool false, .slice none 0 0] 24)
  have pq := (Pair.new ((w.alloc (.cells #[.bool n1, .slice A xs.length c] 24)).alloc (.cells #[.bool n2, .slice B ys.length d] 24)) 24 (.bool false) (.slice none 0 0)).alloc (.cells #[.bool false, .slice none 0 0] 24)
  have pr := Pair.new (((w.alloc (.cells #[.bool n1, .slice A xs.length c] 24)).alloc (.cells #[.bool n2, .slice B ys.length d] 24)).alloc (.cells #[.bool false, .slice none 0 0] 24)) 24 (.bool false) (.slice none 0 0)
  have rx := ((((h.alloc (.cells #[.bool n1, .slice A xs.length c] 24)).alloc (.cells #[.bool n2, .slice B ys.length d] 24)).alloc (.cells #[.bool false, .slice none 0 0] 24)).alloc (.cells #[.bool false, .slice none 0 0] 24))
  have ry := ((((g.alloc (.cells #[.bool n1, .slice A xs.length c] 24)).alloc (.cells #[.bool n2, .slice B ys.length d] 24)).alloc (.cells #[.bool false, .slice none 0 0] 24)).alloc (.cells #[.bool false, .slice none 0 0] 24))
  have b0 := ((((Below.refl w.heap.size w).alloc (Nat.le_refl _) (.cells #[.bool n1, .slice A xs.length c] 24)).alloc (by simp) (.cells #[.bool n2, .slice B ys.length d] 24)).alloc (by simp; omega) (.cells #[.bool false, .slice none 0 0] 24)).alloc (by simp; omega) (.cells #[.bool false, .slice none 0 0] 24)
  simp only [World.size_alloc] at py pq pr
  clear h g
  go_enter Tryd.func50, Tryd.ntmps50
  go_wp2_with fail
  obtain ⟨W, E⟩ : ∃ W, W = ((((w.alloc (.cells #[.bool n1, .slice A xs.length c] 24)).alloc (.cells #[.bool n2, .slice B ys.length d] 24)).alloc (.cells #[.bool false, .slice none 0 0] 24)).alloc (.cells #[.bool false, .slice none 0 0] 24)) := ⟨_, rfl⟩
  rw [← E] at px py pq pr b0 rx ry ⊢
  have hsz : W.heap.size = w.heap.size + 4 := by rw [E]; simp
  clear E
  have PX := Hd px
  have PY := Hd py
  have PQ := Hd pq
  have PR := Hd pr
  have B0 := Hd b0
  have RX := Hd rx
  have RY := Hd ry
  obtain ⟨l1, x0, x1, -, -⟩ := px.facts
  obtain ⟨l2, y0, y1, -, -⟩ := py.facts
  clear px py pq pr rx ry b0
  refine (exact_size_told A B c d xs ys hcx hcy (by omega) (by omega) W RX.out RY.out).mono ?_
  rintro e wz ⟨kz, rfl, hk, hbz⟩
  have hk2 := hk.2 hlt
  have hdk : decide (kz < 0) = true := by simp; omega
  obtain ⟨-, xz0, xz1, -, -⟩ := (PX.out.below hbz).facts
  obtain ⟨-, yz0, yz1, -, -⟩ := (PY.out.below hbz).facts
  have C1 := Hd (exact_own n1 A c xs (by omega) wz (RX.out.below hbz))
  have B1 := Hd (belowTo B0.out hbz)
  have PQ1 := Hd (PQ.out.below hbz)
  have PR1 := Hd (PR.out.below hbz)
  have hz1 := hbz.size
  clear hk hk2 hbz l1 x0 x1 l2 y0 y1 PX PY RX RY B0 PQ PR
  go_wp2_with fail
  refine C1.out.mono ?_
  rintro e w1 ⟨v, rfl, hv, hb⟩
  obtain ⟨A1, c1, hform, -⟩ := hv.form
  rw [hform] at hv ⊢
  have pq := PQ1.out.below hb
  have pr := PR1.out.below hb
  obtain ⟨a1, a2, a3, a4, a5⟩ := pq.facts
  obtain ⟨r1, r2, r3, r4, r5⟩ := pr.facts
  have hlr := PR1.out.blk.lt
  have HI := Hd ((Ints2.mk (IntOwn.nought w1 wz.heap.size) hv (fun g h => by cases h)).pair (g := w.heap.size + 1 + 1) (a := .bool false) (b := .slice none 0 0) (by omega))
  have HI2 := Hd (HI.out.pair (g := w.heap.size + 1 + 1 + 1) (a := .bool (decide (ival n1 xs < 0))) (b := .slice A1 (natL (ival n1 xs).natAbs).length c1) (by omega))
  have HB := Hd (below2 (below2 (belowTo B1.out hb) (show w.heap.size ≤ w.heap.size + 1 + 1 by omega) (.bool false) (.slice none 0 0)) (show w.heap.size ≤ w.heap.size + 1 + 1 + 1 by omega) (.bool (decide (ival n1 xs < 0))) (.slice A1 (natL (ival n1 xs).natAbs).length c1))
  have HQ := Hd ((pq.store (.bool false) (.slice none 0 0)).far (show w.heap.size + 1 + 1 ≠ w.heap.size + 1 + 1 + 1 by omega) (.bool (decide (ival n1 xs < 0))) (.slice A1 (natL (ival n1 xs).natAbs).length c1))
  have HR := Hd ((pr.far (show w.heap.size + 1 + 1 + 1 ≠ w.heap.size + 1 + 1 by omega) (.bool false) (.slice none 0 0)).store (.bool (decide (ival n1 xs < 0))) (.slice A1 (natL (ival n1 xs).natAbs).length c1))
  clear hb hv B1 PQ1 PR1 C1 pq pr xz0 xz1 yz0 yz1 HI
  go_wp2_with fail
  obtain ⟨_, k0, k1, _, _⟩ := HQ.out.facts
  obtain ⟨_, k2, k3, _, _⟩ := HR.out.facts
  exact bodyPost_ret (by simp [results, Tryd.results50, go_sem, k0, k1, k2, k3]) rfl ⟨_, _, rfl, HI2.out.base (by omega), HB.out⟩

structure Stored (w V : World) (base gq gr : Nat) (v1 : Value) (z1 : Int) (v2 : Value) (z2 : Int) (b1 : Bool) (s1 : Value) (b2 : Bool) (s2 : Value) : Prop where
  ints : Ints2 V base v1 z1 v2 z2
  pq : Pair V gq 24 (.bool b1) s1
  pr : Pair V gr 24 (.bool b2) s2
  low : Below w.heap.size w V
def AggBool (u : Value) : Prop := ∃ (b : Bool) (A : Option Addr) (k c : Nat), u = .agg #[.bool b, .slice A k c]
theorem Stored.one {w V : World} {base gq gr : Nat} {v1 v2 : Value} {z1 z2 : Int} {b1 b2 : Bool} {s1 s2 : Value} (h : Stored w V base gq gr v1 z1 v2 z2 b1 s1 b2 s2) (hgq : gq < base) (hne : gr ≠ gq) (hw : w.heap.size ≤ gq) (b : Bool) (s : Value) : Stored w ((V.setCell ⟨gq, 0, none⟩ (.bool b)).setCell ⟨gq, 1, none⟩ s) base gq gr v1 z1 v2 z2 b s b2 s2 :=
  ⟨h.ints.pair hgq, h.pq.store _ _, h.pr.far hne _ _, below2 h.low hw _ _⟩
structure Stored2 (w V : World) (base gq gr : Nat) (v1 : Value) (z1 : Int) (v2 : Value) (z2 : Int) (b1 : Bool) (s1 : Value) : Prop where
  ex : ∃ (b2 : Bool) (s2 : Value), v2 = .agg #[.bool b2, s2] ∧ Stored w V base gq gr v1 z1 v2 z2 b1 s1 b2 s2
theorem Stored.two {w V : World} {base gq gr : Nat} {v1 v2 : Value} {z1 z2 : Int} {b1 b2 : Bool} {s1 s2 : Value} (h : Stored w V base gq gr v1 z1 v2 z2 b1 s1 b2 s2) (hgr : gr < base) (hne : gq ≠ gr) (hw : w.heap.size ≤ gr) (b : Bool) (s : Value) : Stored w ((V.setCell ⟨gr, 0, none⟩ (.bool b)).setCell ⟨gr, 1, none⟩ s) base gq gr v1 z1 v2 z2 b1 s1 b s :=
  ⟨h.ints.pair hgr, h.pq.far hne _ _, h.pr.store _ _, below2 h.low hw _ _⟩

theorem exact_Divide_many (n1 n2 : Bool) (A B : Option Addr) (c d : Nat) (xs ys : List Nat) (hcx : Canon xs) (hcy : Canon ys) (hle : val ys ≤ val xs) (h2 : 2 ≤ ys.length) (hlx : xs.length ≤ 536870912) (hly : ys.length ≤ 536870912) (w : World) (h : Raw w A c xs) (g : Raw w B d ys) :
    Calls Tryd.prog 50 #[.agg #[.bool n1, .slice A xs.length c], .agg #[.bool n2, .slice B ys.length d]] w (RetTwo w.heap.size w (ival (n1 != n2) (natL (val xs / val ys))) (ival n1 (natL (val xs % val ys)))) := by
  have px := (((Pair.new w 24 (.bool n1) (.slice A xs.length c)).alloc (.cells #[.bool n2, .slice B ys.length d] 24)).alloc (.cells #[.bool false, .slice none 0 0] 24)).alloc (.cells #[.bool false, .slice none 0 0] 24)
  have py := ((Pair.new (w.alloc (.cells #[.bool n1, .slice A xs.length c] 24)) 24 (.bool n2) (.slice B ys.length d)).alloc (.cells #[.bool false, .slice none 0 0] 24)).alloc (.cells #[.bool false, .slice none 0 0] 24)
  have pq := (Pair.new ((w.alloc (.cells #[.bool n1, .slice A xs.length c] 24)).alloc (.cells #[.bool n2, .slice B ys.length d] 24)) 24 (.bool false) (.slice none 0 0)).alloc (.cells #[.bool false, .slice none 0 0] 24)
  have pr := Pair.new (((w.alloc (.cells #[.bool n1, .slice A xs.length c] 24)).alloc (.cells #[.bool n2, .slice B ys.length d] 24)).alloc (.cells #[.bool false, .slice none 0 0] 24)) 24 (.bool false) (.slice none 0 0)
  have rx := ((((h.alloc (.cells #[.bool n1, .slice A xs.length c] 24)).alloc (.cells #[.bool n2, .slice B ys.length d] 24)).alloc (.cells #[.bool false, .slice none 0 0] 24)).alloc (.cells #[.bool false, .slice none 0 0] 24))
  have ry := ((((g.alloc (.cells #[.bool n1, .slice A xs.length c] 24)).alloc (.cells #[.bool n2, .slice B ys.length d] 24)).alloc (.cells #[.bool false, .slice none 0 0] 24)).alloc (.cells #[.bool false, .slice none 0 0] 24))
  have b0 := ((((Below.refl w.heap.size w).alloc (Nat.le_refl _) (.cells #[.bool n1, .slice A xs.length c] 24)).alloc (by simp) (.cells #[.bool n2, .slice B ys.length d] 24)).alloc (by simp; omega) (.cells #[.bool false, .slice none 0 0] 24)).alloc (by simp; omega) (.cells #[.bool false, .slice none 0 0] 24)
  simp only [World.size_alloc] at py pq pr
  clear h g
  go_enter Tryd.func50, Tryd.ntmps50
  go_wp2_with fail
  obtain ⟨W, E⟩ : ∃ W, W = ((((w.alloc (.cells #[.bool n1, .slice A xs.length c] 24)).alloc (.cells #[.bool n2, .slice B ys.length d] 24)).alloc (.cells #[.bool false, .slice none 0 0] 24)).alloc (.cells #[.bool false, .slice none 0 0] 24)) := ⟨_, rfl⟩
  rw [← E] at px py pq pr b0 rx ry ⊢
  have hsz : W.heap.size = w.heap.size + 4 := by rw [E]; simp
  clear E
  have PX := Hd px
  have PY := Hd py
  have PQ := Hd pq
  have PR := Hd pr
  have B0 := Hd b0
  have RX := Hd rx
  have RY := Hd ry
  obtain ⟨l1, x0, x1, -, -⟩ := px.facts
  obtain ⟨l2, y0, y1, -, -⟩ := py.facts
  clear px py pq pr rx ry b0
  refine (exact_size_told A B c d xs ys hcx hcy (by omega) (by omega) W RX.out RY.out).mono ?_
  rintro e wz ⟨kz, rfl, hk, hbz⟩
  have hk2 := hk.1 hle
  have hdk : decide (kz < 0) = false := by simp; omega
  obtain ⟨-, xz0, xz1, -, -⟩ := (PX.out.below hbz).facts
  obtain ⟨-, yz0, yz1, -, -⟩ := (PY.out.below hbz).facts
  have B1 := Hd (belowTo B0.out hbz)
  have PX1 := Hd (PX.out.below hbz)
  have PY1 := Hd (PY.out.below hbz)
  have PQ1 := Hd (PQ.out.below hbz)
  have PR1 := Hd (PR.out.below hbz)
  have RX1 := Hd (RX.out.below hbz)
  have RY1 := Hd (RY.out.below hbz)
  have hz1 := hbz.size
  obtain ⟨m, k, r, hm1, hm2, hm3, hm4⟩ : ∃ m k r, k = m + 1 ∧ xs.length = k + r ∧ 1 ≤ r ∧ ys.length = k + 1 := by
    have := len_of_val RY.out.limbs RX.out.limbs hcy hle
    exact ⟨ys.length - 2, ys.length - 1, xs.length - (ys.length - 1), by omega, by omega, by omega, by omega⟩
  have h0 : at0 ys k ≠ 0 := by
    rw [at0_lt (by omega)]
    exact hcy _ (getLast_get hm4)
  have hly1 : decide (ys.length = 1) = false := by simp; omega
  have hly2 : ((ys.length : Int) == 1) = false := by simp; omega
  have C1 := exact_divide A B c d xs ys m k r hm1 hm2 hm3 hm4 h0 hlx wz RX1.out RY1.out
  rw [← hm2, ← hm4] at C1
  have C2 := Hd C1
  clear C1 hm1 hm2 hm3 hm4 h0 hk hk2 hbz l1 x0 x1 l2 y0 y1 PX PY RX RY B0 PQ PR
  go_wp2_with fail
  refine C2.out.mono ?_
  rintro e V ⟨gl, gq, cl, zl, zq, rfl, hne, hgl, hgq, hrq, hfl, hzq, hzl, hvq, hvl, hlq, hll, hcl, hb⟩
  have hfq := hrq.front
  have PX2 := Hd (PX1.out.below hb)
  have PY2 := Hd (PY1.out.below hb)
  have ST := Hd (Stored.mk (b1 := false) (s1 := .slice none 0 0) (b2 := false) (s2 := .slice none 0 0) (Ints2.mk
      (IntOwn.sv (neg := n1 != n2) hzq (by have := hfq.own hgq (Nat.le_refl _) (by omega); rwa [List.take_length] at this) (Nat.le_refl _) (by omega))
      (IntOwn.sv (neg := n1) hzl (by have := hfl.own hgl (Nat.le_refl _) hcl; rwa [List.take_length] at this) hfl.fits hcl)
      (fun g h1 h2 => hne ((sv_blk h2).trans (sv_blk h1).symm))) (PQ1.out.below hb) (PR1.out.below hb) (belowTo B1.out hb))
  have e1 : ival (n1 != n2) zq = ival (n1 != n2) (natL (val xs / val ys)) := by unfold ival; rw [val_natL, hvq]
  have e2 : ival n1 zl = ival n1 (natL (val xs % val ys)) := by unfold ival; rw [val_natL, hvl]
  rw [e1, e2] at ST
  have C3 := Hd (fun (V' : World) (hV : Below V.heap.size V V') => exact_signed_sv (n1 != n2) (some ⟨gq, 0, none⟩) zq.length zq V' ((hfq.below hV).raw (by omega) hzq))
  have C4 := Hd (fun (V' : World) (hV : Below V.heap.size V V') => exact_signed_sv n1 (some ⟨gl, 0, none⟩) cl zl V' ((hfl.below hV).raw hcl hzl))
  obtain ⟨b1, A1, k1, c1, hs1⟩ := sv_form (n1 != n2) (some ⟨gq, 0, none⟩) zq.length zq
  obtain ⟨b2, A2, k2, c2, hs2⟩ := sv_form n1 (some ⟨gl, 0, none⟩) cl zl
  rw [hs1] at C3 ST
  rw [hs2] at C4 ST
  clear e1 e2 hs1 hs2 hfq hfl hrq hb hcl hll hlq hvl hvq hzl hzq hgl hgq hne PX1 PY1 PQ1 PR1 B1 C2 RX1 RY1 xz0 xz1 yz0 yz1 hdk hly1 hly2
  have HW := Hd (Below.refl V.heap.size V)
  have hg1 : w.heap.size + 1 + 1 < wz.heap.size := by omega
  have hg2 : w.heap.size + 1 + 1 + 1 < wz.heap.size := by omega
  go_wp2_with fail
  refine wp_region_steps [.val (.pointer (some ⟨w.heap.size, 0, none⟩)), .val (.bool n1), .val (.pointer (some ⟨w.heap.size + 1, 0, none⟩)), .val (.bool n2), .val (.bool (n1 != n2)), .val (.slice (some ⟨gq, 0, none⟩) zq.length zq.length), .val (.agg #[.bool b1, .slice A1 k1 c1]), .val (.pointer (some ⟨w.heap.size, 0, none⟩)), .val (.bool n1), .val (.slice (some ⟨gl, 0, none⟩) zl.length cl), .val (.agg #[.bool b2, .slice A2 k2 c2]), .step, .step] 0 2 V
    (fun us V' => True)
    (fun us V' => match us with
      | [_] => Stored w V' wz.heap.size (w.heap.size + 1 + 1) (w.heap.size + 1 + 1 + 1) (.agg #[.bool b1, .slice A1 k1 c1]) (ival (n1 != n2) (natL (val xs / val ys))) (.agg #[.bool b2, .slice A2 k2 c2]) (ival n1 (natL (val xs % val ys))) b1 (.slice A1 k1 c1) false (.slice none 0 0)
      | _ => Stored w V' wz.heap.size (w.heap.size + 1 + 1) (w.heap.size + 1 + 1 + 1) (.agg #[.bool b1, .slice A1 k1 c1]) (ival (n1 != n2) (natL (val xs / val ys))) (.agg #[.bool b2, .slice A2 k2 c2]) (ival n1 (natL (val xs % val ys))) b1 (.slice A1 k1 c1) b2 (.slice A2 k2 c2))
    _ mixedOrders2 (by kernel_rfl) (by kernel_rfl) (by kernel_rfl) (by kernel_rfl) (by kernel_rfl) (by kernel_rfl) (by kernel_rfl) (by kernel_rfl) (by kernel_rfl) rfl ?_ HW.out trivial ?_ ?_ ?_
  · intro us V1 V2 _ _
    trivial
  · simp [ValsOk, chainAct, fill, pairs, valAt]
    repeat' apply And.intro
    all_goals
      intro V' hV
      obtain ⟨-, e0, e1, -, -⟩ := (PX2.out.below hV).facts
      obtain ⟨-, f0, f1, -, -⟩ := (PY2.out.below hV).facts
      have HV := Hd hV
      clear hV
      go_simp
      first
      | exact Below.refl _ _
      | exact ⟨by cases n1 <;> cases n2 <;> rfl, Below.refl _ _⟩
      | (with_reducible refine (C3.out V' HV.out).mono ?_; rintro e w' ⟨rfl, hb⟩; exact ⟨rfl, hb⟩)
      | (with_reducible refine (C4.out V' HV.out).mono ?_; rintro e w' ⟨rfl, hb⟩; exact ⟨rfl, hb⟩)
  · simp [StepsOk, chainAct, fill, pairs, valAt]
    refine ⟨fun V' hV => ?_, fun V' hst => ?_⟩
    · have st : Stored w V' wz.heap.size (w.heap.size + 1 + 1) (w.heap.size + 1 + 1 + 1) (.agg #[.bool b1, .slice A1 k1 c1]) (ival (n1 != n2) (natL (val xs / val ys))) (.agg #[.bool b2, .slice A2 k2 c2]) (ival n1 (natL (val xs % val ys))) false (.slice none 0 0) false (.slice none 0 0) := ⟨ST.out.ints.below hV, ST.out.pq.below hV, ST.out.pr.below hV, belowTo ST.out.low hV⟩
      obtain ⟨q1, q2, q3, q4, q5⟩ := st.pq.facts
      have S := Hd (st.one hg1 (by omega) (by omega) b1 (.slice A1 k1 c1))
      clear st
      go_simp
      exact S.out
    · obtain ⟨q1, q2, q3, q4, q5⟩ := hst.pr.facts
      have S := Hd (hst.two hg2 (by omega) (by omega) b2 (.slice A2 k2 c2))
      clear hst
      go_simp
      exact S.out
  · intro us V' hus hF
    obtain ⟨u0, u1, rfl⟩ : ∃ u0 u1, us = [u0, u1] := by
      match us, hus with
      | [u0, u1], _ => exact ⟨u0, u1, rfl⟩
    simp only [show ¬ (2 ≤ 0) by decide, if_false] at hF
    simp [chainAct, fill, pairs, valAt]
    obtain ⟨_, k0, k1, _, _⟩ := hF.pq.facts
    obtain ⟨_, k2, k3, _, _⟩ := hF.pr.facts
    have HF := Hd hF
    clear hF PX2 PY2 ST
    go_wp2_with fail
    exact bodyPost_ret (by simp [results, Tryd.results50, go_sem, k0, k1, k2, k3]) rfl ⟨_, _, rfl, HF.out.ints.base (by omega), HF.out.low⟩

theorem exact_Divide_one (n1 n2 : Bool) (A B : Option Addr) (c d : Nat) (xs ys : List Nat) (hcx : Canon xs) (hcy : Canon ys) (hle : val ys ≤ val xs) (hl1 : ys.length = 1) (hlx : xs.length ≤ 536870912) (hly : ys.length ≤ 536870912) (w : World) (h : Raw w A c xs) (g : Raw w B d ys) :
    Calls Tryd.prog 50 #[.agg #[.bool n1, .slice A xs.length c], .agg #[.bool n2, .slice B ys.length d]] w (RetTwo w.heap.size w (ival (n1 != n2) (natL (val xs / val ys))) (ival n1 (natL (val xs % val ys)))) := by
  have HL1 := Hd hl1
  clear hl1
  have px := (((Pair.new w 24 (.bool n1) (.slice A xs.length c)).alloc (.cells #[.bool n2, .slice B ys.length d] 24)).alloc (.cells #[.bool false, .slice none 0 0] 24)).alloc (.cells #[.bool false, .slice none 0 0] 24)
  have py := ((Pair.new (w.alloc (.cells #[.bool n1, .slice A xs.length c] 24)) 24 (.bool n2) (.slice B ys.length d)).alloc (.cells #[.bool false, .slice none 0 0] 24)).alloc (.cells #[.bool false, .slice none 0 0] 24)
  have pq := (Pair.new ((w.alloc (.cells #[.bool n1, .slice A xs.length c] 24)).alloc (.cells #[.bool n2, .slice B ys.length d] 24)) 24 (.bool false) (.slice none 0 0)).alloc (.cells #[.bool false, .slice none 0 0] 24)
  have pr := Pair.new (((w.alloc (.cells #[.bool n1, .slice A xs.length c] 24)).alloc (.cells #[.bool n2, .slice B ys.length d] 24)).alloc (.cells #[.bool false, .slice none 0 0] 24)) 24 (.bool false) (.slice none 0 0)
  have rx := ((((h.alloc (.cells #[.bool n1, .slice A xs.length c] 24)).alloc (.cells #[.bool n2, .slice B ys.length d] 24)).alloc (.cells #[.bool false, .slice none 0 0] 24)).alloc (.cells #[.bool false, .slice none 0 0] 24))
  have ry := ((((g.alloc (.cells #[.bool n1, .slice A xs.length c] 24)).alloc (.cells #[.bool n2, .slice B ys.length d] 24)).alloc (.cells #[.bool false, .slice none 0 0] 24)).alloc (.cells #[.bool false, .slice none 0 0] 24))
  have b0 := ((((Below.refl w.heap.size w).alloc (Nat.le_refl _) (.cells #[.bool n1, .slice A xs.length c] 24)).alloc (by simp) (.cells #[.bool n2, .slice B ys.length d] 24)).alloc (by simp; omega) (.cells #[.bool false, .slice none 0 0] 24)).alloc (by simp; omega) (.cells #[.bool false, .slice none 0 0] 24)
  simp only [World.size_alloc] at py pq pr
  clear h g
  go_enter Tryd.func50, Tryd.ntmps50
  go_wp2_with fail
  obtain ⟨W, E⟩ : ∃ W, W = ((((w.alloc (.cells #[.bool n1, .slice A xs.length c] 24)).alloc (.cells #[.bool n2, .slice B ys.length d] 24)).alloc (.cells #[.bool false, .slice none 0 0] 24)).alloc (.cells #[.bool false, .slice none 0 0] 24)) := ⟨_, rfl⟩
  rw [← E] at px py pq pr b0 rx ry ⊢
  have hsz : W.heap.size = w.heap.size + 4 := by rw [E]; simp
  clear E
  have PX := Hd px
  have PY := Hd py
  have PQ := Hd pq
  have PR := Hd pr
  have B0 := Hd b0
  have RX := Hd rx
  have RY := Hd ry
  obtain ⟨l1, x0, x1, -, -⟩ := px.facts
  obtain ⟨l2, y0, y1, -, -⟩ := py.facts
  clear px py pq pr rx ry b0
  refine (exact_size_told A B c d xs ys hcx hcy (by omega) (by omega) W RX.out RY.out).mono ?_
  rintro e wz ⟨kz, rfl, hk, hbz⟩
  have hk2 := hk.1 hle
  have hdk : decide (kz < 0) = false := by simp; omega
  obtain ⟨-, xz0, xz1, -, -⟩ := (PX.out.below hbz).facts
  obtain ⟨-, yz0, yz1, -, -⟩ := (PY.out.below hbz).facts
  have B1 := Hd (belowTo B0.out hbz)
  have PX1 := Hd (PX.out.below hbz)
  have PY1 := Hd (PY.out.below hbz)
  have PQ1 := Hd (PQ.out.below hbz)
  have PR1 := Hd (PR.out.below hbz)
  have RX1 := Hd (RX.out.below hbz)
  have RY1 := Hd (RY.out.below hbz)
  have hz1 := hbz.size
  have hl1 := HL1.out
  have h0 : at0 ys 0 ≠ 0 := by
    rw [at0_lt (by omega)]
    exact hcy _ (getLast_get hl1)
  have hyv : val ys = at0 ys 0 := by
    match ys, hl1 with
    | [y], _ => simp [val, at0]
  have hxne : xs ≠ [] := by
    rintro rfl
    rw [hyv] at hle
    simp [val] at hle
    exact h0 hle
  obtain ⟨ad, rfl, hbl, hcy0⟩ := RY1.out.reads.get (k := 0) (by omega)
  have hcy1 : wz.cell? ad = some (.int .u32 ((at0 ys 0 : Nat) : Int)) := by
    rw [at0_lt (by omega)]
    simpa [Addr.add] using hcy0
  have hy2 := at0_limb RY1.out.limbs 0
  have C1 := Hd (slices_Clone A c xs (by omega) wz RX1.out)
  have hbn : ((1 : Int) == 1) = true := rfl
  have HYV := Hd hyv
  rw [hl1]
  generalize at0 ys 0 = y at h0 hcy1 hy2 HYV
  clear hk hk2 hbz l1 x0 x1 l2 y0 y1 PX PY RX RY B0 PQ PR hcy0 hyv hbn
  go_wp2_with fail
  refine C1.out.mono ?_
  rintro e w1 ⟨v, rfl, hv, hb1⟩
  obtain ⟨gl, cl, rfl, hgl, hcl, hfr⟩ := hv.front hxne
  have hcy2 : w1.cell? ad = some (.int .u32 (y : Int)) := (hb1.cell hbl).trans hcy1
  obtain ⟨-, yw0, yw1, -, -⟩ := (PY1.out.below hb1).facts
  have C2 := Hd (exact_short gl cl cl y xs (by omega) hy2 hv.limbs (by omega) w1 hfr)
  have hadl : ad.block < w1.heap.size := Nat.lt_of_lt_of_le hbl hb1.size
  clear hv hcy1 yz0 yz1 xz0 xz1 C1 hfr
  go_wp2_with fail
  refine C2.out.mono ?_
  rintro e V ⟨rfl, zq, hlq, hzq, hvq, hfq, hgr⟩
  have hb : Below wz.heap.size wz V := hb1.grown hgr hb1.size (fun k hk => by injection hk with hk; rw [← hk]; exact hgl)
  have PX2 := Hd (PX1.out.below hb)
  have PY2 := Hd (PY1.out.below hb)
  have PQ2 := Hd (PQ1.out.below hb)
  have PR2 := Hd (PR1.out.below hb)
  have B2 := Hd (belowTo B1.out hb)
  have hgV := hfq.lt
  have IQ := Hd (IntOwn.sv (neg := n1 != n2) hzq (by have := hfq.own hgl (Nat.le_refl _) hcl; rwa [List.take_length] at this) hfq.fits hcl)
  have e1 : ival (n1 != n2) zq = ival (n1 != n2) (natL (val xs / val ys)) := by unfold ival; rw [val_natL, hvq, HYV.out]
  rw [e1] at IQ
  have HBQ := Hd (fun g h => sv_blk (neg := n1 != n2) (a := ⟨gl, 0, none⟩) (c := cl) (zs := zq) (g := g) h)
  have C3 := Hd (fun (V' : World) (hV : Below V.heap.size V V') => exact_signed_sv (n1 != n2) (some ⟨gl, 0, none⟩) cl zq V' ((hfq.below hV).raw hcl hzq))
  obtain ⟨b1, A1, k1, c1, hs1⟩ := sv_form (n1 != n2) (some ⟨gl, 0, none⟩) cl zq
  rw [hs1] at C3 IQ HBQ
  rw [← hlq]
  have hrl : val xs % y < y := Nat.mod_lt _ (by omega)
  have hrest : val [val xs % y] = val xs % val ys := by rw [HYV.out]; simp [val]
  have HREST := Hd hrest
  generalize val xs % y = rest at hrl HREST
  have hrest2 : (rest : Int) < 4294967296 := by omega
  have hlimb : Limbs [rest] := by intro x hx; simp at hx; omega
  have e2 : ival n1 [rest] = ival n1 (natL (val xs % val ys)) := by unfold ival; rw [val_natL, HREST.out]
  have HLIMB := Hd hlimb
  have HE2 := Hd e2
  have C4 := Hd (fun (V' : World) (g : Nat) (hr : Row V' g [rest]) => exact_signed_sv n1 (some ⟨g, 0, none⟩) 1 [rest] V' (hr.front.raw (by simp) HLIMB.out))
  clear e1 e2 hs1 hfq hlq hvq hzq hb hgr hb1 PX1 PY1 PQ1 PR1 B1 C2 RX1 RY1 hdk yw0 yw1 hcy2 hrest hlimb hbl hadl
  have HW := Hd (Below.refl V.heap.size V)
  have hg1 : w.heap.size + 1 + 1 < wz.heap.size := by omega
  have hg2 : w.heap.size + 1 + 1 + 1 < wz.heap.size := by omega
  have hwV : wz.heap.size ≤ V.heap.size := by have := B2.out.size; omega
  go_wp2_with fail
  refine wp_region_steps [.val (.pointer (some ⟨w.heap.size, 0, none⟩)), .val (.bool n1), .val (.pointer (some ⟨w.heap.size + 1, 0, none⟩)), .val (.bool n2), .val (.bool (n1 != n2)), .val (.slice (some ⟨gl, 0, none⟩) zq.length cl), .val (.agg #[.bool b1, .slice A1 k1 c1]), .val (.pointer (some ⟨w.heap.size, 0, none⟩)), .val (.bool n1), .val (.int .u32 (rest : Int)), .step, .step, .step, .step] 2 4 V
    (fun us V' => match us with
      | [] => True
      | [u] => ∃ g, u = .slice (some ⟨g, 0, none⟩) 1 1 ∧ V.heap.size ≤ g ∧ Row V' g [rest]
      | [_, u] => IntOwn V' V.heap.size u (ival n1 (natL (val xs % val ys)))
      | _ => False)
    (fun us V' => match us with
      | [_, u, _] => AggBool u ∧ Stored w V' wz.heap.size (w.heap.size + 1 + 1) (w.heap.size + 1 + 1 + 1) (.agg #[.bool b1, .slice A1 k1 c1]) (ival (n1 != n2) (natL (val xs / val ys))) u (ival n1 (natL (val xs % val ys))) b1 (.slice A1 k1 c1) false (.slice none 0 0)
      | [_, u, _, _] => Stored2 w V' wz.heap.size (w.heap.size + 1 + 1) (w.heap.size + 1 + 1 + 1) (.agg #[.bool b1, .slice A1 k1 c1]) (ival (n1 != n2) (natL (val xs / val ys))) u (ival n1 (natL (val xs % val ys))) b1 (.slice A1 k1 c1)
      | _ => False)
    _ mixedOrders2 (by kernel_rfl) (by kernel_rfl) (by kernel_rfl) (by kernel_rfl) (by kernel_rfl) (by kernel_rfl) (by kernel_rfl) (by kernel_rfl) (by kernel_rfl) rfl ?_ HW.out trivial ?_ ?_ ?_
  · intro us V1 V2 hg hb
    match us, hg with
    | [], _ => trivial
    | [u], ⟨g, h1, h2, h3⟩ => exact ⟨g, h1, h2, h3.below hb⟩
    | [_, u], hg => exact hg.below hb
  · simp [ValsOk, chainAct, fill, pairs, valAt]
    repeat' apply And.intro
    all_goals
      intro V' hV
      obtain ⟨-, e0, e1, -, -⟩ := (PX2.out.below hV).facts
      obtain ⟨-, f0, f1, -, -⟩ := (PY2.out.below hV).facts
      have HV := Hd hV
      clear hV
      go_simp
      first
      | exact Below.refl _ _
      | exact ⟨by cases n1 <;> cases n2 <;> rfl, Below.refl _ _⟩
      | (with_reducible refine (C3.out V' HV.out).mono ?_; rintro e w' ⟨rfl, hb⟩; exact ⟨rfl, hb⟩)
  · simp [StepsOk, chainAct, fill, pairs, valAt, stepNo, List.filter, Stp.isStep]
    refine ⟨fun V' hV => ?_, fun va => ⟨fun V' hV g h1 h2 h3 => ?_, fun vb => ⟨fun V' hV hI => ?_, fun V' h1 hst => ?_⟩⟩⟩
    · have HV := Hd hV
      have hsz2 := hV.size
      clear hV
      go_simp
      exact ⟨HV.out.alloc hsz2 _, ⟨Blk.new V' _ _⟩⟩
    · have C5 := C4.out V' g h3
      obtain ⟨b2, A2, k2, c2, hs2⟩ := sv_form n1 (some ⟨g, 0, none⟩) 1 [rest]
      have I2 := Hd (IntOwn.sv (neg := n1) (c := 1) HLIMB.out (by have := h3.front.own h2 (Nat.le_refl _) (by simp); rwa [List.take_length] at this) (Nat.le_refl _) (by simp))
      rw [hs2] at C5 I2
      rw [HE2.out] at I2
      have H5 := Hd C5
      have HV := Hd hV
      clear hV C5 h3 hs2
      subst h1
      go_simp
      refine H5.out.mono ?_
      rintro e w' ⟨rfl, hb⟩
      exact ⟨belowTo HV.out hb, I2.out.below hb⟩
    · obtain ⟨A2, c2, hform, -, -, hown⟩ := hI.form
      have st : Stored w V' wz.heap.size (w.heap.size + 1 + 1) (w.heap.size + 1 + 1 + 1) (.agg #[.bool b1, .slice A1 k1 c1]) (ival (n1 != n2) (natL (val xs / val ys))) vb (ival n1 (natL (val xs % val ys))) false (.slice none 0 0) false (.slice none 0 0) :=
        ⟨⟨IQ.out.below hV, hI.base hwV, fun g h1 h2 => by
          have e := HBQ.out g h1
          rw [hform] at h2
          have h3 := (hown.lt g h2).1
          have e2 : gl = g := e
          omega⟩, PQ2.out.below hV, PR2.out.below hV, belowTo B2.out hV⟩
      obtain ⟨q1, q2, q3, q4, q5⟩ := st.pq.facts
      have S := Hd (st.one hg1 (by omega) (by omega) b1 (.slice A1 k1 c1))
      have HF2 : AggBool vb := ⟨_, _, _, _, hform⟩
      clear st hown hI hV
      subst hform
      go_simp
      exact S.out
    · obtain ⟨b2, A2, k2, c2, rfl⟩ := h1
      obtain ⟨q1, q2, q3, q4, q5⟩ := hst.pr.facts
      have S := Hd (hst.two hg2 (by omega) (by omega) b2 (.slice A2 k2 c2))
      clear hst
      go_simp
      exact ⟨_, _, rfl, S.out⟩
  · intro us V' hus hF
    obtain ⟨u0, u1, u2, u3, rfl⟩ : ∃ u0 u1 u2 u3, us = [u0, u1, u2, u3] := by
      match us, hus with
      | [u0, u1, u2, u3], _ => exact ⟨u0, u1, u2, u3, rfl⟩
    simp only [show ¬ (4 ≤ 2) by decide, if_false] at hF
    obtain ⟨b2, s2, rfl, hF⟩ := hF.ex
    simp [chainAct, fill, pairs, valAt, stepNo, List.filter, Stp.isStep]
    obtain ⟨_, k0, k1, _, _⟩ := hF.pq.facts
    obtain ⟨_, k2, k3, _, _⟩ := hF.pr.facts
    have HF := Hd hF
    clear hF PX2 PY2
    go_wp2_with fail
    exact bodyPost_ret (by simp [results, Tryd.results50, go_sem, k0, k1, k2, k3]) rfl ⟨_, _, rfl, HF.out.ints.base (by omega), HF.out.low⟩

theorem quo_val (n1 n2 : Bool) (xs ys : List Nat) : ival (n1 != n2) (natL (val xs / val ys)) = (ival n1 xs).tdiv (ival n2 ys) ∧ ival n1 (natL (val xs % val ys)) = (ival n1 xs).tmod (ival n2 ys) := by
  unfold ival
  rw [val_natL, val_natL]
  have e1 : ((val xs % val ys : Nat) : Int) = (val xs : Int).tmod (val ys : Int) := by rw [Int.ofNat_tmod]
  rw [e1]
  cases n1 <;> cases n2 <;> simp [Int.neg_tdiv, Int.tdiv_neg, Int.neg_tmod, Int.tmod_neg]
theorem exact_Divide (n1 n2 : Bool) (A B : Option Addr) (c d : Nat) (xs ys : List Nat) (hcx : Canon xs) (hcy : Canon ys) (hne : ys ≠ []) (hlx : xs.length ≤ 536870912) (hly : ys.length ≤ 536870912) (w : World) (h : Raw w A c xs) (g : Raw w B d ys) :
    Calls Tryd.prog 50 #[.agg #[.bool n1, .slice A xs.length c], .agg #[.bool n2, .slice B ys.length d]] w (RetTwo w.heap.size w ((ival n1 xs).tdiv (ival n2 ys)) ((ival n1 xs).tmod (ival n2 ys))) := by
  rw [← (quo_val n1 n2 xs ys).1, ← (quo_val n1 n2 xs ys).2]
  rcases Nat.lt_or_ge (val xs) (val ys) with hlt | hle
  · have e1 : ival (n1 != n2) (natL (val xs / val ys)) = 0 := by
      rw [Nat.div_eq_of_lt hlt]; unfold ival; rw [val_natL]; cases n1 <;> cases n2 <;> rfl
    have e2 : ival n1 (natL (val xs % val ys)) = ival n1 xs := by
      rw [Nat.mod_eq_of_lt hlt]; unfold ival; rw [val_natL]
    rw [e1, e2]
    exact exact_Divide_less n1 n2 A B c d xs ys hcx hcy hlt hlx hly w h g
  · have h1 : 1 ≤ ys.length := by
      rcases Nat.eq_zero_or_pos ys.length with h0 | h0
      · exact absurd (List.eq_nil_of_length_eq_zero h0) hne
      · exact h0
    rcases Nat.lt_or_ge 1 ys.length with h2 | h2
    · exact exact_Divide_many n1 n2 A B c d xs ys hcx hcy hle h2 hlx hly w h g
    · exact exact_Divide_one n1 n2 A B c d xs ys hcx hcy hle (by omega) hlx hly w h g
end Go.Proofs.YtbdliabfdplohaaDoor
